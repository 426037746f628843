/- Texts of this proof, one behind the other: InZ Shelf Lib ChrA ChrB ChrC ParL ParA ParC ParD Fnd FldA FldB FldG FldD FldE ChrD ChrN Base SplL SplA SplB JrnL JrnA JrnB JrnC JrnG JrnP StoL StoA SplC SplS SplD StoB StoN. -/
import Derived.WideShapes
import Derived.ChangeArms
import Derived.SizedLaws
import Derived.Shelf.Strings.SlTrimAscii
import Derived.Shelf.Strings.Trim
import Derived.Shelf.Small.Utf8
import Derived.Shelf.Small.Strs
import Derived.Shelf.Small.Wraps
import Derived.Shelf.Strconv.Itoa0
import Derived.Shelf.Strconv.Itoa1
import Derived.Shelf.LaysM
import Derived.Shelf.Strconv.Itoa2
import Derived.Shelf.Strconv.Itoa3
import Derived.Shelf.Strings.Search1
import Derived.Shelf.Strings.Search2
import Derived.Shelf.Strings.Search3
import Derived.Shelf.Strings.Cut
import Derived.Shelf.Strings.Count
import Derived.Shelf.Strings.Shaped
import Derived.Shelf.Strings.Prefix
import Derived.Shelf.Strings.Split
import Derived.Shelf.Strings.Runes
import Derived.Shelf.Strings.IndexAny
import Derived.Shelf.Strings.AsciiSet
import Derived.Shelf.Strings.IndexAnyAll
import Derived.Shelf.Unicode.DecodeSlow
import Derived.Test.YtkjepecoodjbmaaGreatDoorProg
import Derived.Below
import Derived.Test.YtkjepecoodjbmaaGreatDoorMb
set_option linter.all false
namespace Go.Ab
open Go Go.Sep
variable [Facts]
def wfI (n:Int):Prop:= -9223372036854775808≤n∧n≤9223372036854775807
theorem zvB {n:Int} (h:(Lit.int .i64 n).wf=true):wfI n:=by
 simp only [Lit.wf,jK,decide_eq_true_eq] at h
 have h1:IntKind.i64.min= -9223372036854775808:=by decide
 have h2:IntKind.i64.max=9223372036854775807:=by decide
 rw [h1,h2] at h;exact h
def wfS {α:Type} (s:List α):Prop:=s.length≤140737488355328
def zq4 (f:Fld):Prop:=wfS f.name∧wfS f.value
def wfHd (h:Hd):Prop:=wfS h.method∧wfS h.target∧wfI h.minor∧(wfS h.fields∧∀ f ∈ h.fields,zq4 f)∧wfI h.length
def zt0 (p:Prt):Prop:=wfS p.name∧wfS p.file∧wfS p.type∧wfS p.bytes
def wfZ:(u:U)→u.den→Prop
 |.byte,_=>True
 |.int,n=>wfI n
 |.str,(s:Str)=>wfS s
 |.fld,f=>zq4 f
 |.bytes,(b:Str)=>wfS b
 |.hd,h=>wfHd h
 |.prt,p=>zt0 p
 |.evt,(e:Evt)=>wfI e.kind∧wfHd e.head∧wfS e.bytes∧zt0 e.part∧wfI e.code
 |.upl,(x:Upl)=>wfI x.id∧wfI x.size∧wfS x.note∧wfS x.bytes∧wfI x.sent
 |.ent,(e:Ent)=>wfI e.kind∧wfI e.id∧wfI e.n∧wfS e.text
 |.stp,(e:Stp)=>wfI e.kind∧wfI e.conn∧wfI e.n∧wfS e.bytes
 |.ask,(a:Ask)=>wfHd a.h∧wfS a.body
 |.cal,(c:Cal)=>wfI c.conn∧wfS c.b
 |.lst,(e:Lst)=>wfI e.op∧wfI e.n∧wfS e.b
 |.sst,(e:Sst)=>wfI e.op∧wfI e.id∧wfI e.n∧wfS e.text
 |.rpl,(r:Rpl)=>wfI r.status∧(wfS r.fields∧∀ f ∈ r.fields,zq4 f)∧wfS r.body
 |.prw,p=>zt0 p
 |.med,(m:Med)=>wfS m.word∧(wfS m.params∧∀ f ∈ m.params,zq4 f)
 |_,_=>True
abbrev Small {H:Type} (Pr:Program) (t:TypeId) (d:DataW H):Prop:=(d.weights Pr t).all (· ≤reachBytes)=true
section
variable {H:Type} {hsh:TypeId × Value→H} {Pr:Program} {w:World} {hF:Holds w} {base:Nat} {spare:Nat→Bool} {held:Bool}
def YM (hsh:TypeId × Value→H) (Pr:Program) (w:World) (hF:Holds w) (base:Nat) (spare:Nat→Bool) (held:Bool) (t:TypeId) (Q:List P→Prop):Prop:=
 ∀ fuel cs y,DataW.trod hsh Pr w base spare held fuel t cs=some y→Small Pr t y.1→∃ ps,MPs (frzW w hF) ps cs∧Q ps
theorem YM.mono {t:TypeId} {Q Q':List P→Prop} (h:YM hsh Pr w hF base spare held t Q) (hq: ∀ ps,Q ps→Q' ps):YM hsh Pr w hF base spare held t Q':=by
 intro fuel cs y hy hs;obtain⟨ps,h1,h2⟩:=h fuel cs y hy hs;exact⟨ps,h1,hq _ h2⟩
def QU (u:U) (ps:List P):Prop:=∃ x:u.den,ps=enc alg u x∧wfZ u x
def QL (u:U) (ps:List P):Prop:=∃ l:List u.den,ps=[.list u l]∧wfS l∧∀ x ∈ l,wfZ u x
theorem op_int {t:TypeId} (ht:Pr.underlying t=some (.int .i64)):YM hsh Pr w hF base spare held t (QU .int):=by
 intro fuel cs y h _;obtain⟨n,rfl,hn⟩:=zoM ht fuel cs y h;exact⟨[.int .i64 n],⟨.int _ _,trivial⟩,n,rfl,zvB hn⟩
theorem op_byte {t:TypeId} (ht:Pr.underlying t=some (.int .u8)):YM hsh Pr w hF base spare held t (QU .byte):=by
 intro fuel cs y h _;obtain⟨c,hc⟩:=zmg ht fuel cs y h;exact⟨enc alg .byte c,zuM hc,c,rfl,trivial⟩
theorem zrP {n:Nat} (h:n≤reachBytes):n≤140737488355328:=Nat.le_trans h (by decide)
def elemsOf:DataW H→List (DataW H)
 |.slice es _=>es
 |_=>[]
theorem zhQ {α:Type} {t e:TypeId} {size:Nat} {R:Sep.Rel α} (ht:Pr.underlying t=some (.slice e)) (hs:Pr.cellsOf e=size) {fuel:Nat} {cs:List Value} {y:DataW H × List MemPlace}
  (h:DataW.trod hsh Pr w base spare held fuel t cs=some y) (he: ∀ n ci z,z.1 ∈ elemsOf y.1→DataW.trod hsh Pr w base spare held n e ci=some z→∃ x,R w ci x):
  ∃ xs,RSl size R w cs xs∧xs.length=(elemsOf y.1).length:=by
 rcases DataW.trod_slice ht h with⟨rfl,rfl⟩|⟨a,len,cap,elems,rest,n,_,rfl,rfl,_,hl,hm,hlen,hel,_,_⟩
 · exact⟨[],⟨_,[],rfl,⟨none,0,rfl,jL _,jM _,fun _=>rfl,by simp,fun j u h=>by simp at h⟩,fun i x h=>by simp at h⟩,rfl⟩
 · subst hs
   have each: ∀ i,i<len→∃ ci:List Value,ci.length=Pr.cellsOf e∧(∀ j u,ci[j]? =some u→w.cell? ((a.add (i * Pr.cellsOf e)).add j)=some u)∧∃ x,R w ci x:=by
    intro i hi;have h1:=hel i hi
    rw [jm (by omega),Option.bind_eq_some_iff] at h1
    obtain⟨ci,hci,hy⟩:=h1;obtain⟨h2,h3⟩:=cells?_get hci;exact⟨ci,h2,h3,he n ci _ (List.mem_map_of_mem (List.getElem_mem _)) hy⟩
   have all: ∀ m,m≤len→∃ (vs:List Value) (xs:List α),xs.length=m∧vs.length=m * Pr.cellsOf e∧(∀ j u,vs[j]? =some u→w.cell? (a.add j)=some u)∧∀ i x,xs[i]? =some x→R w ((vs.drop (i * Pr.cellsOf e)).take (Pr.cellsOf e)) x:=by
    intro m
    induction m with
    |zero=>intro _;exact⟨[],[],rfl,by simp,fun j u h=>by simp at h,fun i x h=>by simp at h⟩
    | succ m ih=>
      intro hm'
      obtain⟨vs,xs,h1,h2,h3,h4⟩:=ih (by omega)
      obtain⟨ci,c1,c2,x,c3⟩:=each m (by omega)
      refine⟨vs++ci,xs++[x],by simp [h1],by simp [h2,c1,Nat.succ_mul],fun j u hj=> ?_,fun i z hi=> ?_⟩
      · rcases Nat.lt_or_ge j vs.length with hj1|hj1
        · rw [jy hj1] at hj;exact h3 j u hj
        · rw [jA hj1] at hj
          have h5:=c2 _ _ hj
          rw [Addr.add_add,h2,show m * Pr.cellsOf e+(j - m * Pr.cellsOf e)=j by omega] at h5
          exact h5
      · rcases Nat.lt_or_ge i xs.length with hi1|hi1
        · rw [jy hi1] at hi
          have h5:=h4 i z hi
          have h6:i * Pr.cellsOf e+Pr.cellsOf e≤vs.length:=by rw [h2,← Nat.succ_mul];exact Nat.mul_le_mul_right _ (by omega)
          rw [List.drop_append_of_le_length (by omega),List.take_append_of_le_length (by simp;omega)]
          exact h5
        · rw [jA hi1] at hi
          have hi2:i=m:=by
           have:=(jl.1 hi).1
           simp at this;omega
          subst hi2;rw [h1,Nat.sub_self] at hi
          simp at hi
          subst hi
          rw [← h2,List.drop_left,jq (by omega)]
          exact c3
   obtain⟨vs,xs,h1,h2,h3,h4⟩:=all len (jL _)
   refine⟨xs,⟨_,vs,rfl,⟨some a,cap,by rw [h1],by omega,hm,(fun h=>by cases h),by rw [h1];exact h2,fun j u hj=> ?_⟩,h4⟩,by simp [elemsOf,h1,hlen]⟩
   have hsp:a.spot=none:=by
    cases hv:vs with
    |nil=>rw [hv] at hj;simp at hj
    | cons u0 r=>
      have:=h3 0 u0 (by rw [hv];rfl)
      rw [show a.add 0=a by simp [Addr.add]] at this
      exact zua this
   exact⟨⟨a,rfl,hsp⟩,by rw [← TL hsp];exact h3 j u hj⟩
theorem weightsAll_mem {e:TypeId}: ∀ {es:List (DataW H)} {d:DataW H},d ∈ es→∀ n ∈ d.weights Pr e,n ∈ DataW.weightsAll Pr e es
 | x::es,d,hd,n,hn=>by
   simp only [DataW.weightsAll,List.mem_append]
   rcases List.mem_cons.1 hd with rfl|hd
   · exact .inl hn
   · exact .inr (weightsAll_mem hd n hn)
theorem zlX {t e:TypeId} (ht:Pr.underlying t=some (.slice e)) {d z:DataW H} (h:Small Pr t d) (hz:z ∈ elemsOf d):Small Pr e z:=by
 cases d<;>simp only [elemsOf,List.not_mem_nil] at hz
 refine List.all_eq_true.2 fun n hn=>List.all_eq_true.1 h n ?_;simp only [DataW.weights,ht,List.mem_cons,List.mem_append];exact .inr (.inl (weightsAll_mem hz n hn))
theorem znA {t e:TypeId} (ht:Pr.underlying t=some (.slice e)) (hb:Nat.blt 0 (Pr.bytesOf e)=true) {d:DataW H} (h:Small Pr t d):(elemsOf d).length≤140737488355328:=by
 cases d<;>simp only [elemsOf]<;>try exact jM _
 rename_i es ss
 have h1:=List.all_eq_true.1 h ((es.length+ss.length) * Pr.bytesOf e) (by simp [DataW.weights,ht])
 have hb:0<Pr.bytesOf e:=by simpa [Nat.blt_eq] using hb
 refine zrP (Nat.le_trans (Nat.le_trans (Nat.le_add_right _ ss.length) (Nat.le_mul_of_pos_right _ hb)) (by simpa using h1))
theorem op_list {t e:TypeId} {u:U} (ht:Pr.underlying t=some (.slice e)) (hc:Pr.cellsOf e=u.size) (hb:Nat.blt 0 (Pr.bytesOf e)=true) (he:YM hsh Pr w hF base spare held e (QU u)):
  YM hsh Pr w hF base spare held t (QL u):=by
 intro fuel cs y h hs
 obtain⟨l,hl,hlen⟩:=zhQ (R:=fun _ cs (x:u.den)=>MPs (frzW w hF) (enc alg u x) cs∧wfZ u x) ht hc h (fun n ci z hz ht'=>by
  obtain⟨ps,h1,x,rfl,hx⟩:=he n ci z ht' (zlX ht hs hz)
  exact⟨x,h1,hx⟩)
 have hl':=hl;obtain⟨v,vs,rfl,_,hx⟩:=hl
 refine⟨[.list u l],⟨zuL (fun _ _ h=>h.1) hl',trivial⟩,l,rfl,by unfold wfS;rw [hlen];exact znA ht hb hs,fun x hm=> ?_⟩
 obtain⟨i,hi⟩:=List.getElem?_of_mem hm;exact(hx i x hi).2
def QAll:List (List P→Prop)→List P→Prop
 |[],ps=>ps=[]
 |Q::Qs,ps=>∃ a b,ps=a++b∧Q a∧QAll Qs b
def lays (Pr:Program):Nat→List Field→Nat→Bool
 |o,[],n=>Nat.beq o n
 |o,f::fs,n=>Nat.beq f.offset o&&lays Pr (o+Pr.cellsOf f.type) fs n
def zhD (hsh:TypeId × Value→H) (Pr:Program) (w:World) (hF:Holds w) (base:Nat) (spare:Nat→Bool) (held:Bool):List Field→List (List P→Prop)→Prop
 |[],[]=>True
 |f::fs,Q::Qs=>YM hsh Pr w hF base spare held f.type Q∧zhD hsh Pr w hF base spare held fs Qs
 |_,_=>False
theorem zhD.nil:zhD hsh Pr w hF base spare held [] []:=trivial
theorem zhD.cons {f:Field} {fs:List Field} {Q:List P→Prop} {Qs:List (List P→Prop)} (h:YM hsh Pr w hF base spare held f.type Q) (k:zhD hsh Pr w hF base spare held fs Qs):zhD hsh Pr w hF base spare held (f::fs) (Q::Qs):=⟨h,k⟩
theorem MPs.append {S:Frz}: ∀ {a b:List P} {x y:List Value},MPs S a x→MPs S b y→MPs S (a++b) (x++y)
 |[],_,[],_,_,h=>h
 |_::_,_,_::_,_,h,k=>⟨h.1,MPs.append h.2 k⟩
theorem zfT {cs:List Value}: ∀ (fs:List Field) (Qs:List (List P→Prop)) (o:Nat),lays Pr o fs cs.length=true→zhD hsh Pr w hF base spare held fs Qs→
  (∀ f ∈ fs,∃ n z,DataW.trod hsh Pr w base spare held n f.type ((cs.drop f.offset).take (Pr.cellsOf f.type))=some z∧Small Pr f.type z.1)→∃ ps,MPs (frzW w hF) ps (cs.drop o)∧QAll Qs ps
 | [],[],o,hl,_,_=>by
   have:=jI hl
   exact⟨[],by rw [jF (by omega)];trivial,rfl⟩
 | f::fs,Q::Qs,o,hl,hq,hz=>by
   simp only [lays,jK] at hl;have ho:=jI hl.1
   obtain⟨n,z,h1,h2⟩:=hz f (by simp)
   rw [ho] at h1;obtain⟨p1,m1,q1⟩:=hq.1 n _ z h1 h2
   obtain⟨p2,m2,q2⟩:=zfT fs Qs _ hl.2 hq.2 (fun g hg=>hz g (by simp [hg]))
   refine⟨p1++p2,?_,p1,p2,rfl,q1,q2⟩;have:=m1.append m2
   rwa [← List.drop_drop,List.take_append_drop] at this
 |[],_::_,_,_,h,_=>h.elim
 |_::_,[],_,_,h,_=>h.elim
theorem op_struct {t:TypeId} {fs:Array Field} {Qs:List (List P→Prop)} (ht:Pr.underlying t=some (.struct fs)) (hl:lays Pr 0 fs.toList (Pr.cellsOf t)=true) (hq:zhD hsh Pr w hF base spare held fs.toList Qs):
  YM hsh Pr w hF base spare held t (QAll Qs):=by
 intro fuel cs y h hs;obtain⟨xs,n,_,rfl,hcl,hxl,hf⟩:=DataW.trod_struct ht h
 have:=zfT fs.toList Qs 0 (by rw [hcl];exact hl) hq (fun f hfm=>by
  obtain⟨i,hi⟩:=List.getElem?_of_mem hfm
  have hi':fs[i]? =some f:=by simpa using hi
  have hlt:i<xs.length:=by rw [hxl];exact(Array.getElem?_eq_some_iff.1 hi').1
  refine⟨n,xs[i],by rw [hf i f hi',jm hlt],List.all_eq_true.2 fun k hk=>List.all_eq_true.1 hs k ?_⟩
  simp only [DataW.weights,ht]
  exact DataW.weights_mem_each (j:=i) (t:=f.type) (by simp [hi']) (by simp [hlt]) k hk)
 simpa using this
theorem q_stp (ps:List P) (h:QAll [QU .int,QU .int,QU .int,QL .byte] ps):QU .stp ps:=by
 obtain⟨_,_,rfl,⟨a,rfl,ha⟩,_,_,rfl,⟨b,rfl,hb⟩,_,_,rfl,⟨c,rfl,hc⟩,_,_,rfl,⟨d,rfl,hd,_⟩,rfl⟩:=h;exact⟨(⟨a,b,c,d⟩:Stp),rfl,ha,hb,hc,hd⟩
theorem z_one {t:TypeId} {v:Value} {d:DataW H} {ps:List MemPlace} {Q:List P→Prop} (hr:v.oneCell'=true) (h:DataW.Trod hsh Pr w base spare held t v d ps) (hs:Small Pr t d) (ho:YM hsh Pr w hF base spare held t Q): ∃ qs,MPs (frzW w hF) qs [v]∧Q qs:=by
 obtain⟨fuel,hf⟩:=h
 have hc:v.cells.toList=[v]:=by cases v<;>first|rfl|cases hr
 rw [hc] at hf;exact ho fuel _ _ hf hs
theorem small_nth {ts:List TypeId} {ds:List (DataW H)} (h:(DataW.weightsEach Pr ts ds).all (· ≤reachBytes)=true) {j:Nat} {t:TypeId} {d:DataW H} (ht:ts[j]? =some t) (hd:ds[j]? =some d):Small Pr t d:=
 List.all_eq_true.2 fun n hn=>List.all_eq_true.1 h n (DataW.weights_mem_each ht hd n hn)
end
end Go.Ab
namespace Go.Proofs
open Go.Shelf
def Tryz.zih:Go.Shelf.Ren:=⟨fun|161=>278|231=>265|227=>234|233=>267|235=>269|228=>235|197=>283|151=>284|260=>293|152=>232|137=>231|119=>262|224=>263|225=>264|217=>261|266=>282|n=>n,fun|9=>9|4=>4|3=>3|5=>5|117=>275|116=>274|0=>0|124=>295|105=>306|21=>21|119=>316|46=>117|139=>319|138=>318|n=>n,fun|3=>4|4=>5|n=>n⟩
theorem Tryz.lays161:Go.Proofs.Lays.n161 Tryz.prog Tryz.zih:= {
 mixed:=by kernel_rfl
 f119:=Tryz.func262.trans (congrArg some (by kernel_rfl))
 f137:=Tryz.func231.trans (congrArg some (by kernel_rfl))
 f151:=Tryz.func284.trans (congrArg some (by kernel_rfl))
 f152:=Tryz.func232.trans (congrArg some (by kernel_rfl))
 f161:=Tryz.func278.trans (congrArg some (by kernel_rfl))
 f197:=Tryz.func283.trans (congrArg some (by kernel_rfl))
 f217:=Tryz.func261.trans (congrArg some (by kernel_rfl))
 f224:=Tryz.func263.trans (congrArg some (by kernel_rfl))
 f225:=Tryz.func264.trans (congrArg some (by kernel_rfl))
 f227:=Tryz.func234.trans (congrArg some (by kernel_rfl))
 f228:=Tryz.func235.trans (congrArg some (by kernel_rfl))
 f231:=Tryz.func265.trans (congrArg some (by kernel_rfl))
 f233:=Tryz.func267.trans (congrArg some (by kernel_rfl))
 f235:=Tryz.func269.trans (congrArg some (by kernel_rfl))
 f260:=Tryz.func293.trans (congrArg some (by kernel_rfl))
 f266:=Tryz.func282.trans (congrArg some (by kernel_rfl))
 t0:=Tryz.underlying0
 a0:=Tryz.isAgg0
 z0:=Tryz.sizeOf0
 v0:=Tryz.zeroValue0
 t3:=Tryz.underlying3
 a3:=Tryz.isAgg3
 z3:=Tryz.sizeOf3
 v3:=Tryz.zeroValue3
 t4:=Tryz.underlying4
 a4:=Tryz.isAgg4
 z4:=Tryz.sizeOf4
 v4:=Tryz.zeroValue4
 t5:=Tryz.underlying5
 a5:=Tryz.isAgg5
 z5:=Tryz.sizeOf5
 v5:=Tryz.zeroValue5
 t9:=Tryz.underlying9
 a9:=Tryz.isAgg9
 z9:=Tryz.sizeOf9
 v9:=Tryz.zeroValue9
 t21:=Tryz.underlying21
 a21:=Tryz.isAgg21
 z21:=Tryz.sizeOf21
 v21:=Tryz.zeroValue21
 t46:=Tryz.underlying117
 a46:=Tryz.isAgg117
 z46:=Tryz.sizeOf117
 v46:=Tryz.zeroValue117
 t105:=Tryz.underlying306
 a105:=Tryz.isAgg306
 z105:=Tryz.sizeOf306
 v105:=Tryz.zeroValue306
 t116:=Tryz.underlying274
 a116:=Tryz.isAgg274
 z116:=Tryz.sizeOf274
 t117:=Tryz.underlying275
 a117:=Tryz.isAgg275
 z117:=Tryz.sizeOf275
 v117:=Tryz.zeroValue275
 t119:=Tryz.underlying316
 a119:=Tryz.isAgg316
 z119:=Tryz.sizeOf316
 t124:=Tryz.underlying295
 a124:=Tryz.isAgg295
 z124:=Tryz.sizeOf295
 v124:=Tryz.zeroValue295
 t138:=Tryz.underlying318
 a138:=Tryz.isAgg318
 z138:=Tryz.sizeOf318
 v138:=Tryz.zeroValue318
 t139:=Tryz.underlying319
 a139:=Tryz.isAgg319
 z139:=Tryz.sizeOf319
 v139:=Tryz.zeroValue319
 g3:=by kernel_rfl
 g4:=by kernel_rfl}
def Tryz.zii:Go.Shelf.Ren:=⟨fun|160=>237|232=>266|231=>265|227=>234|234=>268|233=>267|236=>270|235=>269|228=>235|271=>285|151=>284|197=>283|120=>294|152=>232|260=>293|137=>231|119=>262|224=>263|225=>264|217=>261|266=>282|n=>n,fun|9=>9|4=>4|3=>3|5=>5|117=>275|116=>274|0=>0|124=>295|21=>21|105=>306|46=>117|119=>316|139=>319|138=>318|n=>n,fun|3=>4|4=>5|n=>n⟩
theorem Tryz.lays160:Go.Proofs.Lays.n160 Tryz.prog Tryz.zii:= {
 mixed:=by kernel_rfl
 f119:=Tryz.func262.trans (congrArg some (by kernel_rfl))
 f120:=Tryz.func294.trans (congrArg some (by kernel_rfl))
 f137:=Tryz.func231.trans (congrArg some (by kernel_rfl))
 f151:=Tryz.func284.trans (congrArg some (by kernel_rfl))
 f152:=Tryz.func232.trans (congrArg some (by kernel_rfl))
 f160:=Tryz.func237.trans (congrArg some (by kernel_rfl))
 f197:=Tryz.func283.trans (congrArg some (by kernel_rfl))
 f217:=Tryz.func261.trans (congrArg some (by kernel_rfl))
 f224:=Tryz.func263.trans (congrArg some (by kernel_rfl))
 f225:=Tryz.func264.trans (congrArg some (by kernel_rfl))
 f227:=Tryz.func234.trans (congrArg some (by kernel_rfl))
 f228:=Tryz.func235.trans (congrArg some (by kernel_rfl))
 f231:=Tryz.func265.trans (congrArg some (by kernel_rfl))
 f232:=Tryz.func266.trans (congrArg some (by kernel_rfl))
 f233:=Tryz.func267.trans (congrArg some (by kernel_rfl))
 f234:=Tryz.func268.trans (congrArg some (by kernel_rfl))
 f235:=Tryz.func269.trans (congrArg some (by kernel_rfl))
 f236:=Tryz.func270.trans (congrArg some (by kernel_rfl))
 f260:=Tryz.func293.trans (congrArg some (by kernel_rfl))
 f266:=Tryz.func282.trans (congrArg some (by kernel_rfl))
 f271:=Tryz.func285.trans (congrArg some (by kernel_rfl))
 t0:=Tryz.underlying0
 a0:=Tryz.isAgg0
 z0:=Tryz.sizeOf0
 v0:=Tryz.zeroValue0
 t3:=Tryz.underlying3
 a3:=Tryz.isAgg3
 z3:=Tryz.sizeOf3
 v3:=Tryz.zeroValue3
 t4:=Tryz.underlying4
 a4:=Tryz.isAgg4
 z4:=Tryz.sizeOf4
 v4:=Tryz.zeroValue4
 t5:=Tryz.underlying5
 a5:=Tryz.isAgg5
 z5:=Tryz.sizeOf5
 v5:=Tryz.zeroValue5
 t9:=Tryz.underlying9
 a9:=Tryz.isAgg9
 z9:=Tryz.sizeOf9
 v9:=Tryz.zeroValue9
 t21:=Tryz.underlying21
 a21:=Tryz.isAgg21
 z21:=Tryz.sizeOf21
 v21:=Tryz.zeroValue21
 t46:=Tryz.underlying117
 a46:=Tryz.isAgg117
 z46:=Tryz.sizeOf117
 v46:=Tryz.zeroValue117
 t105:=Tryz.underlying306
 a105:=Tryz.isAgg306
 z105:=Tryz.sizeOf306
 v105:=Tryz.zeroValue306
 t116:=Tryz.underlying274
 a116:=Tryz.isAgg274
 z116:=Tryz.sizeOf274
 t117:=Tryz.underlying275
 a117:=Tryz.isAgg275
 z117:=Tryz.sizeOf275
 v117:=Tryz.zeroValue275
 t119:=Tryz.underlying316
 a119:=Tryz.isAgg316
 z119:=Tryz.sizeOf316
 t124:=Tryz.underlying295
 a124:=Tryz.isAgg295
 z124:=Tryz.sizeOf295
 v124:=Tryz.zeroValue295
 t138:=Tryz.underlying318
 a138:=Tryz.isAgg318
 z138:=Tryz.sizeOf318
 v138:=Tryz.zeroValue318
 t139:=Tryz.underlying319
 a139:=Tryz.isAgg319
 z139:=Tryz.sizeOf319
 v139:=Tryz.zeroValue319
 g3:=by kernel_rfl
 g4:=by kernel_rfl}
def Tryz.zik:Go.Shelf.Ren:=⟨fun|137=>231|217=>261|266=>282|n=>n,fun|9=>9|5=>5|3=>3|n=>n,fun|n=>n⟩
theorem Tryz.lays137:Go.Proofs.Lays.n137 Tryz.prog Tryz.zik:= {
 mixed:=by kernel_rfl
 f137:=Tryz.func231.trans (congrArg some (by kernel_rfl))
 f217:=Tryz.func261.trans (congrArg some (by kernel_rfl))
 f266:=Tryz.func282.trans (congrArg some (by kernel_rfl))
 t3:=Tryz.underlying3
 a3:=Tryz.isAgg3
 z3:=Tryz.sizeOf3
 v3:=Tryz.zeroValue3
 t5:=Tryz.underlying5
 a5:=Tryz.isAgg5
 z5:=Tryz.sizeOf5
 v5:=Tryz.zeroValue5
 t9:=Tryz.underlying9
 a9:=Tryz.isAgg9
 z9:=Tryz.sizeOf9
 v9:=Tryz.zeroValue9}
def Tryz.zil:Go.Shelf.Ren:=⟨fun|103=>181|210=>218|206=>85|n=>n,fun|9=>9|4=>4|24=>201|3=>3|n=>n,fun|n=>n⟩
theorem Tryz.zuH:Go.Proofs.Lays.n103 Tryz.prog Tryz.zil:= {
 mixed:=by kernel_rfl
 f103:=Tryz.func181.trans (congrArg some (by kernel_rfl))
 f206:=Tryz.func85.trans (congrArg some (by kernel_rfl))
 f210:=Tryz.func218.trans (congrArg some (by kernel_rfl))
 t3:=Tryz.underlying3
 a3:=Tryz.isAgg3
 z3:=Tryz.sizeOf3
 v3:=Tryz.zeroValue3
 t4:=Tryz.underlying4
 a4:=Tryz.isAgg4
 z4:=Tryz.sizeOf4
 v4:=Tryz.zeroValue4
 t9:=Tryz.underlying9
 a9:=Tryz.isAgg9
 z9:=Tryz.sizeOf9
 v9:=Tryz.zeroValue9
 t24:=Tryz.underlying201
 a24:=Tryz.isAgg201
 z24:=Tryz.sizeOf201
 v24:=Tryz.zeroValue201}
def Tryz.zf8:Go.Shelf.Ren:=⟨fun|171=>103|243=>141|246=>191|283=>225|284=>226|285=>227|286=>228|129=>257|317=>256|318=>258|319=>259|320=>260|337=>280|338=>281|n=>n,fun|3=>3|9=>9|2=>2|4=>4|171=>265|0=>0|53=>266|37=>22|5=>5|173=>269|212=>290|51=>291|20=>20|213=>292|46=>117|232=>312|233=>313|n=>n,fun|17=>0|18=>2|19=>3|n=>n⟩
theorem Tryz.laysM171:Go.Proofs.LaysM.n171 Tryz.prog Tryz.zf8:= {
 mixed:=by kernel_rfl
 f129:=Tryz.func257.trans (congrArg some (by kernel_rfl))
 f171:=Tryz.func103.trans (congrArg some (by kernel_rfl))
 f243:=Tryz.func141.trans (congrArg some (by kernel_rfl))
 f246:=Tryz.func191.trans (congrArg some (by kernel_rfl))
 f283:=Tryz.func225.trans (congrArg some (by kernel_rfl))
 f284:=Tryz.func226.trans (congrArg some (by kernel_rfl))
 f285:=Tryz.func227.trans (congrArg some (by kernel_rfl))
 f286:=Tryz.func228.trans (congrArg some (by kernel_rfl))
 f317:=Tryz.func256.trans (congrArg some (by kernel_rfl))
 f318:=Tryz.func258.trans (congrArg some (by kernel_rfl))
 f319:=Tryz.func259.trans (congrArg some (by kernel_rfl))
 f320:=Tryz.func260.trans (congrArg some (by kernel_rfl))
 f337:=Tryz.func280.trans (congrArg some (by kernel_rfl))
 f338:=Tryz.func281.trans (congrArg some (by kernel_rfl))
 t0:=Tryz.underlying0
 a0:=Tryz.isAgg0
 z0:=Tryz.sizeOf0
 v0:=Tryz.zeroValue0
 t2:=Tryz.underlying2
 a2:=Tryz.isAgg2
 z2:=Tryz.sizeOf2
 v2:=Tryz.zeroValue2
 t3:=Tryz.underlying3
 a3:=Tryz.isAgg3
 z3:=Tryz.sizeOf3
 v3:=Tryz.zeroValue3
 t4:=Tryz.underlying4
 a4:=Tryz.isAgg4
 z4:=Tryz.sizeOf4
 v4:=Tryz.zeroValue4
 t5:=Tryz.underlying5
 a5:=Tryz.isAgg5
 z5:=Tryz.sizeOf5
 v5:=Tryz.zeroValue5
 t9:=Tryz.underlying9
 a9:=Tryz.isAgg9
 z9:=Tryz.sizeOf9
 v9:=Tryz.zeroValue9
 t20:=Tryz.underlying20
 a20:=Tryz.isAgg20
 z20:=Tryz.sizeOf20
 v20:=Tryz.zeroValue20
 t37:=Tryz.underlying22
 a37:=Tryz.isAgg22
 z37:=Tryz.sizeOf22
 v37:=Tryz.zeroValue22
 t46:=Tryz.underlying117
 a46:=Tryz.isAgg117
 z46:=Tryz.sizeOf117
 v46:=Tryz.zeroValue117
 t51:=Tryz.underlying291
 a51:=Tryz.isAgg291
 z51:=Tryz.sizeOf291
 v51:=Tryz.zeroValue291
 t53:=Tryz.underlying266
 a53:=Tryz.isAgg266
 z53:=Tryz.sizeOf266
 v53:=Tryz.zeroValue266
 t171:=Tryz.underlying265
 a171:=Tryz.isAgg265
 z171:=Tryz.sizeOf265
 v171:=Tryz.zeroValue265
 t173:=Tryz.underlying269
 a173:=Tryz.isAgg269
 z173:=Tryz.sizeOf269
 v173:=Tryz.zeroValue269
 t212:=Tryz.underlying290
 a212:=Tryz.isAgg290
 z212:=Tryz.sizeOf290
 v212:=Tryz.zeroValue290
 t213:=Tryz.underlying292
 a213:=Tryz.isAgg292
 z213:=Tryz.sizeOf292
 t232:=Tryz.underlying312
 a232:=Tryz.isAgg312
 z232:=Tryz.sizeOf312
 v232:=Tryz.zeroValue312
 t233:=Tryz.underlying313
 a233:=Tryz.isAgg313
 z233:=Tryz.sizeOf313
 v233:=Tryz.zeroValue313
 g17:=by kernel_rfl
 g18:=by kernel_rfl
 g19:=by kernel_rfl
 i0:=by kernel_rfl
 i2:=by kernel_rfl
 i3:=by kernel_rfl
 i4:=by kernel_rfl
 i5:=by kernel_rfl
 i9:=by kernel_rfl
 i20:=by kernel_rfl
 i37:=by kernel_rfl
 i46:=by kernel_rfl
 i51:=by kernel_rfl
 i53:=by kernel_rfl
 i171:=by kernel_rfl
 i173:=by kernel_rfl
 i212:=by kernel_rfl
 i232:=by kernel_rfl
 i233:=by kernel_rfl
 m17:=by kernel_rfl
 m18:=by kernel_rfl
 m19:=by kernel_rfl}
def Tryz.zif:Go.Shelf.Ren:=⟨fun|219=>273|217=>261|225=>264|224=>263|267=>288|266=>282|314=>295|n=>n,fun|9=>9|3=>3|4=>4|5=>5|46=>117|146=>314|51=>291|n=>n,fun|1=>1|n=>n⟩
theorem Tryz.lays219:Go.Proofs.Lays.n219 Tryz.prog Tryz.zif:= {
 mixed:=by kernel_rfl
 f217:=Tryz.func261.trans (congrArg some (by kernel_rfl))
 f219:=Tryz.func273.trans (congrArg some (by kernel_rfl))
 f224:=Tryz.func263.trans (congrArg some (by kernel_rfl))
 f225:=Tryz.func264.trans (congrArg some (by kernel_rfl))
 f266:=Tryz.func282.trans (congrArg some (by kernel_rfl))
 f267:=Tryz.func288.trans (congrArg some (by kernel_rfl))
 f314:=Tryz.func295.trans (congrArg some (by kernel_rfl))
 t3:=Tryz.underlying3
 a3:=Tryz.isAgg3
 z3:=Tryz.sizeOf3
 v3:=Tryz.zeroValue3
 t4:=Tryz.underlying4
 a4:=Tryz.isAgg4
 z4:=Tryz.sizeOf4
 v4:=Tryz.zeroValue4
 t5:=Tryz.underlying5
 a5:=Tryz.isAgg5
 z5:=Tryz.sizeOf5
 v5:=Tryz.zeroValue5
 t9:=Tryz.underlying9
 a9:=Tryz.isAgg9
 z9:=Tryz.sizeOf9
 v9:=Tryz.zeroValue9
 t46:=Tryz.underlying117
 a46:=Tryz.isAgg117
 z46:=Tryz.sizeOf117
 v46:=Tryz.zeroValue117
 t51:=Tryz.underlying291
 a51:=Tryz.isAgg291
 z51:=Tryz.sizeOf291
 v51:=Tryz.zeroValue291
 t146:=Tryz.underlying314
 a146:=Tryz.isAgg314
 z146:=Tryz.sizeOf314
 v146:=Tryz.zeroValue314
 g1:=by kernel_rfl}
def Tryz.zij:Go.Shelf.Ren:=⟨fun|144=>211|143=>242|219=>273|217=>261|225=>264|224=>263|267=>288|266=>282|314=>295|n=>n,fun|9=>9|4=>4|3=>3|5=>5|46=>117|146=>314|51=>291|n=>n,fun|1=>1|n=>n⟩
theorem Tryz.lays144:Go.Proofs.Lays.n144 Tryz.prog Tryz.zij:= {
 mixed:=by kernel_rfl
 f143:=Tryz.func242.trans (congrArg some (by kernel_rfl))
 f144:=Tryz.func211.trans (congrArg some (by kernel_rfl))
 f217:=Tryz.func261.trans (congrArg some (by kernel_rfl))
 f219:=Tryz.func273.trans (congrArg some (by kernel_rfl))
 f224:=Tryz.func263.trans (congrArg some (by kernel_rfl))
 f225:=Tryz.func264.trans (congrArg some (by kernel_rfl))
 f266:=Tryz.func282.trans (congrArg some (by kernel_rfl))
 f267:=Tryz.func288.trans (congrArg some (by kernel_rfl))
 f314:=Tryz.func295.trans (congrArg some (by kernel_rfl))
 t3:=Tryz.underlying3
 a3:=Tryz.isAgg3
 z3:=Tryz.sizeOf3
 v3:=Tryz.zeroValue3
 t4:=Tryz.underlying4
 a4:=Tryz.isAgg4
 z4:=Tryz.sizeOf4
 v4:=Tryz.zeroValue4
 t5:=Tryz.underlying5
 a5:=Tryz.isAgg5
 z5:=Tryz.sizeOf5
 v5:=Tryz.zeroValue5
 t9:=Tryz.underlying9
 a9:=Tryz.isAgg9
 z9:=Tryz.sizeOf9
 v9:=Tryz.zeroValue9
 t46:=Tryz.underlying117
 a46:=Tryz.isAgg117
 z46:=Tryz.sizeOf117
 v46:=Tryz.zeroValue117
 t51:=Tryz.underlying291
 a51:=Tryz.isAgg291
 z51:=Tryz.sizeOf291
 v51:=Tryz.zeroValue291
 t146:=Tryz.underlying314
 a146:=Tryz.isAgg314
 z146:=Tryz.sizeOf314
 v146:=Tryz.zeroValue314
 g1:=by kernel_rfl}
def Tryz.lays99_ren:Go.Shelf.Ren:=⟨fun|99=>48|206=>85|n=>n,fun|9=>9|4=>4|3=>3|n=>n,fun|n=>n⟩
theorem Tryz.lays99:Go.Proofs.Lays.n99 Tryz.prog Tryz.lays99_ren:= {
 mixed:=by kernel_rfl
 f99:=Tryz.func48.trans (congrArg some (by kernel_rfl))
 f206:=Tryz.func85.trans (congrArg some (by kernel_rfl))
 t3:=Tryz.underlying3
 a3:=Tryz.isAgg3
 z3:=Tryz.sizeOf3
 v3:=Tryz.zeroValue3
 t4:=Tryz.underlying4
 a4:=Tryz.isAgg4
 z4:=Tryz.sizeOf4
 v4:=Tryz.zeroValue4
 t9:=Tryz.underlying9
 a9:=Tryz.isAgg9
 z9:=Tryz.sizeOf9
 v9:=Tryz.zeroValue9}
def Tryz.lays146_ren:Go.Shelf.Ren:=⟨fun|146=>210|221=>241|268=>271|138=>272|143=>242|195=>286|197=>283|218=>287|219=>273|260=>293|217=>261|225=>264|224=>263|267=>288|266=>282|314=>295|n=>n,fun|9=>9|31=>146|3=>3|4=>4|0=>0|105=>306|21=>21|5=>5|46=>117|119=>316|139=>319|138=>318|146=>314|51=>291|n=>n,fun|1=>1|3=>4|4=>5|n=>n⟩
theorem Tryz.lays146:Go.Proofs.Lays.n146 Tryz.prog Tryz.lays146_ren:= {
 mixed:=by kernel_rfl
 f138:=Tryz.func272.trans (congrArg some (by kernel_rfl))
 f143:=Tryz.func242.trans (congrArg some (by kernel_rfl))
 f146:=Tryz.func210.trans (congrArg some (by kernel_rfl))
 f195:=Tryz.func286.trans (congrArg some (by kernel_rfl))
 f197:=Tryz.func283.trans (congrArg some (by kernel_rfl))
 f217:=Tryz.func261.trans (congrArg some (by kernel_rfl))
 f218:=Tryz.func287.trans (congrArg some (by kernel_rfl))
 f219:=Tryz.func273.trans (congrArg some (by kernel_rfl))
 f221:=Tryz.func241.trans (congrArg some (by kernel_rfl))
 f224:=Tryz.func263.trans (congrArg some (by kernel_rfl))
 f225:=Tryz.func264.trans (congrArg some (by kernel_rfl))
 f260:=Tryz.func293.trans (congrArg some (by kernel_rfl))
 f266:=Tryz.func282.trans (congrArg some (by kernel_rfl))
 f267:=Tryz.func288.trans (congrArg some (by kernel_rfl))
 f268:=Tryz.func271.trans (congrArg some (by kernel_rfl))
 f314:=Tryz.func295.trans (congrArg some (by kernel_rfl))
 t0:=Tryz.underlying0
 a0:=Tryz.isAgg0
 z0:=Tryz.sizeOf0
 v0:=Tryz.zeroValue0
 t3:=Tryz.underlying3
 a3:=Tryz.isAgg3
 z3:=Tryz.sizeOf3
 v3:=Tryz.zeroValue3
 t4:=Tryz.underlying4
 a4:=Tryz.isAgg4
 z4:=Tryz.sizeOf4
 v4:=Tryz.zeroValue4
 t5:=Tryz.underlying5
 a5:=Tryz.isAgg5
 z5:=Tryz.sizeOf5
 v5:=Tryz.zeroValue5
 t9:=Tryz.underlying9
 a9:=Tryz.isAgg9
 z9:=Tryz.sizeOf9
 v9:=Tryz.zeroValue9
 t21:=Tryz.underlying21
 a21:=Tryz.isAgg21
 z21:=Tryz.sizeOf21
 v21:=Tryz.zeroValue21
 t31:=Tryz.underlying146
 a31:=Tryz.isAgg146
 z31:=Tryz.sizeOf146
 v31:=Tryz.zeroValue146
 t46:=Tryz.underlying117
 a46:=Tryz.isAgg117
 z46:=Tryz.sizeOf117
 v46:=Tryz.zeroValue117
 t51:=Tryz.underlying291
 a51:=Tryz.isAgg291
 z51:=Tryz.sizeOf291
 v51:=Tryz.zeroValue291
 t105:=Tryz.underlying306
 a105:=Tryz.isAgg306
 z105:=Tryz.sizeOf306
 v105:=Tryz.zeroValue306
 t119:=Tryz.underlying316
 a119:=Tryz.isAgg316
 z119:=Tryz.sizeOf316
 t138:=Tryz.underlying318
 a138:=Tryz.isAgg318
 z138:=Tryz.sizeOf318
 v138:=Tryz.zeroValue318
 t139:=Tryz.underlying319
 a139:=Tryz.isAgg319
 z139:=Tryz.sizeOf319
 v139:=Tryz.zeroValue319
 t146:=Tryz.underlying314
 a146:=Tryz.isAgg314
 z146:=Tryz.sizeOf314
 v146:=Tryz.zeroValue314
 g1:=by kernel_rfl
 g3:=by kernel_rfl
 g4:=by kernel_rfl}
open Go.RowKit in
theorem Tryz.strings_IndexByte (s:ByteArray) (c:Int) (w:World):
 Calls Tryz.prog 231 #[.string s,.int .u8 c] w fun e w'=>e=.returned (.int .i64 (Lib.indexByte s.data.toList c.toNat.toUInt8))∧w'=w:=Any.strings_IndexByte Tryz.lays137 s c w
open Go.RowKit in
theorem Tryz.strings_CutPrefix (s p:ByteArray) (w:World):
 Calls Tryz.prog 181 #[.string s,.string p] w fun e w'=>e=.returned (.tuple #[.string ⟨(Lib.trimPrefix s.data.toList p.data.toList).toArray⟩,.bool (Lib.hasPrefix s.data.toList p.data.toList)])∧w'=w:=Any.strings_CutPrefix Tryz.zuH s p w
open Go.RowKit Go.Sort Go.Lib in
theorem Tryz.strconv_Itoa (n:Int) (h0: -9223372036854775808≤n) (h1:n≤9223372036854775807) (w:World) (htab:Lib.TabIs Tryz.prog w "internal/strconv.uint64pow10" .u64 Lib.pow10Tab):
 Calls Tryz.prog 103 #[.int .i64 n] w fun e w'=>e=.returned (.string ⟨(Lib.itoa n).toArray⟩)∧∃ k os,w'=grow (w.drewN k) os:=Any.strconv_Itoa Tryz.laysM171 n h0 h1 w htab
open Go.RowKit Go.Lib in
theorem Tryz.stringslite_Index_one (s:ByteArray) (c:UInt8) (w:World):
 Calls Tryz.prog 273 #[.string s,.string ⟨#[c]⟩] w fun e w'=>e=.returned (.int .i64 (Lib.indexByte s.data.toList c))∧w'=w:=Any.stringslite_Index_one Tryz.lays219 s c w
open Go.RowKit Go.Lib in
theorem Tryz.strings_Contains_one (s:ByteArray) (c:UInt8) (w:World):
 Calls Tryz.prog 211 #[.string s,.string ⟨#[c]⟩] w fun e w'=>e=.returned (.bool (decide (0≤Lib.indexByte s.data.toList c)))∧w'=w:=Any.strings_Contains_one Tryz.lays144 s c w
open Go.RowKit Go.Lib in
theorem Tryz.strings_HasPrefix (s p:ByteArray) (w:World):
 Calls Tryz.prog 48 #[.string s,.string p] w fun e w'=>e=.returned (.bool (Lib.hasPrefix s.data.toList p.data.toList))∧w'=w:=Any.strings_HasPrefix Tryz.lays99 s p w
open Go.RowKit Go.Lib in
theorem Tryz.strings_Split (s sep:ByteArray) (m:Int) (w:World) (hs:s.size<4294967281) (hm:w.cell? ⟨1,0,none⟩=some (.int .i64 m)) (h1:1≤sep.size):
 Calls Tryz.prog 210 #[.string s,.string sep] w fun e w'=>
  e=.returned (.slice (some ⟨w.heap.size,0,none⟩) (Lib.countB s sep+1) (Lib.countB s sep+1))∧w'=w.alloc (.cells ((Lib.splitB sep 0 (Lib.countB s sep) s).map Value.string).toArray 9):=Any.strings_Split Tryz.lays146 (by kernel_rfl) s sep m w hs hm h1
theorem Tryz.strings_Trim_laid (s cutset:ByteArray) (w:World) (hs:s.size≤9223372036854775807) (hcs:cutset.size<4294967281) (hascii: ∀ (j:Nat) b,cutset.data.toList[j]? =some b→b.toNat<128):
 Calls Tryz.prog 237 #[.string s,.string cutset] w fun e w'=>e=.returned (.string ⟨(Lib.trimS s.data.toList cutset.data.toList).toArray⟩)∧Go.RowKit.Below w.heap.size w w':=Any.strings_Trim_laid Tryz.lays160 (by kernel_rfl) s cutset w hs hcs hascii
theorem Tryz.strings_TrimLeft_laid (s cutset:ByteArray) (w:World) (hcs:cutset.size<4294967281) (hascii: ∀ (j:Nat) b,cutset.data.toList[j]? =some b→b.toNat<128):
 Calls Tryz.prog 278 #[.string s,.string cutset] w fun e w'=>e=.returned (.string ⟨(Lib.trimLeftS s.data.toList cutset.data.toList).toArray⟩)∧Go.RowKit.Below w.heap.size w w':=Any.strings_TrimLeft_laid Tryz.lays161 (by kernel_rfl) s cutset w hcs hascii
end Go.Proofs
namespace Go.Ab
open Go Go.Sep
variable [Facts]
theorem zi0 {w w':World} (h:RowKit.Below w.heap.size w w'):Keeps (fun k=>k<w.heap.size) w w':=⟨h.1,h.2,h.3,h.4,h.5⟩
theorem Spc.of_below {Pr:Program} {f:Nat} {args:List D} {hp:List HO} {d:D} (hf: ∃ fn,Pr.funcs[f]? =some fn∧(fn.name == "runtime.NumGoroutine")=false∧fn.body.isNone=false)
  (h: ∀ (S:Frz) (bs:List Value) (w:World) (vs:List Value),Facts.p w→MDs S bs args vs→∃ v,MD S bs d v∧Calls Pr f vs.toArray w fun e w'=>e=.returned v∧RowKit.Below w.heap.size w w'):Spc Pr f args hp (.ret d) hp:=by
 refine⟨hf,fun S K fr w vs hH hM hA=> ?_⟩;obtain⟨v,hv,hc⟩:=h S _ w vs (At.frz hA).facts hM;refine hc.mono fun e w' he=> ?_;obtain⟨he,hb⟩:=he;subst he;exact⟨S,K,Frz.le.refl S,Ext.refl _,hH,hA.keep (zi0 hb),hv⟩
end Go.Ab
namespace Go.Proofs.YtkjepecoodjbmaaGreatDoor
open Go Go.Sep Go.Ab
set_option maxRecDepth 100000
theorem zjh (s cs:Str):(Lib.trimS s cs).length≤s.length:=by
 unfold Lib.trimS Lib.trimLeftS Lib.trimRightS;refine Nat.le_trans (List.dropWhile_sublist _).length_le ?_;rw [List.length_reverse]
 exact Nat.le_trans (List.dropWhile_sublist _).length_le (by rw [List.length_reverse];exact jL _)
theorem Yw: ∀ (s:Str) (c:UInt8),-1≤Lib.indexByte s c∧Lib.indexByte s c<s.length
 |[],c=>by simp [Lib.indexByte]
 | b ::l,c=>by
   have:=Yw l c;unfold Lib.indexByte;rw [jh]
   split
   · omega
   · split
     · omega
     · omega
def zdw (I:Alg) (args:List D) (hp:List HO):Option CT:=match args,hp with
 |[.v (.one (.p (.str s))),.v (.one (.p (.str ([32,9]))))],[]=>(fun(s:Str)=>(some (.one ⟨I.hid (True),(.ret (.v (.one (.p (.str (I.hid (Lib.trimS s [32,9]))))))),[]⟩):Option CT)) s
 |_,_=>none
theorem znb:zx Tryz.prog 237 (zdw alg):=by
 intro args hp r h;unfold zdw at h;split at h<;>cases h
 rename_i s;simp only [CT.Good,zi];intro _
 refine Spc.of_below ⟨_,Tryz.func237,by kernel_rfl,by kernel_rfl⟩ fun S bs w vs _ hM=> ?_
 obtain⟨v,r,rfl⟩: ∃ v r,vs=v::r:=by cases vs with|nil=>exact hM.elim|cons v r=>exact⟨v,r,rfl⟩
 obtain⟨h1,hM⟩:=hM
 obtain⟨v2,r2,rfl⟩: ∃ v r2,r=v::r2:=by cases r with|nil=>exact hM.elim|cons v r=>exact⟨v,r,rfl⟩
 obtain⟨h2,hM⟩:=hM
 obtain rfl:r2=[]:=by cases r2 with|nil=>rfl|cons v r=>exact hM.elim
 cases h1 with
 | str _ hl1=>
   cases h2 with
   | str _ hl2=>
     refine⟨.string (Sep.S (Lib.trimS s [32,9])),.str _ (Nat.le_trans (zjh _ _) hl1),?_⟩
     exact Tryz.strings_Trim_laid (Sep.S s) (Sep.S [32,9]) w (by have:=hl1;unfold maxLen at this;exact this) (by decide) (fun j b hb=>by
      have:=List.mem_of_getElem? hb
      rcases(by simpa [Sep.S] using this:b=32∨b=9) with rfl|rfl<;>decide)
def zt3:Know Tryz.prog:=⟨237,zdw,znb⟩
def zt2:Know Tryz.prog:=⟨237,fun I=>zy I (zdw I),zf znb⟩
def qI (I:Alg) (args:List D) (hp:List HO):Option CT:=match args,hp with
 |[.v (.one (.p (.str s))),.v (.one (.p (.int .u8 k)))],[]=>(fun(s:Str) (k:Int)=>(some (.one ⟨I.hid (True),(.ret (.v (.one (.p (.int .i64 (I.hid (Lib.indexByte s k.toNat.toUInt8))))))),[]⟩):Option CT)) s k
 |_,_=>none
theorem SA:zx Tryz.prog 231 (qI alg):=by
 intro args hp r h;unfold qI at h;split at h<;>cases h
 rename_i s k;simp only [CT.Good,zi];intro _
 refine Spc.of_below ⟨_,Tryz.func231,by kernel_rfl,by kernel_rfl⟩ fun S bs w vs _ hM=> ?_
 obtain⟨v,r,rfl⟩: ∃ v r,vs=v::r:=by cases vs with|nil=>exact hM.elim|cons v r=>exact⟨v,r,rfl⟩
 obtain⟨h1,hM⟩:=hM
 obtain⟨v2,r2,rfl⟩: ∃ v r2,r=v::r2:=by cases r with|nil=>exact hM.elim|cons v r=>exact⟨v,r,rfl⟩
 obtain⟨h2,hM⟩:=hM
 obtain rfl:r2=[]:=by cases r2 with|nil=>rfl|cons v r=>exact hM.elim
 cases h1 with
 | str _ hl1=>
   cases h2 with
   | int _ _=>
     refine⟨.int .i64 (Lib.indexByte s k.toNat.toUInt8),.int _ _,?_⟩;refine(Tryz.strings_IndexByte (Sep.S s) k w).mono fun e w' h=> ?_;obtain⟨he,rfl⟩:=h;exact⟨he,RowKit.Below.refl _ _⟩
def zgj:Know Tryz.prog:=⟨231,qI,SA⟩
def zgi:Know Tryz.prog:=⟨231,fun I=>zy I (qI I),zf SA⟩
def VD (I:Alg) (args:List D) (hp:List HO):Option CT:=match args,hp with
 |[.v (.one (.p (.str s))),.v (.one (.p (.str ([c]))))],[]=>(fun(s:Str) (c:UInt8)=>(some (.one ⟨I.hid (True),(.ret (.v (.one (.p (.int .i64 (I.hid (Lib.indexByte s c))))))),[]⟩):Option CT)) s c
 |_,_=>none
theorem zgk:zx Tryz.prog 273 (VD alg):=by
 intro args hp r h;unfold VD at h;split at h<;>cases h
 rename_i s c;simp only [CT.Good,zi];intro _
 refine Spc.of_below ⟨_,Tryz.func273,by kernel_rfl,by kernel_rfl⟩ fun S bs w vs _ hM=> ?_
 obtain⟨v,r,rfl⟩: ∃ v r,vs=v::r:=by cases vs with|nil=>exact hM.elim|cons v r=>exact⟨v,r,rfl⟩
 obtain⟨h1,hM⟩:=hM
 obtain⟨v2,r2,rfl⟩: ∃ v r2,r=v::r2:=by cases r with|nil=>exact hM.elim|cons v r=>exact⟨v,r,rfl⟩
 obtain⟨h2,hM⟩:=hM
 obtain rfl:r2=[]:=by cases r2 with|nil=>rfl|cons v r=>exact hM.elim
 cases h1 with
 | str _ hl1=>
   cases h2 with
   | str _ _=>
     refine⟨.int .i64 (Lib.indexByte s c),.int _ _,?_⟩;refine(Tryz.stringslite_Index_one (Sep.S s) c w).mono fun e w' h=> ?_;obtain⟨he,rfl⟩:=h;exact⟨he,RowKit.Below.refl _ _⟩
def zpk:Know Tryz.prog:=⟨273,VD,zgk⟩
def zpj:Know Tryz.prog:=⟨273,fun I=>zy I (VD I),zf zgk⟩
end Go.Proofs.YtkjepecoodjbmaaGreatDoor
namespace Go.Proofs.YtkjepecoodjbmaaGreatDoor
open Go Go.Sep Go.Ab
set_option maxRecDepth 100000
def lowK (k:Int):Int:=if 65≤k∧k≤90 then k+32 else k
def zbz (k:Int):Bool:=decide (48≤k∧k≤57)
def X4 (k:Int):Bool:=decide (97≤lowK k∧lowK k≤122)
def marks:Str:=[33,35,36,37,38,39,42,43,45,46,94,95,96,124,126]
def tokB (k:Int):Bool:=zbz k||(X4 k||decide (0≤Lib.indexByte marks k.toNat.toUInt8))
def zfr (k:Int):Bool:=decide (k=9∨32≤k∧k≠127)
def hexK (k:Int):Int:=if zbz k then k - 48 else if X4 k&&decide (lowK k≤102) then lowK k - 97+10 else -1
theorem zw7 (n:Int) (h:0≤n∧n≤255):IntKind.u8.wrap n=n:=by
 unfold IntKind.wrap
 simp only [show IntKind.u8.signed=false by decide,show IntKind.u8.bits=8 by decide,Bool.false_and,jd,if_false]
 omega
theorem wrap64 (n:Int) (h: -9223372036854775808≤n∧n≤9223372036854775807):IntKind.i64.wrap n=n:=by
 unfold IntKind.wrap
 simp only [show IntKind.i64.signed=true by decide,show IntKind.i64.bits=64 by decide]
 split<;>simp_all<;>omega
theorem zo4 {k:Int} (h:0≤k∧k≤255):0≤lowK k∧lowK k≤255:=by unfold lowK;split<;>omega
def QZ (I:Alg) (args:List D) (hp:List HO):Option CT:=match args,hp with
 |[.v (.one (.p (.int .u8 k)))],[]=>(fun(k:Int)=>(some (.one ⟨I.hid (True),(.ret (.v (.one (.p (.bool (I.hid (zbz k))))))),[]⟩):Option CT)) k
 |_,_=>none
theorem zln:zx Tryz.prog 229 (QZ alg):=by
 intro args hp r h;unfold QZ at h;split at h<;>cases h
 rename_i k;simp only [CT.Good,zi];intro _
 refine spcG zh mixed Tryz.func229 (by kernel_rfl) { keep:=some [0,2]} [] (by kernel_rfl) ?_
 intro I X hI hX
 refine orcL ?_;go_invoke;refine orcS (by kernel_rfl) ?_
 simp only [zq,Nat.reduceAdd];subst hI;simp only [nrmA,nrmB];unfold zbz
 exact⟨fun h=>decide_eq_decide.2 (by omega),fun h=>(decide_eq_false (by omega)).symm⟩
def zlm:Know Tryz.prog:=⟨229,QZ,zln⟩
def zll:Know Tryz.prog:=⟨229,fun I=>zy I (QZ I),zf zln⟩
def Qz (I:Alg) (args:List D) (hp:List HO):Option CT:=match args,hp with
 |[.v (.one (.p (.int .u8 k)))],[]=>(fun(k:Int)=>(some (.one ⟨I.hid (0≤k∧k≤255),(.ret (.v (.one (.p (.int .u8 (I.hid (lowK k))))))),[]⟩):Option CT)) k
 |_,_=>none
theorem zky:zx Tryz.prog 236 (Qz alg):=by
 intro args hp r h;unfold Qz at h;split at h<;>cases h
 rename_i k;simp only [CT.Good,zi];intro hneed
 refine spcG zh mixed Tryz.func236 (by kernel_rfl) { keep:=some [0,2]} [] (by kernel_rfl) ?_
 intro I X hI hX
 refine orcL ?_;go_invoke;refine orcS (by kernel_rfl) ?_
 simp only [zq,Nat.reduceAdd];subst hI;simp only [nrmA,nrmB];unfold lowK
 (repeat' (first|refine ja ?_ ?_|intro _))<;>first|omega|exact jb|exact jc ‹False›|skip
def Qy:Know Tryz.prog:=⟨236,Qz,zky⟩
def Qx:Know Tryz.prog:=⟨236,fun I=>zy I (Qz I),zf zky⟩
def VA (I:Alg) (args:List D) (hp:List HO):Option CT:=match args,hp with
 |[.v (.one (.p (.int .u8 k)))],[]=>(fun(k:Int)=>(some (.one ⟨I.hid (0≤k∧k≤255),(.ret (.v (.one (.p (.bool (I.hid (X4 k))))))),[]⟩):Option CT)) k
 |_,_=>none
theorem zf7:zx Tryz.prog 230 (VA alg):=by
 intro args hp r h;unfold VA at h;split at h<;>cases h
 rename_i k;simp only [CT.Good,zi];intro hneed
 refine spcG zh mixed Tryz.func230 (by kernel_rfl) { keep:=some [0,2]} [Qy,Qx] (by kernel_rfl) ?_
 intro I X hI hX
 refine orcL ?_;go_invoke;refine orcS (by kernel_rfl) ?_
 simp only [zq,Nat.reduceAdd];subst hI;simp only [nrmA,nrmB];unfold X4
 (repeat' (first|refine ja ?_ ?_|intro _))<;>first|omega|exact jb|exact jc ‹False›|skip
 all_goals first|exact decide_eq_decide.2 (by omega)|exact(decide_eq_false (by omega)).symm|exact(decide_eq_true (by omega)).symm|(rw [show(k == 127)=decide (k=127) from rfl,← decide_not];exact decide_eq_decide.2 (by omega))
def zf6:Know Tryz.prog:=⟨230,VA,zf7⟩
def zf5:Know Tryz.prog:=⟨230,fun I=>zy I (VA I),zf zf7⟩
def Ro (I:Alg) (args:List D) (hp:List HO):Option CT:=match args,hp with
 |[.v (.one (.p (.int .u8 k)))],[]=>(fun(k:Int)=>(some (.one ⟨I.hid (0≤k∧k≤255),(.ret (.v (.one (.p (.bool (I.hid (tokB k))))))),[]⟩):Option CT)) k
 |_,_=>none
theorem zji:zx Tryz.prog 193 (Ro alg):=by
 intro args hp r h;unfold Ro at h;split at h<;>cases h
 rename_i k;simp only [CT.Good,zi];intro hneed
 refine spcG zh mixed Tryz.func193 (by kernel_rfl) { keep:=some [0,2]} [zgj,zgi,zlm,zll,zf6,zf5] (by kernel_rfl) ?_
 intro I X hI hX
 refine orcL ?_;go_invoke;refine orcS (by kernel_rfl) ?_
 simp only [zq,Nat.reduceAdd];subst hI;simp only [nrmA,nrmB];unfold tokB marks
 (repeat' (first|refine ja ?_ ?_|intro _))<;>first|omega|exact jb|exact jc ‹False›|skip
 all_goals simp [*]
def Zo:Know Tryz.prog:=⟨193,Ro,zji⟩
def Wl:Know Tryz.prog:=⟨193,fun I=>zy I (Ro I),zf zji⟩
def YO (I:Alg) (args:List D) (hp:List HO):Option CT:=match args,hp with
 |[.v (.one (.p (.int .u8 k)))],[]=>(fun(k:Int)=>(some (.one ⟨I.hid (True),(.ret (.v (.one (.p (.bool (I.hid (zfr k))))))),[]⟩):Option CT)) k
 |_,_=>none
theorem zb3:zx Tryz.prog 170 (YO alg):=by
 intro args hp r h;unfold YO at h;split at h<;>cases h
 rename_i k;simp only [CT.Good,zi];intro _
 refine spcG zh mixed Tryz.func170 (by kernel_rfl) { keep:=some [0,2]} [] (by kernel_rfl) ?_
 intro I X hI hX
 refine orcL ?_;go_invoke;refine orcS (by kernel_rfl) ?_
 simp only [zq,Nat.reduceAdd];subst hI;simp only [nrmA,nrmB];unfold zfr
 (repeat' (first|refine ja ?_ ?_|intro _))<;>first|omega|exact jb|exact jc ‹False›|skip
 all_goals first|exact decide_eq_decide.2 (by omega)|exact(decide_eq_false (by omega)).symm|exact(decide_eq_true (by omega)).symm|(rw [show(k == 127)=decide (k=127) from rfl,← decide_not];exact decide_eq_decide.2 (by omega))
def sW:Know Tryz.prog:=⟨170,YO,zb3⟩
def YN:Know Tryz.prog:=⟨170,fun I=>zy I (YO I),zf zb3⟩
def zkK (I:Alg) (args:List D) (hp:List HO):Option CT:=match args,hp with
 |[.v (.one (.p (.int .u8 k)))],[]=>(fun(k:Int)=>(some (.one ⟨I.hid (0≤k∧k≤255),(.ret (.v (.one (.p (.int .i64 (I.hid (hexK k))))))),[]⟩):Option CT)) k
 |_,_=>none
theorem zty:zx Tryz.prog 249 (zkK alg):=by
 intro args hp r h;unfold zkK at h;split at h<;>cases h
 rename_i k;simp only [CT.Good,zi];intro hneed
 refine spcG zh mixed Tryz.func249 (by kernel_rfl) { keep:=some [0,2]} [zlm,zll,Qy,Qx,zf6,zf5] (by kernel_rfl) ?_
 intro I X hI hX
 refine orcL ?_;go_invoke;refine orcS (by kernel_rfl) ?_
 simp only [zq,Nat.reduceAdd];subst hI;simp only [nrmA,nrmB]
 (repeat' (first|refine ja ?_ ?_|intro _))<;>first|omega|exact jb|exact jc ‹False›|skip
 all_goals first
  |(have:=of_decide_eq_true ‹zbz k=true›;omega)
  |(have:=of_decide_eq_true ‹zbz k=true›;unfold hexK;rw [if_pos ‹zbz k=true›,wrap64 _ (by omega)])
  |(have:=of_decide_eq_true ‹X4 k=true›;omega)
  |(have:=of_decide_eq_true ‹X4 k=true›;rw [wrap64 _ (by omega)];omega)
  |(have:=of_decide_eq_true ‹X4 k=true›;rw [wrap64 _ (by omega)];unfold hexK;simp [*])
  |(unfold hexK;simp [*])
def zcK:Know Tryz.prog:=⟨249,zkK,zty⟩
def zcJ:Know Tryz.prog:=⟨249,fun I=>zy I (zkK I),zf zty⟩
end Go.Proofs.YtkjepecoodjbmaaGreatDoor
namespace Go.Proofs.YtkjepecoodjbmaaGreatDoor
open Go Go.Sep Go.Ab
set_option maxRecDepth 100000
def tokA (s:Str):Bool:=s.all fun c=>tokB (c.toNat:Int)
def XR (s:Str):Bool:=s.all fun c=>zfr (c.toNat:Int)
theorem uj (c:UInt8):0≤(c.toNat:Int)∧(c.toNat:Int)≤255:=by have:=c.toNat_lt;omega
theorem zlM {p:UInt8→Bool} {s:Str} {i:Nat} (h:i<s.length):(s.drop i).all p=(p (s.getD i 0)&&(s.drop (i+1)).all p):=by
 rw [jE h,List.all_cons];simp [h]
def UJ (I:Alg) (args:List D) (hp:List HO):Option CT:=match args,hp with
 |[.v (.one (.p (.str s))),.v (.one (.fn 193 []))],[]=>(fun(s:Str)=>(some (.one ⟨I.hid (s.length≤1000000),(.ret (.v (.one (.p (.bool (I.hid (tokA s))))))),[]⟩):Option CT)) s
 |_,_=>none
theorem zhB:zx Tryz.prog 192 (UJ alg):=by
 intro args hp r h;unfold UJ at h;split at h<;>cases h
 rename_i s;simp only [CT.Good,zi];intro hneed;generalize hr:tokA s=r
 refine spcG zh mixed Tryz.func192 (by kernel_rfl) { keep:=some [0,1,4,5,7,8]} [Zo] (by kernel_rfl) ?_
 intro I X hI hX
 refine orcL ?_;go_invoke;refine orcS (by kernel_rfl) ?_
 simp only [zq,Nat.reduceAdd]
 refine zB hI zh mixed [Zo] hX [0,1,7,8] (fun(i:Nat)=>i≤s.length∧tokA (s.drop i)=r) (fun(i:Nat)=>⟨[(0,.v (.one (.p (.str s)))),(1,.v (.one (.fn 193 []))),(7,.v (.one (.p (.int .i64 ((I.len (α:=UInt8) s)))))),(8,.v (.one (.p (.int .i64 i))))],[],18,none⟩) (fun(i:Nat)=>s.length - i) 0 (by kernel_rfl) (by kernel_rfl) ?_ ?_
 · exact⟨jM _,hr⟩
 rintro i ⟨h1,h2⟩ A hA
 refine orcL ?_;go_invoke;refine orcS (by kernel_rfl) ?_
 simp only [zq,Nat.reduceAdd];subst hI;simp only [nrmA,nrmB];have hb:=uj (s.getD i 0);have hd:i<s.length→tokA (s.drop i)=(tokB (s.getD i 0).toNat&&tokA (s.drop (i+1))):=fun h=>zlM h;generalize s.getD i 0=x at *
 (repeat' (first|refine ja ?_ ?_|intro _))<;>first|omega|exact jb|exact jc ‹False›|skip
 all_goals first
  |(rw [← h2,hd (by omega)];simp [*];done)
  |(refine hA (i+1) ⟨by omega,?_⟩ (by omega);rw [← h2,hd (by omega)];simp [*];done)
  |(rw [← h2,jF (by omega)];rfl)
def UI:Know Tryz.prog:=⟨192,UJ,zhB⟩
def UH:Know Tryz.prog:=⟨192,fun I=>zy I (UJ I),zf zhB⟩
def XC (I:Alg) (args:List D) (hp:List HO):Option CT:=match args,hp with
 |[.v (.one (.p (.str s))),.v (.one (.fn 170 []))],[]=>(fun(s:Str)=>(some (.one ⟨I.hid (s.length≤1000000),(.ret (.v (.one (.p (.bool (I.hid (XR s))))))),[]⟩):Option CT)) s
 |_,_=>none
theorem zdr:zx Tryz.prog 192 (XC alg):=by
 intro args hp r h;unfold XC at h;split at h<;>cases h
 rename_i s;simp only [CT.Good,zi];intro hneed;generalize hr:XR s=r
 refine spcG zh mixed Tryz.func192 (by kernel_rfl) { keep:=some [0,1,4,5,7,8]} [sW,UI,UH] (by kernel_rfl) ?_
 intro I X hI hX
 refine orcL ?_;go_invoke;refine orcS (by kernel_rfl) ?_
 simp only [zq,Nat.reduceAdd]
 refine zB hI zh mixed [sW,UI,UH] hX [0,1,7,8] (fun(i:Nat)=>i≤s.length∧XR (s.drop i)=r) (fun(i:Nat)=>⟨[(0,.v (.one (.p (.str s)))),(1,.v (.one (.fn 170 []))),(7,.v (.one (.p (.int .i64 ((I.len (α:=UInt8) s)))))),(8,.v (.one (.p (.int .i64 i))))],[],18,none⟩) (fun(i:Nat)=>s.length - i) 0 (by kernel_rfl) (by kernel_rfl) ?_ ?_
 · exact⟨jM _,hr⟩
 rintro i ⟨h1,h2⟩ A hA
 refine orcL ?_;go_invoke;refine orcS (by kernel_rfl) ?_
 simp only [zq,Nat.reduceAdd];subst hI;simp only [nrmA,nrmB];have hb:=uj (s.getD i 0);have hd:i<s.length→XR (s.drop i)=(zfr (s.getD i 0).toNat&&XR (s.drop (i+1))):=fun h=>zlM h;generalize s.getD i 0=x at *
 (repeat' (first|refine ja ?_ ?_|intro _))<;>first|omega|exact jb|exact jc ‹False›|skip
 all_goals first
  |(rw [← h2,hd (by omega)];simp [*];done)
  |(refine hA (i+1) ⟨by omega,?_⟩ (by omega);rw [← h2,hd (by omega)];simp [*];done)
  |(rw [← h2,jF (by omega)];rfl)
def zdq:Know Tryz.prog:=⟨192,XC,zdr⟩
def zdp:Know Tryz.prog:=⟨192,fun I=>zy I (XC I),zf zdr⟩
def XH (s:Str):Bool:=decide (s≠[])&&tokA s
def Xf (I:Alg) (args:List D) (hp:List HO):Option CT:=match args,hp with
 |[.v (.one (.p (.str s)))],[]=>(fun(s:Str)=>(some (.one ⟨I.hid (s.length≤1000000),(.ret (.v (.one (.p (.bool (I.hid (XH s))))))),[]⟩):Option CT)) s
 |_,_=>none
theorem zcH:zx Tryz.prog 142 (Xf alg):=by
 intro args hp r h;unfold Xf at h;split at h<;>cases h
 rename_i s;simp only [CT.Good,zi];intro hneed
 refine spcG zh mixed Tryz.func142 (by kernel_rfl) { keep:=some [0,2]} [Zo,Wl,UI,UH,zdq,zdp] (by kernel_rfl) ?_
 intro I X hI hX
 refine orcL ?_;go_invoke;refine orcS (by kernel_rfl) ?_
 simp only [zq,Nat.reduceAdd];subst hI;simp only [nrmA,nrmB];unfold XH
 (repeat' (first|refine ja ?_ ?_|intro _))<;>first|omega|exact jb|exact jc ‹False›|skip
 all_goals simp [*]
def rC:Know Tryz.prog:=⟨142,Xf,zcH⟩
def ru:Know Tryz.prog:=⟨142,fun I=>zy I (Xf I),zf zcH⟩
def qG (I:Alg) (args:List D) (hp:List HO):Option CT:=match args,hp with
 |[.v (.one (.p (.str s)))],[]=>(fun(s:Str)=>(some (.one ⟨I.hid (s.length≤1000000),(.ret (.v (.one (.p (.bool (I.hid (XR s))))))),[]⟩):Option CT)) s
 |_,_=>none
theorem Sz:zx Tryz.prog 144 (qG alg):=by
 intro args hp r h;unfold qG at h;split at h<;>cases h
 rename_i s;simp only [CT.Good,zi];intro hneed
 refine spcG zh mixed Tryz.func144 (by kernel_rfl) { keep:=some [0,2]} [sW,YN,UI,UH,zdq,zdp] (by kernel_rfl) ?_
 intro I X hI hX
 refine orcL ?_;go_invoke;refine orcS (by kernel_rfl) ?_
 simp only [zq,Nat.reduceAdd];subst hI;simp only [nrmA,nrmB];exact hneed
def wW:Know Tryz.prog:=⟨144,qG,Sz⟩
def wV:Know Tryz.prog:=⟨144,fun I=>zy I (qG I),zf Sz⟩
theorem zxz {p:Int→Prop} [∀ k,Decidable (p k)] (h: ∀ n:Fin 256,p (n.1:Int)) {k:Int} (hk:0≤k∧k≤255):p k:=by
 have:=h ⟨k.toNat,by omega⟩
 rwa [show((k.toNat:Nat):Int)=k by omega] at this
end Go.Proofs.YtkjepecoodjbmaaGreatDoor
namespace Go.Proofs.YtkjepecoodjbmaaGreatDoor
open Go Go.Sep Go.Ab
set_option maxRecDepth 100000
def lowC (x:UInt8):UInt8:=if 65≤x.toNat∧x.toNat≤90 then x+32 else x
def lowS (s:Str):Str:=s.map lowC
theorem vV (s:Str):(lowS s).length=s.length:=by simp [lowS]
theorem zmp (x:UInt8):((lowC x).toNat:Int)=lowK x.toNat:=by
 unfold lowC lowK;have:=x.toNat_lt
 split
 · rw [if_pos (by omega),UInt8.toNat_add]
   simp only [show(32:UInt8).toNat=32 from rfl];omega
 · rw [if_neg (by omega)]
theorem zuG (x:UInt8):UInt8.ofNat (lowK x.toNat).toNat=lowC x:=by
 rw [← zmp,jJ,UInt8.ofNat_toNat]
def bl (c:UInt8):Bool:=([32,9]:Str).contains c
def zad (I:Alg) (args:List D) (hp:List HO):Option CT:=match args,hp with
 |[.v (.one (.p (.str s)))],[]=>(fun(s:Str)=>(some (.one ⟨I.hid (True),(.ret (.v (.one (.p (.str (I.hid (Lib.trimS s [32,9]))))))),[]⟩):Option CT)) s
 |_,_=>none
theorem zlD:zx Tryz.prog 196 (zad alg):=by
 intro args hp r h;unfold zad at h;split at h<;>cases h
 rename_i s;simp only [CT.Good,zi];intro _
 refine spcG zh mixed Tryz.func196 (by kernel_rfl) { keep:=some [0,2]} [zt3,zt2] (by kernel_rfl) ?_
 intro I X hI hX
 refine orcL ?_;go_invoke;refine orcS (by kernel_rfl) ?_
 simp only [zq,Nat.reduceAdd];subst hI;simp only [nrmA,nrmB]
 try trivial
def UD:Know Tryz.prog:=⟨196,zad,zlD⟩
def UC:Know Tryz.prog:=⟨196,fun I=>zy I (zad I),zf zlD⟩
def UE (I:Alg) (args:List D) (hp:List HO):Option CT:=match args,hp with
 |[.v (.one (.p (.str s)))],[]=>(fun(s:Str)=>(some (.one ⟨I.hid (s.length≤1000000),(.ret (.v (.one (.p (.str (I.hid (lowS s))))))),[]⟩):Option CT)) s
 |_,_=>none
theorem zhr:zx Tryz.prog 195 (UE alg):=by
 intro args hp r h;unfold UE at h;split at h<;>cases h
 rename_i s;simp only [CT.Good,zi];intro hneed
 refine spcG zh mixed Tryz.func195 (by kernel_rfl) { keep:=some [0,2,3,4,5,8,9,10]} [Qy,Qx] (by kernel_rfl) ?_
 intro I X hI hX
 refine orcL ?_;go_invoke;refine orcS (by kernel_rfl) ?_
 simp only [zq,Nat.reduceAdd]
 refine zB hI zh mixed [Qy,Qx] hX [0,3,8,9,10] (fun(g:Nat × Str)=>match g with|(i,b)=>i≤s.length∧b=lowS (s.take i)++s.drop i) (fun(g:Nat × Str)=>match g with|(i,b)=>⟨[(0,.v (.one (.p (.str s)))),(3,.v (.one (.row 0))),(8,.v (.one (.row 0))),(9,.v (.one (.p (.int .i64 ((I.len (α:=UInt8) s)))))),(10,.v (.one (.p (.int .i64 i))))],[.row .byte 5 b],23,none⟩) (fun(g:Nat × Str)=>match g with|(i,b)=>s.length - i) (0,s) (by kernel_rfl) (by kernel_rfl) ?_ ?_
 · exact⟨jM _,rfl⟩
 rintro⟨i,b⟩ ⟨h1,h2⟩ A hA;simp only at hA
 refine orcL ?_;go_invoke;refine orcS (by kernel_rfl) ?_
 simp only [zq,Nat.reduceAdd];subst hI;simp only [nrmA,nrmB]
 have hlen:b.length=s.length:=by rw [h2,jk,vV,jv,jC];omega
 have hx:i<s.length→b.getD i 0=s.getD i 0:=fun h=>by
  rw [h2,jH,jH,jA (by rw [vV,jv];omega),vV,jv,jG]
  congr 2
  omega
 have hset:i<s.length→b.set i (lowC (s.getD i 0))=lowS (s.take (i+1))++s.drop (i+1):=fun h=>by
  have e:(lowS (s.take i)).length=i:=by rw [vV,jv];omega
  rw [h2,List.set_append_right _ _ (by omega),e,Nat.sub_self,jE h,List.set_cons_zero,jB h,show s.getD i 0=s[i] by simp [h]]
  unfold lowS;rw [List.map_append,jo];rfl
 have hby:=uj (s.getD i 0);have hlk:=zo4 hby;refine⟨fun c=> ?_,fun c=> ?_⟩
 · rw [hx (by omega),zuG,hset (by omega)]
   exact⟨by omega,by omega,by omega,by omega,by omega,by omega,by omega,hA (i+1,_) ⟨by simp only;omega,rfl⟩ (by simp only;omega)⟩
 · rw [h2,jF (by omega),jq (by omega),List.append_nil]
def vg:Know Tryz.prog:=⟨195,UE,zhr⟩
def ve:Know Tryz.prog:=⟨195,fun I=>zy I (UE I),zf zhr⟩
end Go.Proofs.YtkjepecoodjbmaaGreatDoor
namespace Go.Proofs.YtkjepecoodjbmaaGreatDoor
open Go Go.Sep Go.Ab
set_option maxRecDepth 100000
theorem zm9 {p:UInt8→Bool} {s:Str} {i:Nat} (h:i≤(s.takeWhile p).length):(i<s.length∧p (s.getD i 0)=true)↔i<(s.takeWhile p).length:=by
 induction s generalizing i with
 |nil=>simp
 | cons c r ih=>
   by_cases hc:p c=true
   · simp only [List.takeWhile_cons,hc,if_true,jh] at h ⊢
     cases i with
     |zero=>simp [hc]
     | succ i=>
       have:=ih (i:=i) (by omega)
       simp only [List.getD_cons_succ];constructor
       · rintro⟨h1,h2⟩;have:=this.1 ⟨by omega,h2⟩;omega
       · intro h1;have:=this.2 (by omega);exact⟨by omega,this.2⟩
   · simp only [List.takeWhile_cons,hc,jd,if_false,ji] at h ⊢
     have:i=0:=by omega
     subst this
     simp [hc]
theorem zt5 (p:UInt8→Bool) (s:Str):s.take (s.takeWhile p).length=s.takeWhile p:=by
 induction s with
 |nil=>simp
 |cons c r ih=>by_cases hc:p c=true<;>simp [List.takeWhile_cons,hc,ih]
theorem drop_tw (p:UInt8→Bool) (s:Str):s.drop (s.takeWhile p).length=s.dropWhile p:=by
 induction s with
 |nil=>simp
 |cons c r ih=>by_cases hc:p c=true<;>simp [List.takeWhile_cons,List.dropWhile_cons,hc,ih]
theorem zvE (p:UInt8→Bool) (s:Str):(s.takeWhile p).length≤s.length:=(List.takeWhile_sublist p).length_le
theorem zwK (p:UInt8→Bool) (s:Str):(s.dropWhile p).length≤s.length:=(List.dropWhile_sublist p).length_le
def isTk (c:UInt8):Bool:=tokB (c.toNat:Int)
def tokS (s:Str):Str:=s.takeWhile isTk
def tokE (s:Str):Str:=s.dropWhile isTk
theorem su (s:Str):(tokS s).length≤s.length:=zvE _ _
theorem vN (s:Str):(tokE s).length≤s.length:=zwK _ _
theorem zt4 (s:Str):(tokS s).length+(tokE s).length=s.length:=by
 have:=congrArg List.length (List.takeWhile_append_dropWhile (p:=isTk) (l:=s));rw [jk] at this;exact this
def skS (s:Str):Str:=Lib.trimLeftS s [32,9]
theorem vJ (s:Str):(skS s).length≤s.length:=by
 unfold skS Lib.trimLeftS;exact(List.dropWhile_sublist _).length_le
def tZ (s:Str) (c:UInt8):Bool:=s.head? == some c
theorem zcL {s:Str} {c:UInt8} (h:tZ s c=true):0<s.length:=by
 cases s with
 |nil=>simp [tZ] at h
 |cons a r=>simp
theorem zcM {s:Str} {c:UInt8}:tZ s c=true↔0<s.length∧s.getD 0 0=c:=by
 cases s with
 |nil=>simp [tZ]
 |cons a r=>simp [tZ]
theorem drop1 (s:Str):List.take (s.length - Int.toNat 1) (List.drop (Int.toNat 1) s)=s.drop 1:=by
 show List.take (s.length - 1) (List.drop 1 s)=s.drop 1
 exact jq (by simp)
def quoF:Str→Option (Str × Str)
 |[]=>none
 |[x]=>if x=34 then some ([],[]) else none
 |x::y::r=>if x=34 then some ([],y::r) else if x=92 then(quoF r).map (fun p=>(y::p.1,p.2)) else(quoF (y::r)).map (fun p=>(x::p.1,p.2))
def quoV (s:Str):Str:=match quoF s with|some p=>p.1|none=>[]
def quoR (s:Str):Str:=match quoF s with|some p=>p.2|none=>[]
theorem Qo: ∀ (s:Str) (p:Str × Str),quoF s=some p→p.1.length+p.2.length<s.length
 |[],p,h=>by simp [quoF] at h
 | [x],p,h=>by
   simp only [quoF] at h
   split at h
   · cases h;simp
   · cases h
 | x ::y::r,p,h=>by
   simp only [quoF] at h
   split at h
   · cases h;simp
   · split at h
     · rw [Option.map_eq_some_iff] at h
       obtain⟨q,hq,rfl⟩:=h;have:=Qo r q hq;simp only [jh];omega
     · rw [Option.map_eq_some_iff] at h
       obtain⟨q,hq,rfl⟩:=h;have:=Qo (y::r) q hq;simp only [jh] at this ⊢;omega
theorem zrT (s:Str):(quoR s).length≤s.length:=by
 unfold quoR
 split
 · rename_i p h;have:=Qo _ _ h;omega
 · simp
theorem zrS (s:Str):(quoV s).length≤s.length:=by
 unfold quoV
 split
 · rename_i p h;have:=Qo _ _ h;omega
 · simp
def parM (s:Str):Int × Fld × Str:=
 if tokS s=[] then(5,⟨[],[]⟩,tokE s)
 else if tZ (tokE s) 61=false then(5,⟨[],[]⟩,tokE s)
 else if tZ ((tokE s).drop 1) 34=true then
  if(quoF ((tokE s).drop 2)).isSome=true then(0,⟨lowS (tokS s),quoV ((tokE s).drop 2)⟩,quoR ((tokE s).drop 2)) else(14,⟨[],[]⟩,[])
 else if tokS ((tokE s).drop 1)=[] then(5,⟨[],[]⟩,tokE ((tokE s).drop 1))
 else(0,⟨lowS (tokS s),tokS ((tokE s).drop 1)⟩,tokE ((tokE s).drop 1))
theorem zd0 (s:Str):(parM s).2.2.length≤s.length∧(parM s).2.1.name.length≤s.length∧(parM s).2.1.value.length≤s.length:=by
 have h1:=vN s;have h2:=vN ((tokE s).drop 1);have h3:=zrT ((tokE s).drop 2);have h4:=zrS ((tokE s).drop 2);have h5:=su s;have h6:=su ((tokE s).drop 1);simp only [jC] at h2 h3 h4 h6;unfold parM
 repeat' split
 all_goals simp only [ji,vV];omega
def getP (l:List Fld) (n:Str):Str × Bool:=match l.find? (fun f=>f.name == n) with|some f=>(f.value,true)|none=>([],false)
def medL:Nat→Str→List Fld→Int × List Fld × Str
 |0,s,ps=>(5,ps,s)
 | n +1,s,ps=>
   if tZ s 59=true then
    if(parM (skS (s.drop 1))).1≠0 then((parM (skS (s.drop 1))).1,ps,(parM (skS (s.drop 1))).2.2)
    else if(getP ps (parM (skS (s.drop 1))).2.1.name).2=true then(9,ps,(parM (skS (s.drop 1))).2.2)
    else if ps.length=8 then(8,ps,(parM (skS (s.drop 1))).2.2)
    else medL n (skS (parM (skS (s.drop 1))).2.2) (ps++[(parM (skS (s.drop 1))).2.1])
   else if s=[] then(0,ps,s) else(5,ps,s)
def medB (w:Str) (s:Str):Int × Med × Str:=((medL ((skS s).length+1) (skS s) []).1,⟨w,(medL ((skS s).length+1) (skS s) []).2.1⟩,(medL ((skS s).length+1) (skS s) []).2.2)
def medA (s:Str):Int × Med × Str:=
 if tokS s=[] then(5,⟨[],[]⟩,tokE s)
 else if tZ (tokE s) 47=true then
  if tokS ((tokE s).drop 1)=[] then(5,⟨[],[]⟩,tokE ((tokE s).drop 1))
  else medB (lowS (tokS s)++([47]++lowS (tokS ((tokE s).drop 1)))) (tokE ((tokE s).drop 1))
 else medB (lowS (tokS s)) (tokE s)
def wR (s:Str):Int × Med × Str:=medA (skS s)
def wz (s:Str):Med × Int:=if XR s=false then(⟨[],[]⟩,3) else if(wR s).1=0 then((wR s).2.1,0) else(⟨[],[]⟩,(wR s).1)
theorem zfP (s:Str):(parM s).1=0∨(parM s).1=5∨(parM s).1=14:=by
 unfold parM
 repeat' split
 all_goals simp
def ixP (l:List Fld) (n:Str):Int:=if l.findIdx (fun f=>f.name == n)<l.length then(l.findIdx (fun f=>f.name == n):Int) else -1
theorem zuY (l:List Fld) (n:Str):getP l n=if 0≤ixP l n then((l.getD (ixP l n).toNat ⟨[],[]⟩).value,true) else([],false):=by
 unfold getP ixP;rw [List.find?_eq_getElem?_findIdx]
 by_cases h:l.findIdx (fun f=>f.name == n)<l.length
 · rw [if_pos h,if_pos (by omega),jm h]
   simp [jH,h]
 · rw [if_neg h,if_neg (by omega),List.getElem?_eq_none (by omega)]
end Go.Proofs.YtkjepecoodjbmaaGreatDoor
namespace Go.Proofs.YtkjepecoodjbmaaGreatDoor
open Go Go.Sep Go.Ab
set_option maxRecDepth 100000
def Zn (I:Alg) (args:List D) (hp:List HO):Option CT:=match args,hp with
 |[.v (.one (.p (.str s))),.v (.one (.p (.str ([32,9]))))],[]=>(fun(s:Str)=>(some (.one ⟨I.hid (True),(.ret (.v (.one (.p (.str (I.hid ((skS s)))))))),[]⟩):Option CT)) s
 |_,_=>none
theorem zaq:zx Tryz.prog 278 (Zn alg):=by
 intro args hp r h;unfold Zn at h;split at h<;>cases h
 rename_i s;simp only [CT.Good,zi];intro _
 refine Spc.of_below ⟨_,Tryz.func278,by kernel_rfl,by kernel_rfl⟩ fun S bs w vs _ hM=> ?_
 obtain⟨v,r,rfl⟩: ∃ v r,vs=v::r:=by cases vs with|nil=>exact hM.elim|cons v r=>exact⟨v,r,rfl⟩
 obtain⟨h1,hM⟩:=hM
 obtain⟨v2,r2,rfl⟩: ∃ v r2,r=v::r2:=by cases r with|nil=>exact hM.elim|cons v r=>exact⟨v,r,rfl⟩
 obtain⟨h2,hM⟩:=hM
 obtain rfl:r2=[]:=by cases r2 with|nil=>rfl|cons v r=>exact hM.elim
 cases h1 with
 | str _ hl1=>
   cases h2 with
   | str _ hl2=>
     refine⟨.string (Sep.S (skS s)),.str _ (Nat.le_trans (vJ _) hl1),?_⟩
     exact Tryz.strings_TrimLeft_laid (Sep.S s) (Sep.S [32,9]) w (by decide) (fun j b hb=>by
      have:=List.mem_of_getElem? hb
      rcases(by simpa [Sep.S] using this:b=32∨b=9) with rfl|rfl<;>decide)
def zhG:Know Tryz.prog:=⟨278,Zn,zaq⟩
def zhF:Know Tryz.prog:=⟨278,fun I=>zy I (Zn I),zf zaq⟩
theorem zuv (b:Bool) (c:Int) (hneed:b=false):Spc Tryz.prog 254 [.v (.one (.p (.bool b))),.v (.one (.p (.int .i64 c)))] [] (.ret (.tup [])) []:=by
 refine spcG zh mixed Tryz.func254 (by kernel_rfl) { keep:=some [0,1]} [] (by kernel_rfl) ?_
 intro I X hI hX
 refine orcL ?_;go_invoke;refine orcS (by kernel_rfl) ?_
 simp only [zq,Nat.reduceAdd];subst hI;simp only [nrmA,nrmB]
 (repeat' (first|refine ja ?_ ?_|intro _))<;>first|omega|exact jb|exact jc ‹False›|skip
 all_goals simp_all
theorem zuu (b:Bool) (c:Int) (hneed:b=true):Spc Tryz.prog 254 [.v (.one (.p (.bool b))),.v (.one (.p (.int .i64 c)))] [] (.pan (.ifc 256 false [(.int .i64 c)])) []:=by
 refine spcG zh mixed Tryz.func254 (by kernel_rfl) { keep:=some [0,1]} [] (by kernel_rfl) ?_
 intro I X hI hX
 refine orcL ?_;go_invoke;refine orcS (by kernel_rfl) ?_
 simp only [zq,Nat.reduceAdd];subst hI;simp only [nrmA,nrmB]
 (repeat' (first|refine ja ?_ ?_|intro _))<;>first|omega|exact jb|exact jc ‹False›|skip
 all_goals simp_all
def Qv (I:Alg) (args:List D) (hp:List HO):Option CT:=match args,hp with
 |[.v (.one (.p (.bool b))),.v (.one (.p (.int .i64 c)))],[]=>(fun(b:Bool) (c:Int)=>(some (.br (I.hid (b)) (.one ⟨I.hid (b=true),(.pan (.ifc 256 false [(.int .i64 c)])),[]⟩) (.one ⟨I.hid (b=false),(.ret (.tup [])),[]⟩)):Option CT)) b c
 |_,_=>none
theorem zkj:zx Tryz.prog 254 (Qv alg):=by
 intro args hp r h;unfold Qv at h
 split at h
 · cases h;exact⟨fun _ hn=>zuu _ _ hn,fun _ hn=>zuv _ _ hn⟩
 · cases h
def wQ:Know Tryz.prog:=⟨254,Qv,zkj⟩
def wP:Know Tryz.prog:=⟨254,fun I=>zy I (Qv I),zf zkj⟩
def Xa (I:Alg) (args:List D) (hp:List HO):Option CT:=match args,hp with
 |[.v (.one (.ptr 0 0))],[.pack [.obj 260 [(.p (.str s))]]]=>(fun(s:Str)=>(some (.one ⟨I.hid (True),(.ret (.tup [])),[.pack [.obj 260 [(.p (.str (I.hid ((skS s)))))]]]⟩):Option CT)) s
 |_,_=>none
theorem zcw:zx Tryz.prog 250 (Xa alg):=by
 intro args hp r h;unfold Xa at h;split at h<;>cases h
 rename_i s;simp only [CT.Good,zi];intro _
 refine spcG zh mixed Tryz.func250 (by kernel_rfl) { keep:=some [0]} [zhG,zhF] (by kernel_rfl) ?_
 intro I X hI hX
 refine orcL ?_;go_invoke;refine orcS (by kernel_rfl) ?_
 simp only [zq,Nat.reduceAdd];subst hI;simp only [nrmA,nrmB,nrlB,reduceCtorEq,HO.pack.injEq,HO.obj.injEq]
 try trivial
def Y9:Know Tryz.prog:=⟨250,Xa,zcw⟩
def Y8:Know Tryz.prog:=⟨250,fun I=>zy I (Xa I),zf zcw⟩
def Qr (I:Alg) (args:List D) (hp:List HO):Option CT:=match args,hp with
 |[.v (.one (.ptr 0 0)),.v (.one (.p (.int .u8 k)))],[.pack [.obj 260 [(.p (.str s))]]]=>(fun(s:Str) (k:Int)=>(some (.one ⟨I.hid (0≤k∧k≤255),(.ret (.v (.one (.p (.bool (I.hid ((tZ s (UInt8.ofNat k.toNat))))))))),[.pack [.obj 260 [(.p (.str (I.hid ((if tZ s (UInt8.ofNat k.toNat)=true then s.drop 1 else s)))))]]]⟩):Option CT)) s k
 |_,_=>none
theorem zkg:zx Tryz.prog 252 (Qr alg):=by
 intro args hp r h;unfold Qr at h;split at h<;>cases h
 rename_i k s;simp only [CT.Good,zi];intro hneed;generalize hr:tZ s (UInt8.ofNat k.toNat)=r
 refine spcG zh mixed Tryz.func252 (by kernel_rfl) { keep:=some [0,1,4,5]} [] (by kernel_rfl) ?_
 intro I X hI hX
 refine orcL ?_;go_invoke;refine orcS (by kernel_rfl) ?_
 simp only [zq,Nat.reduceAdd];subst hI;simp only [nrmA,nrmB,nrlB,reduceCtorEq,HO.pack.injEq,HO.obj.injEq]
 have hk:((UInt8.ofNat k.toNat).toNat:Int)=k:=by rw [UInt8.toNat_ofNat',Nat.mod_eq_of_lt (by omega)];omega
 have hk2: ∀ c:UInt8,(c.toNat:Int)=k↔c=UInt8.ofNat k.toNat:=fun c=>⟨fun h=>by rw [← h];simp,fun h=>by rw [h];exact hk⟩
 rw [drop1];have hs:s=[]↔s.length=0:=List.length_eq_zero_iff.symm;rw [hs]
 cases r with
 | true=>
   obtain⟨h1,h2⟩:=zcM.1 hr;have hkk:=(hk2 _).2 h2;rw [hkk]
   (repeat' (first|refine ja ?_ ?_|intro _))<;>first|omega|exact jb|exact jc ‹False›|skip
   all_goals first|omega|(simp;done)|(simp_all;done)
 | false=>
   have h1:0<s.length→¬ ((s.getD 0 0).toNat:Int)=k:=fun h q=>by rw [zcM.2 ⟨h,(hk2 _).1 q⟩] at hr;cases hr
   (repeat' (first|refine ja ?_ ?_|intro _))<;>first|omega|exact jb|exact jc ‹False›|skip
   all_goals first|omega|(simp;done)|(exfalso;exact h1 (by omega) ‹_›)|(have:=h1 (by omega);simp_all;done)|trace_state
def Y7:Know Tryz.prog:=⟨252,Qr,zkg⟩
def Y6:Know Tryz.prog:=⟨252,fun I=>zy I (Qr I),zf zkg⟩
theorem zv2 (s:Str) (hneed:s.length≤1000000∧¬ tokS s=[]):Spc Tryz.prog 251 [.v (.one (.ptr 0 0))] [.pack [.obj 260 [(.p (.str s))]]] (.ret (.v (.one (.p (.str ((tokS s))))))) [.pack [.obj 260 [(.p (.str ((tokE s))))]]]:=by
 obtain⟨hl,hne⟩:=hneed
 refine spcG zh mixed Tryz.func251 (by kernel_rfl) { keep:=some [0,2,3,4]} [Zo,Wl,wQ,wP] (by kernel_rfl) ?_
 intro I X hI hX
 refine orcL ?_;go_invoke;refine orcS (by kernel_rfl) ?_
 simp only [zq,Nat.reduceAdd]
 refine zB hI zh mixed [Zo,Wl,wQ,wP] hX [0,3] (fun(i:Nat)=>i≤(tokS s).length) (fun(i:Nat)=>⟨[(0,.v (.one (.ptr 0 0))),(3,.v (.one (.p (.int .i64 i))))],[.pack [.obj 260 [(.p (.str s))]]],42,none⟩) (fun(i:Nat)=>s.length - i) 0 (by kernel_rfl) (by kernel_rfl) ?_ ?_
 · exact jM _
 rintro i h1 A hA
 refine orcL ?_;go_invoke;refine orcS (by kernel_rfl) ?_
 simp only [zq,Nat.reduceAdd];subst hI;simp only [nrmA,nrmB,nrlB,reduceCtorEq,HO.pack.injEq,HO.obj.injEq];have hb:=uj (s.getD i 0);have hs:=zm9 (p:=isTk) (s:=s) h1;have hle:=su s;have ht:=zt5 isTk s;have hd:=drop_tw isTk s;unfold isTk at hs
 change _↔i<(tokS s).length at hs
 change s.take (tokS s).length=tokS s at ht
 change s.drop (tokS s).length=tokE s at hd
 have hlen:=zt4 s
 have hend: ¬ i<(tokS s).length→i=(tokS s).length:=fun h=>by omega
 generalize s.getD i 0=x at *
 have hgo:i<(tokS s).length→A ⟨[(0,.v (.one (.ptr 0 0))),(3,.v (.one (.p (.int .i64 (((i:Int)+1))))))],[.pack [.obj 260 [(.p (.str s))]]],42,none⟩:=fun h=>hA (i+1) (by omega) (by omega)
 by_cases hi:i<(tokS s).length
 · have hi2:=hs.2 hi
   clear hs hend ht hd hA
   (repeat' (first|refine ja ?_ ?_|intro _))<;>first|omega|exact jb|exact jc ‹False›|skip
   all_goals first
    |omega
    |exact hgo hi
    |(exfalso;simp_all;done)
 · have hx:i<s.length→tokB (x.toNat:Int)=true→False:=fun a b=>hi (hs.1 ⟨a,b⟩)
   have hi2:=hend hi;clear hs hend hA hgo;subst hi2;rw [ht]
   have hcut:List.take (s.length - (tokS s).length) (List.drop (tokS s).length s)=tokE s:=by rw [hd];exact jq (by omega)
   rw [hcut]
   (repeat' (first|refine ja ?_ ?_|intro _))<;>first|omega|exact jb|exact jc ‹False›|skip
   all_goals first
    |omega
    |(exfalso;exact hx (by omega) ‹_›)
    |(exfalso;exact hne ‹_›)
    |(simp [hne];done)
theorem zv1 (s:Str) (hneed:s.length≤1000000∧tokS s=[]):Spc Tryz.prog 251 [.v (.one (.ptr 0 0))] [.pack [.obj 260 [(.p (.str s))]]] (.pan (.ifc 256 false [(.int .i64 5)])) [.pack [.obj 260 [(.p (.str ((tokE s))))]]]:=by
 obtain⟨hl,hne⟩:=hneed
 refine spcG zh mixed Tryz.func251 (by kernel_rfl) { keep:=some [0,2,3,4]} [Zo,Wl,wQ,wP] (by kernel_rfl) ?_
 intro I X hI hX
 refine orcL ?_;go_invoke;refine orcS (by kernel_rfl) ?_
 simp only [zq,Nat.reduceAdd]
 refine zB hI zh mixed [Zo,Wl,wQ,wP] hX [0,3] (fun(i:Nat)=>i≤(tokS s).length) (fun(i:Nat)=>⟨[(0,.v (.one (.ptr 0 0))),(3,.v (.one (.p (.int .i64 i))))],[.pack [.obj 260 [(.p (.str s))]]],42,none⟩) (fun(i:Nat)=>s.length - i) 0 (by kernel_rfl) (by kernel_rfl) ?_ ?_
 · exact jM _
 rintro i h1 A hA
 refine orcL ?_;go_invoke;refine orcS (by kernel_rfl) ?_
 simp only [zq,Nat.reduceAdd];subst hI;simp only [nrmA,nrmB,nrlB,reduceCtorEq,HO.pack.injEq,HO.obj.injEq];have hb:=uj (s.getD i 0);have hs:=zm9 (p:=isTk) (s:=s) h1;have hd:=drop_tw isTk s;unfold isTk at hs
 change _↔i<(tokS s).length at hs
 change s.drop (tokS s).length=tokE s at hd
 rw [hne] at h1 hs hd;simp only [ji] at h1 hs hd
 have h0:i=0:=by omega
 subst h0;generalize s.getD 0 0=x at *
 have hx:0<s.length→tokB (x.toNat:Int)=true→False:=fun a b=>absurd (hs.1 ⟨a,b⟩) (by omega)
 have hcut:List.take (s.length - 0) (List.drop 0 s)=tokE s:=by rw [hd];exact jq (by have:=vN s;omega)
 clear hs hA;simp only [jJ,List.take_zero,hcut] at *
 (repeat' (first|refine ja ?_ ?_|intro _))<;>first|omega|exact jb|exact jc ‹False›|skip
 all_goals first
  |omega
  |(exfalso;exact hx (by omega) ‹_›)
  |(exfalso;rename_i hq;exact hq rfl)
  |(simp;done)
def zd1 (I:Alg) (args:List D) (hp:List HO):Option CT:=match args,hp with
 |[.v (.one (.ptr 0 0))],[.pack [.obj 260 [(.p (.str s))]]]=>(fun(s:Str)=>(some (.br (I.hid (decide (tokS s=[]))) (.one ⟨I.hid (s.length≤1000000∧tokS s=[]),(.pan (.ifc 256 false [(.int .i64 5)])),[.pack [.obj 260 [(.p (.str (I.hid ((tokE s)))))]]]⟩) (.one ⟨I.hid (s.length≤1000000∧¬ tokS s=[]),(.ret (.v (.one (.p (.str (I.hid ((tokS s)))))))),[.pack [.obj 260 [(.p (.str (I.hid ((tokE s)))))]]]⟩)):Option CT)) s
 |_,_=>none
theorem zoE:zx Tryz.prog 251 (zd1 alg):=by
 intro args hp r h;unfold zd1 at h
 split at h
 · cases h;exact⟨fun _ hn=>zv1 _ hn,fun _ hn=>zv2 _ hn⟩
 · cases h
def U6:Know Tryz.prog:=⟨251,zd1,zoE⟩
def U5:Know Tryz.prog:=⟨251,fun I=>zy I (zd1 I),zf zoE⟩
theorem zv4 (s:Str) (hneed:s.length≤1000000∧(quoF s).isSome=true):Spc Tryz.prog 279 [.v (.one (.ptr 0 0))] [.pack [.obj 260 [(.p (.str s))]]] (.ret (.v (.one (.p (.str ((quoV s))))))) [.pack [.obj 260 [(.p (.str ((quoR s))))]]]:=by
 obtain⟨hl,hne⟩:=hneed
 refine spcG zh mixed Tryz.func279 (by kernel_rfl) { nr:=[3],keep:=some [0,2,3,4]} [wQ,wP] (by kernel_rfl) ?_
 intro I X hI hX
 refine orcL ?_;go_invoke;refine orcS (by kernel_rfl) ?_
 simp only [zq,Nat.reduceAdd]
 refine zB hI zh mixed [wQ,wP] hX [0,3] (fun(g:Str × Str)=>match g with|(b,t)=>b.length+t.length≤s.length∧quoF s=(quoF t).map (fun p=>(b++p.1,p.2))) (fun(g:Str × Str)=>match g with|(b,t)=>⟨[(0,.v (.one (.ptr 0 0))),(3,.v (.one (.row 1)))],[.pack [.obj 260 [(.p (.str t))]],.row .byte 5 b],53,none⟩) (fun(g:Str × Str)=>match g with|(b,t)=>t.length) ([],s) (by kernel_rfl) (by kernel_rfl) ?_ ?_
 · exact⟨by simp,by simp⟩
 rintro⟨b,t⟩ ⟨h1,h2⟩ A hA
 refine orcL ?_;go_invoke;refine orcS (by kernel_rfl) ?_
 simp only [zq,Nat.reduceAdd];subst hI;simp only [nrmA,nrmB,nrlB,reduceCtorEq,HO.pack.injEq,HO.obj.injEq];have hb:=uj (t.getD 0 0);rw [drop1];have hq: ∀ r:Str × Str,quoF s=some r→True:=fun _ _=>trivial
 cases t with
 | nil=>
   simp only [quoF,Option.map_none] at h2
   (repeat' (first|refine ja ?_ ?_|intro _))<;>first|omega|exact jb|exact jc ‹False›|skip
   all_goals first
    |omega
    |(simp_all;done)
 |cons x t=>
 cases t with
 | nil=>
   simp only [quoF] at h2;have h34:((x.toNat:Int)=34)↔x=34:=Za x 34;have h92:((x.toNat:Int)=92)↔x=92:=Za x 92;simp only [List.getD_cons_zero,h34,h92,List.drop_succ_cons,List.drop_zero,jh,ji] at *
   have hgo: ¬ x=34→A ⟨[(0,.v (.one (.ptr 0 0))),(3,.v (.one (.row 1)))],[.pack [.obj 260 [(.p (.str ([])))]],.row .byte 5 ((b++[x]))],53,none⟩:=fun h=>hA (b++[x],[]) ⟨by simp;omega,by rw [h2,if_neg h];rfl⟩ (by simp)
   have hv:x=34→quoV s=b∧quoR s=[]:=fun h=>by unfold quoV quoR;rw [h2,if_pos h];simp
   clear hA
   (repeat' (first|refine ja ?_ ?_|intro _))<;>first|omega|exact jb|exact jc ‹False›|skip
   all_goals first
    |omega
    |exact(hv ‹_›).1.symm
    |exact(hv ‹_›).2.symm
    |exact hgo ‹_›
    |(simp_all;done)
 | cons y t=>
   simp only [quoF] at h2;have h34:((x.toNat:Int)=34)↔x=34:=Za x 34;have h92:((x.toNat:Int)=92)↔x=92:=Za x 92;have hy:=uj y
   have hyt:List.take (t.length+1 - Int.toNat 1) (List.drop (Int.toNat 1) (y::t))=t:=by simpa using drop1 (y::t)
   simp only [List.getD_cons_zero,h34,h92,List.drop_succ_cons,List.drop_zero,jh] at *
   have hgoY: ¬ x=34→x=92→A ⟨[(0,.v (.one (.ptr 0 0))),(3,.v (.one (.row 1)))],[.pack [.obj 260 [(.p (.str t))]],.row .byte 5 ((b++[y]))],53,none⟩:=fun h k=>hA (b++[y],t) ⟨by simp;omega,by rw [h2,if_neg h,if_pos k,Option.map_map];congr 1;funext p;simp⟩ (by simp;omega)
   have hgoX: ¬ x=34→¬ x=92→A ⟨[(0,.v (.one (.ptr 0 0))),(3,.v (.one (.row 1)))],[.pack [.obj 260 [(.p (.str ((y::t))))]],.row .byte 5 ((b++[x]))],53,none⟩:=fun h k=>hA (b++[x],y::t) ⟨by simp;omega,by rw [h2,if_neg h,if_neg k,Option.map_map];congr 1;funext p;simp⟩ (by simp)
   have hv:x=34→quoV s=b∧quoR s=y::t:=fun h=>by unfold quoV quoR;rw [h2,if_pos h];simp
   clear hA;simp only [ji,Nat.zero_add]
   first|rw [hyt]|skip
   (repeat' (first|refine ja ?_ ?_|intro _))<;>first|omega|exact jb|exact jc ‹False›|skip
   all_goals first
    |omega
    |exact(hv ‹_›).1.symm
    |exact(hv ‹_›).2.symm
    |exact hgoX ‹_› ‹_›
    |exact hgoY ‹_› ‹_›
    |(simp_all;done)
theorem zv3 (s:Str) (hneed:s.length≤1000000∧(quoF s).isSome=false):Spc Tryz.prog 279 [.v (.one (.ptr 0 0))] [.pack [.obj 260 [(.p (.str s))]]] (.pan (.ifc 256 false [(.int .i64 14)])) [.pack [.obj 260 [(.p (.str ([])))]]]:=by
 obtain⟨hl,hne⟩:=hneed
 refine spcG zh mixed Tryz.func279 (by kernel_rfl) { nr:=[3],keep:=some [0,2,3,4]} [wQ,wP] (by kernel_rfl) ?_
 intro I X hI hX
 refine orcL ?_;go_invoke;refine orcS (by kernel_rfl) ?_
 simp only [zq,Nat.reduceAdd]
 refine zB hI zh mixed [wQ,wP] hX [0,3] (fun(g:Str × Str)=>match g with|(b,t)=>b.length+t.length≤s.length∧quoF s=(quoF t).map (fun p=>(b++p.1,p.2))) (fun(g:Str × Str)=>match g with|(b,t)=>⟨[(0,.v (.one (.ptr 0 0))),(3,.v (.one (.row 1)))],[.pack [.obj 260 [(.p (.str t))]],.row .byte 5 b],53,none⟩) (fun(g:Str × Str)=>match g with|(b,t)=>t.length) ([],s) (by kernel_rfl) (by kernel_rfl) ?_ ?_
 · exact⟨by simp,by simp⟩
 rintro⟨b,t⟩ ⟨h1,h2⟩ A hA
 refine orcL ?_;go_invoke;refine orcS (by kernel_rfl) ?_
 simp only [zq,Nat.reduceAdd];subst hI;simp only [nrmA,nrmB,nrlB,reduceCtorEq,HO.pack.injEq,HO.obj.injEq];have hb:=uj (t.getD 0 0);rw [drop1];have hq: ∀ r:Str × Str,quoF s=some r→True:=fun _ _=>trivial
 cases t with
 | nil=>
   simp only [quoF,Option.map_none] at h2
   (repeat' (first|refine ja ?_ ?_|intro _))<;>first|omega|exact jb|exact jc ‹False›|skip
   all_goals first
    |omega
    |(simp_all;done)
 |cons x t=>
 cases t with
 | nil=>
   simp only [quoF] at h2;have h34:((x.toNat:Int)=34)↔x=34:=Za x 34;have h92:((x.toNat:Int)=92)↔x=92:=Za x 92;simp only [List.getD_cons_zero,h34,h92,List.drop_succ_cons,List.drop_zero,jh,ji] at *
   have hgo: ¬ x=34→A ⟨[(0,.v (.one (.ptr 0 0))),(3,.v (.one (.row 1)))],[.pack [.obj 260 [(.p (.str ([])))]],.row .byte 5 ((b++[x]))],53,none⟩:=fun h=>hA (b++[x],[]) ⟨by simp;omega,by rw [h2,if_neg h];rfl⟩ (by simp)
   have hv:x=34→quoV s=b∧quoR s=[]:=fun h=>by unfold quoV quoR;rw [h2,if_pos h];simp
   clear hA
   (repeat' (first|refine ja ?_ ?_|intro _))<;>first|omega|exact jb|exact jc ‹False›|skip
   all_goals first
    |omega
    |exact(hv ‹_›).1.symm
    |exact(hv ‹_›).2.symm
    |exact hgo ‹_›
    |(simp_all;done)
 | cons y t=>
   simp only [quoF] at h2;have h34:((x.toNat:Int)=34)↔x=34:=Za x 34;have h92:((x.toNat:Int)=92)↔x=92:=Za x 92;have hy:=uj y
   have hyt:List.take (t.length+1 - Int.toNat 1) (List.drop (Int.toNat 1) (y::t))=t:=by simpa using drop1 (y::t)
   simp only [List.getD_cons_zero,h34,h92,List.drop_succ_cons,List.drop_zero,jh] at *
   have hgoY: ¬ x=34→x=92→A ⟨[(0,.v (.one (.ptr 0 0))),(3,.v (.one (.row 1)))],[.pack [.obj 260 [(.p (.str t))]],.row .byte 5 ((b++[y]))],53,none⟩:=fun h k=>hA (b++[y],t) ⟨by simp;omega,by rw [h2,if_neg h,if_pos k,Option.map_map];congr 1;funext p;simp⟩ (by simp;omega)
   have hgoX: ¬ x=34→¬ x=92→A ⟨[(0,.v (.one (.ptr 0 0))),(3,.v (.one (.row 1)))],[.pack [.obj 260 [(.p (.str ((y::t))))]],.row .byte 5 ((b++[x]))],53,none⟩:=fun h k=>hA (b++[x],y::t) ⟨by simp;omega,by rw [h2,if_neg h,if_neg k,Option.map_map];congr 1;funext p;simp⟩ (by simp)
   have hv:x=34→quoV s=b∧quoR s=y::t:=fun h=>by unfold quoV quoR;rw [h2,if_pos h];simp
   clear hA;simp only [ji,Nat.zero_add]
   first|rw [hyt]|skip
   (repeat' (first|refine ja ?_ ?_|intro _))<;>first|omega|exact jb|exact jc ‹False›|skip
   all_goals first
    |omega
    |exact(hv ‹_›).1.symm
    |exact(hv ‹_›).2.symm
    |exact hgoX ‹_› ‹_›
    |exact hgoY ‹_› ‹_›
    |(simp_all;done)
def zd2 (I:Alg) (args:List D) (hp:List HO):Option CT:=match args,hp with
 |[.v (.one (.ptr 0 0))],[.pack [.obj 260 [(.p (.str s))]]]=>(fun(s:Str)=>(some (.br (I.hid ((quoF s).isSome)) (.one ⟨I.hid (s.length≤1000000∧(quoF s).isSome=true),(.ret (.v (.one (.p (.str (I.hid ((quoV s)))))))),[.pack [.obj 260 [(.p (.str (I.hid ((quoR s)))))]]]⟩) (.one ⟨I.hid (s.length≤1000000∧(quoF s).isSome=false),(.pan (.ifc 256 false [(.int .i64 14)])),[.pack [.obj 260 [(.p (.str (I.hid ([]))))]]]⟩)):Option CT)) s
 |_,_=>none
theorem zoH:zx Tryz.prog 279 (zd2 alg):=by
 intro args hp r h;unfold zd2 at h
 split at h
 · cases h;exact⟨fun _ hn=>zv4 _ hn,fun _ hn=>zv3 _ hn⟩
 · cases h
def zoG:Know Tryz.prog:=⟨279,zd2,zoH⟩
def zoF:Know Tryz.prog:=⟨279,fun I=>zy I (zd2 I),zf zoH⟩
theorem zv6 (s:Str) (hneed:s.length≤1000000∧(parM s).1=0):Spc Tryz.prog 253 [.v (.one (.ptr 0 0))] [.pack [.obj 260 [(.p (.str s))]]] (.ret (.v (.agg [(.p (.str ((parM s).2.1.name))),(.p (.str ((parM s).2.1.value)))]))) [.pack [.obj 260 [(.p (.str ((parM s).2.2)))]]]:=by
 obtain⟨hl,hc⟩:=hneed;generalize hr:parM s=r at hc;obtain⟨c,⟨n,v⟩,z⟩:=r;simp only at hc;subst hc
 refine spcG zh mixed Tryz.func253 (by kernel_rfl) { keep:=some [0,2,3]} [vg,ve,wQ,wP,Y7,Y6,U6,U5,zoG,zoF] (by kernel_rfl) ?_
 intro I X hI hX
 refine orcL ?_;go_invoke;refine orcS (by kernel_rfl) ?_
 simp only [zq,Nat.reduceAdd];subst hI;simp only [nrmA,nrmB,nrlB,reduceCtorEq,HO.pack.injEq,HO.obj.injEq];unfold parM at hr;have hl1:=su s;have hl2:=vN s;simp only [show UInt8.ofNat (Int.toNat 61)=61 from rfl,show UInt8.ofNat (Int.toNat 34)=34 from rfl] at *
 (repeat' (first|refine ja ?_ ?_|intro _))<;>first|omega|exact jb|exact jc ‹False›|skip
 all_goals first
  |omega
  |(simp_all;done)
  |(simp_all;omega)
theorem zv5 (s:Str) (hneed:s.length≤1000000∧¬ (parM s).1=0):Spc Tryz.prog 253 [.v (.one (.ptr 0 0))] [.pack [.obj 260 [(.p (.str s))]]] (.pan (.ifc 256 false [(.int .i64 ((parM s).1))])) [.pack [.obj 260 [(.p (.str ((parM s).2.2)))]]]:=by
 obtain⟨hl,hc⟩:=hneed;generalize hr:parM s=r at hc;obtain⟨c,⟨n,v⟩,z⟩:=r;simp only at hc
 refine spcG zh mixed Tryz.func253 (by kernel_rfl) { keep:=some [0,2,3]} [vg,ve,wQ,wP,Y7,Y6,U6,U5,zoG,zoF] (by kernel_rfl) ?_
 intro I X hI hX
 refine orcL ?_;go_invoke;refine orcS (by kernel_rfl) ?_
 simp only [zq,Nat.reduceAdd];subst hI;simp only [nrmA,nrmB,nrlB,reduceCtorEq,HO.pack.injEq,HO.obj.injEq];unfold parM at hr;have hl1:=su s;have hl2:=vN s;simp only [show UInt8.ofNat (Int.toNat 61)=61 from rfl,show UInt8.ofNat (Int.toNat 34)=34 from rfl] at *
 (repeat' (first|refine ja ?_ ?_|intro _))<;>first|omega|exact jb|exact jc ‹False›|skip
 all_goals first
  |omega
  |(simp_all;done)
  |(simp_all;omega)
  |(by_cases hq:tokS (List.drop 1 (tokE s))=[]<;>simp_all;done)
def zd5 (I:Alg) (args:List D) (hp:List HO):Option CT:=match args,hp with
 |[.v (.one (.ptr 0 0))],[.pack [.obj 260 [(.p (.str s))]]]=>(fun(s:Str)=>(some (.br (I.hid (decide ((parM s).1=0))) (.one ⟨I.hid (s.length≤1000000∧(parM s).1=0),(.ret (.v (.agg [(.p (.str (I.hid ((parM s).2.1.name)))),(.p (.str (I.hid ((parM s).2.1.value))))]))),[.pack [.obj 260 [(.p (.str (I.hid ((parM s).2.2))))]]]⟩) (.one ⟨I.hid (s.length≤1000000∧¬ (parM s).1=0),(.pan (.ifc 256 false [(.int .i64 (I.hid ((parM s).1)))])),[.pack [.obj 260 [(.p (.str (I.hid ((parM s).2.2))))]]]⟩)):Option CT)) s
 |_,_=>none
theorem zoI:zx Tryz.prog 253 (zd5 alg):=by
 intro args hp r h;unfold zd5 at h
 split at h
 · cases h;exact⟨fun _ hn=>zv6 _ hn,fun _ hn=>zv5 _ hn⟩
 · cases h
def zd4:Know Tryz.prog:=⟨253,zd5,zoI⟩
def zd3:Know Tryz.prog:=⟨253,fun I=>zy I (zd5 I),zf zoI⟩
end Go.Proofs.YtkjepecoodjbmaaGreatDoor
namespace Go.Proofs.YtkjepecoodjbmaaGreatDoor
open Go Go.Sep Go.Ab
set_option maxRecDepth 100000
def Qu (I:Alg) (args:List D) (hp:List HO):Option CT:=match args,hp with
 |[.v (.agg [(.p (.str a)),(.p (.str b))]),.v (.one (.ptr 0 0))],[.pack [.obj 9 [(.p (.str n))]]]=>(fun(a b n:Str)=>(some (.one ⟨I.hid (True),(.ret (.v (.one (.p (.bool (I.hid ((a == n)))))))),[.pack [.obj 9 [(.p (.str n))]]]⟩):Option CT)) a b n
 |_,_=>none
theorem zki:zx Tryz.prog 245 (Qu alg):=by
 intro args hp r h;unfold Qu at h;split at h<;>cases h
 rename_i a b n;simp only [CT.Good,zi];intro _
 refine spcG zh mixed Tryz.func245 (by kernel_rfl) { keep:=some [0,1,2,3]} [] (by kernel_rfl) ?_
 intro I X hI hX
 refine orcL ?_;go_invoke;refine orcS (by kernel_rfl) ?_
 simp only [zq,Nat.reduceAdd];subst hI;simp only [nrmA,nrmB,nrlB,reduceCtorEq,HO.pack.injEq,HO.obj.injEq]
 try trivial
def zeb:Know Tryz.prog:=⟨245,Qu,zki⟩
def zr2:Know Tryz.prog:=⟨245,fun I=>zy I (Qu I),zf zki⟩
def zkh (I:Alg) (args:List D) (hp:List HO):Option CT:=match args,hp with
 |[.v (.one (.p (.list .fld l))),.v (.one (.fn 245 [.ptr 0 0]))],[.pack [.obj 9 [(.p (.str n))]]]=>(fun(l:List Fld) (n:Str)=>(some (.one ⟨I.hid (l.length≤1000000),(.ret (.v (.one (.p (.int .i64 (I.hid ((ixP l n)))))))),[.pack [.obj 9 [(.p (.str n))]]]⟩):Option CT)) l n
 |_,_=>none
set_option maxHeartbeats 1000000 in
theorem ztm:zx Tryz.prog 244 (zkh alg):=by
 intro args hp r h;unfold zkh at h;split at h<;>cases h
 rename_i l n
 revert l;intro(l:List Fld)
 simp only [CT.Good,zi];intro hneed
 refine spcG zh mixed Tryz.func244 (by kernel_rfl) { keep:=some [0,1,4,5,7,8]} [zeb] (by kernel_rfl) ?_
 intro I X hI hX
 refine orcL ?_;go_invoke;refine orcS (by kernel_rfl) ?_
 simp only [zq,Nat.reduceAdd]
 refine zB hI zh mixed [zeb] hX [0,1,7,8] (fun(i:Nat)=>i≤l.length∧i≤l.findIdx (fun f=>f.name == n)) (fun(i:Nat)=>⟨[(0,.v (.one (.p (.list .fld l)))),(1,.v (.one (.fn 245 [.ptr 0 0]))),(7,.v (.one (.p (.int .i64 ((I.len (α:=Fld) l)))))),(8,.v (.one (.p (.int .i64 i))))],[.pack [.obj 9 [(.p (.str n))]]],19,none⟩) (fun(i:Nat)=>l.length - i) 0 (by kernel_rfl) (by kernel_rfl) ?_ ?_
 · exact⟨jM _,jM _⟩
 rintro i ⟨h1,h2⟩ A hA
 refine orcL ?_;go_invoke;refine orcS (by kernel_rfl) ?_
 simp only [zq,Nat.reduceAdd];subst hI;simp only [nrmA,nrmB,nrlB,reduceCtorEq,HO.pack.injEq,HO.obj.injEq];have hfl:l.findIdx (fun f=>f.name == n)≤l.length:=List.findIdx_le_length
 have hyes:i<l.length→(l.getD i ⟨[],[]⟩).name=n→ixP l n=i:=fun h hid=>by
  have h0:l.findIdx (fun f=>f.name == n)≤i:=by
   refine Nat.le_of_not_lt fun hlt=> ?_;have:=List.not_of_lt_findIdx hlt;rw [jH,jm h] at hid;simp only [Option.getD_some] at hid;rw [hid] at this;simp at this
  unfold ixP
  rw [if_pos (by omega)];omega
 have hno:i<l.length→¬ (l.getD i ⟨[],[]⟩).name=n→i+1≤l.findIdx (fun f=>f.name == n):=fun h hid=>by
  refine Nat.lt_of_le_of_ne h2 fun e=>hid ?_
  have hlt:l.findIdx (fun f=>f.name == n)<l.length:=by omega
  have:=List.findIdx_getElem (xs:=l) (p:=fun f=>f.name == n) (w:=hlt)
  have h9:l.getD i ⟨[],[]⟩=l[l.findIdx (fun f=>f.name == n)]:=by simp [e,jH,hlt]
  rw [h9];simpa using this
 have hend: ¬ i<l.length→ixP l n= -1:=fun h=>by unfold ixP;rw [if_neg (by omega)]
 generalize l.getD i ⟨[],[]⟩=x at *
 (repeat' (first|refine ja ?_ ?_|intro _))<;>first|omega|exact jb|exact jc ‹False›|skip
 all_goals first
  |omega
  |(exact(hyes (by omega) ‹_›).symm)
  |(exact hA (i+1) ⟨by omega,hno (by omega) ‹_›⟩ (by omega))
  |(exact(hend (by omega)).symm)
def zwa:Know Tryz.prog:=⟨244,zkh,ztm⟩
def zv9:Know Tryz.prog:=⟨244,fun I=>zy I (zkh I),zf ztm⟩
theorem zwp (l:List Fld) (n:Str): -1≤ixP l n∧ixP l n<l.length:=by unfold ixP;split<;>omega
def zea (I:Alg) (args:List D) (hp:List HO):Option CT:=match args,hp with
 |[.v (.agg [(.p (.str w)),(.p (.list .fld l))]),.v (.one (.p (.str n)))],[]=>(fun(w:Str) (l:List Fld) (n:Str)=>(some (.one ⟨I.hid (l.length≤1000000),(.ret (.tup [(.one (.p (.str (I.hid ((getP l n).1))))),(.one (.p (.bool (I.hid ((getP l n).2)))))])),[]⟩):Option CT)) w l n
 |_,_=>none
theorem zoL:zx Tryz.prog 215 (zea alg):=by
 intro args hp r h;unfold zea at h;split at h<;>cases h
 rename_i w l n
 revert l;intro(l:List Fld)
 simp only [CT.Good,zi];intro hneed;rw [zuY];have hx:=zwp l n
 refine spcG zh mixed Tryz.func215 (by kernel_rfl) { keep:=some [0,1,2,3,4,5,6]} [zeb,zr2,zwa,zv9] (by kernel_rfl) ?_
 intro I X hI hX
 refine orcL ?_;go_invoke;refine orcS (by kernel_rfl) ?_
 simp only [zq,Nat.reduceAdd];subst hI;simp only [nrmA,nrmB]
 (repeat' (first|refine ja ?_ ?_|intro _))<;>first|omega|exact jb|exact jc ‹False›|skip
 all_goals first
  |omega
  |(rw [if_pos (by omega)])
  |(rw [if_neg (by omega)])
def U8:Know Tryz.prog:=⟨215,zea,zoL⟩
def U7:Know Tryz.prog:=⟨215,fun I=>zy I (zea I),zf zoL⟩
def cfgM:Cfg:= { sl:=[⟨210,1,.fld,some 236⟩]}
set_option maxHeartbeats 4000000 in
theorem zv8 (s:Str) (hneed:s.length≤1000000∧(wR s).1=0):Spc Tryz.prog 221 [.v (.one (.ptr 0 0))] [.pack [.obj 260 [(.p (.str s))]]] (.ret (.v (.agg [(.p (.str ((wR s).2.1.word))),(.p (.list .fld ((wR s).2.1.params)))]))) [.pack [.obj 260 [(.p (.str ((wR s).2.2)))]]]:=by
 obtain⟨hl,hc⟩:=hneed;generalize hr:wR s=r at hc;obtain⟨c,⟨w,ps⟩,z⟩:=r;simp only at hc;subst hc
 refine spcG zh mixed Tryz.func221 (by kernel_rfl) { cfgM with lend:=[215],keep:=some [0,2,3,4,6]} [vg,ve,wQ,wP,Y9,Y8,Y7,Y6,U6,U5,zd4,zd3,U8,U7] (by kernel_rfl) ?_
 intro I X hI hX
 refine orcL ?_;go_invoke;refine orcS (by kernel_rfl) ?_
 simp only [zq,Nat.reduceAdd]
 have hh: ∀ {α:Type} (x:α),I.hid x=x:=by subst hI;intros;rfl
 have key : ∀ (w0 t0:Str),t0.length≤1000000→((medL (t0.length+1) t0 []).1,(⟨w0,(medL (t0.length+1) t0 []).2.1⟩:Med),(medL (t0.length+1) t0 []).2.2)=(0,⟨w,ps⟩,z)→Ok Tryz.prog X (fun o h=>o=AOut.ret (D.v (V0.agg [C.p (P.str w),C.p (P.list U.fld ps)]))∧h=[HO.pack [HO.obj 260 [C.p (P.str z)]]]) (leaf I tab { cfgM with lend:=[215],keep:=some [0,2,3,4,6]} [⟨um Tryz.f221,finK I tab { cfgM with lend:=[215],keep:=some [0,2,3,4,6]} 1 Tryz.f221⟩] 0 [1,1,1,1,0,1,0] ⟨[(3,.v (.one (.ptr 2 0))),(2,.v (.one (.ptr 1 0))),(0,.v (.one (.ptr 0 0)))],[.pack [.obj 260 [(.p (.str t0))]],.obj 210 [(.p (.str ([]))),.nilS],.obj 210 [(.p (.str w0)),.nilS]],60,none⟩):=by
  intro w0 t0 ht0 hm;simp only [Prod.mk.injEq,Med.mk.injEq] at hm;obtain⟨hm1,⟨rfl,hm2⟩,hm3⟩:=hm
  refine zB hI zh mixed [vg,ve,wQ,wP,Y9,Y8,Y7,Y6,U6,U5,zd4,zd3,U8,U7] hX [0,2,3] (fun(g:Str × List Fld)=>match g with|(t,l)=>t.length≤1000000∧l.length≤8∧∃ n,t.length<n∧medL n t l=(0,ps,z)) (fun(g:Str × List Fld)=>match g with|(t,l)=>⟨[(0,.v (.one (.ptr 0 0))),(2,.v (.one (.ptr 1 0))),(3,.v (.one (.ptr 2 0)))],[.pack [.obj 260 [(.p (.str t))]],.pack [.obj 210 [(.p (.str ([]))),(.row 1)],.row .fld 236 ([])],.pack [.obj 210 [(.p (.str w0)),(.row 1)],.row .fld 236 l]],60,none⟩) (fun(g:Str × List Fld)=>match g with|(t,l)=>t.length) (t0,[]) (by kernel_rfl) (by kernel_rfl) ?_ ?_
  · exact⟨ht0,by simp,t0.length+1,by omega,by rw [← hm1,← hm2,← hm3]⟩
  rintro⟨t,l⟩ ⟨ht,hl8,n,hn,hm⟩ A hA;clear hm1 hm2 hm3 hr;simp only at hA
  refine orcL ?_;go_invoke;refine orcS (by kernel_rfl) ?_
  simp only [zq,Nat.reduceAdd]
  cases n with
  |zero=>omega
  |succ n=>
  simp only [medL] at hm;have hgo:=hA (skS (parM (skS (t.drop 1))).2.2,l++[(parM (skS (t.drop 1))).2.1]);have hpl:=zd0 (skS (t.drop 1));have hpc:=zfP (skS (t.drop 1));have hsl:=vJ (t.drop 1);have hsr:=vJ (parM (skS (t.drop 1))).2.2;rw [jC] at hsl;clear hA;simp only [hh,show UInt8.ofNat (Int.toNat 59)=59 from rfl];subst hI
  by_cases h59:tZ t 59=true
  · have hpos:=zcL h59
    simp only [h59,if_true] at hm ⊢
    have hgo2:(parM (skS (t.drop 1))).1=0→(getP l (parM (skS (t.drop 1))).2.1.name).2=false→¬ l.length=8→_:=fun h1 h2 h3=>hgo ⟨by simp only;omega,by simp only [jk,jh,ji];omega,n,by simp only;omega,by
     rw [if_neg (fun h=>h h1),if_neg (by rw [h2];exact Bool.false_ne_true),if_neg h3] at hm;exact hm⟩ (by simp only;omega)
    clear hgo;simp only at hgo2;generalize parM (skS (t.drop 1))=p at *;obtain⟨pc,⟨pn,pv⟩,pr⟩:=p;simp only at hgo2 hm hpl hpc hsl hsr ⊢;simp only [nrmA,nrmB,nrlB,reduceCtorEq,jh,ji]
    (repeat' (first|refine ja ?_ ?_|intro _))<;>first|omega|exact jb|exact jc ‹False›|skip
    all_goals first
     |omega
     |assumption
     | (by_cases hpz:pc=0
        · exact hpz
        · rw [if_pos hpz] at hm;simp only [Prod.mk.injEq] at hm;exact hm.1)
     |exact hgo2 ‹_› ‹_› (by omega)
     |(exfalso;rw [if_neg (fun h=>h ‹pc=0›),if_neg (by rw [‹(getP l pn).2=false›];exact Bool.false_ne_true),if_pos (by omega)] at hm;simp_all;done)
     |(rw [if_neg (fun h=>h ‹pc=0›),if_neg (by rw [‹(getP l pn).2=false›];exact Bool.false_ne_true),if_pos (by omega)] at hm;simp_all;done)
     |(exfalso;simp_all;done)
     |(simp_all;done)
  · have h59:tZ t 59=false:=by simpa using h59
    simp only [h59,jd,if_false] at hm ⊢;simp only [nrmA,nrmB,nrlB,reduceCtorEq,jh,ji]
    (repeat' (first|refine ja ?_ ?_|intro _))<;>first|omega|exact jb|exact jc ‹False›|skip
    all_goals first
     |omega
     |(exfalso;simp_all;done)
     |(simp_all;done)
     |(by_cases hte:t=[]<;>simp_all;done)
 have hl1:=vJ s;have hl2:=vN (skS s);have hl3:=su (skS s);simp only [hh,show UInt8.ofNat (Int.toNat 47)=47 from rfl,decide_eq_true_eq,decide_eq_false_iff_not];unfold wR medA at hr;generalize skS s=t at *;have hl4:=su ((tokE t).drop 1);have hl5:=vN ((tokE t).drop 1);rw [jC] at hl4 hl5
 (repeat' (first|refine ja ?_ ?_|intro _))
 all_goals try first|trivial|assumption|omega|(exfalso;simp_all;done)|(subst hI;(try(simp only [nrmA,nrmB,nrlB,reduceCtorEq,jh,ji,vV]))<;>first|omega|(simp_all [vV];done)|(simp_all [vV];omega))
 all_goals(have happ: ∀ a b:Str,I.app (α:=UInt8) a b=a++b:=by subst hI;intros;rfl)
 all_goals try simp only [happ]
 all_goals first
  | (rename_i q1 q2 q3
     rw [if_neg q1,if_pos q2] at hr;simp only [q2,if_true] at q3 ⊢;rw [if_neg q3] at hr;have hsk:=vJ (tokE ((tokE t).drop 1))
     exact key _ _ (by omega) hr)
  | (rename_i q1 q2
     rw [if_neg q1,if_neg (by simp [q2])] at hr
     simp only [q2,jd,if_false] at ⊢
     have hsk:=vJ (tokE t)
     exact key _ _ (by omega) hr)
set_option maxHeartbeats 4000000 in
theorem zv7 (s:Str) (hneed:s.length≤1000000∧¬ (wR s).1=0):Spc Tryz.prog 221 [.v (.one (.ptr 0 0))] [.pack [.obj 260 [(.p (.str s))]]] (.pan (.ifc 256 false [(.int .i64 ((wR s).1))])) [.pack [.obj 260 [(.p (.str ((wR s).2.2)))]]]:=by
 obtain⟨hl,hc⟩:=hneed;generalize hr:wR s=r at hc;obtain⟨c,⟨w,ps⟩,z⟩:=r;simp only at hc
 refine spcG zh mixed Tryz.func221 (by kernel_rfl) { cfgM with lend:=[215],keep:=some [0,2,3,4,6]} [vg,ve,wQ,wP,Y9,Y8,Y7,Y6,U6,U5,zd4,zd3,U8,U7] (by kernel_rfl) ?_
 intro I X hI hX
 refine orcL ?_;go_invoke;refine orcS (by kernel_rfl) ?_
 simp only [zq,Nat.reduceAdd]
 have hh: ∀ {α:Type} (x:α),I.hid x=x:=by subst hI;intros;rfl
 have key : ∀ (w0 t0:Str),t0.length≤1000000→((medL (t0.length+1) t0 []).1,(⟨w0,(medL (t0.length+1) t0 []).2.1⟩:Med),(medL (t0.length+1) t0 []).2.2)=(c,⟨w,ps⟩,z)→Ok Tryz.prog X (fun o h=>o=AOut.pan (C.ifc 256 false [P.int IntKind.i64 c])∧h=[HO.pack [HO.obj 260 [C.p (P.str z)]]]) (leaf I tab { cfgM with lend:=[215],keep:=some [0,2,3,4,6]} [⟨um Tryz.f221,finK I tab { cfgM with lend:=[215],keep:=some [0,2,3,4,6]} 1 Tryz.f221⟩] 0 [1,1,1,1,0,1,0] ⟨[(3,.v (.one (.ptr 2 0))),(2,.v (.one (.ptr 1 0))),(0,.v (.one (.ptr 0 0)))],[.pack [.obj 260 [(.p (.str t0))]],.obj 210 [(.p (.str ([]))),.nilS],.obj 210 [(.p (.str w0)),.nilS]],60,none⟩):=by
  intro w0 t0 ht0 hm;simp only [Prod.mk.injEq,Med.mk.injEq] at hm;obtain⟨hm1,⟨rfl,hm2⟩,hm3⟩:=hm
  refine zB hI zh mixed [vg,ve,wQ,wP,Y9,Y8,Y7,Y6,U6,U5,zd4,zd3,U8,U7] hX [0,2,3] (fun(g:Str × List Fld)=>match g with|(t,l)=>t.length≤1000000∧l.length≤8∧∃ n,t.length<n∧medL n t l=(c,ps,z)) (fun(g:Str × List Fld)=>match g with|(t,l)=>⟨[(0,.v (.one (.ptr 0 0))),(2,.v (.one (.ptr 1 0))),(3,.v (.one (.ptr 2 0)))],[.pack [.obj 260 [(.p (.str t))]],.pack [.obj 210 [(.p (.str ([]))),(.row 1)],.row .fld 236 ([])],.pack [.obj 210 [(.p (.str w0)),(.row 1)],.row .fld 236 l]],60,none⟩) (fun(g:Str × List Fld)=>match g with|(t,l)=>t.length) (t0,[]) (by kernel_rfl) (by kernel_rfl) ?_ ?_
  · exact⟨ht0,by simp,t0.length+1,by omega,by rw [← hm1,← hm2,← hm3]⟩
  rintro⟨t,l⟩ ⟨ht,hl8,n,hn,hm⟩ A hA;clear hm1 hm2 hm3 hr;simp only at hA
  refine orcL ?_;go_invoke;refine orcS (by kernel_rfl) ?_
  simp only [zq,Nat.reduceAdd]
  cases n with
  |zero=>omega
  |succ n=>
  simp only [medL] at hm;have hgo:=hA (skS (parM (skS (t.drop 1))).2.2,l++[(parM (skS (t.drop 1))).2.1]);have hpl:=zd0 (skS (t.drop 1));have hpc:=zfP (skS (t.drop 1));have hsl:=vJ (t.drop 1);have hsr:=vJ (parM (skS (t.drop 1))).2.2;rw [jC] at hsl;clear hA;simp only [hh,show UInt8.ofNat (Int.toNat 59)=59 from rfl];subst hI
  by_cases h59:tZ t 59=true
  · have hpos:=zcL h59
    simp only [h59,if_true] at hm ⊢
    have hgo2:(parM (skS (t.drop 1))).1=0→(getP l (parM (skS (t.drop 1))).2.1.name).2=false→¬ l.length=8→_:=fun h1 h2 h3=>hgo ⟨by simp only;omega,by simp only [jk,jh,ji];omega,n,by simp only;omega,by
     rw [if_neg (fun h=>h h1),if_neg (by rw [h2];exact Bool.false_ne_true),if_neg h3] at hm;exact hm⟩ (by simp only;omega)
    clear hgo;simp only at hgo2;generalize parM (skS (t.drop 1))=p at *;obtain⟨pc,⟨pn,pv⟩,pr⟩:=p;simp only at hgo2 hm hpl hpc hsl hsr ⊢;simp only [nrmA,nrmB,nrlB,reduceCtorEq,jh,ji]
    (repeat' (first|refine ja ?_ ?_|intro _))<;>first|omega|exact jb|exact jc ‹False›|skip
    all_goals first
     |omega
     |assumption
     | (by_cases hpz:pc=0
        · exact hpz
        · rw [if_pos hpz] at hm;simp only [Prod.mk.injEq] at hm;exact hm.1)
     |exact hgo2 ‹_› ‹_› (by omega)
     |(exfalso;rw [if_neg (fun h=>h ‹pc=0›),if_neg (by rw [‹(getP l pn).2=false›];exact Bool.false_ne_true),if_pos (by omega)] at hm;simp_all;done)
     |(rw [if_neg (fun h=>h ‹pc=0›),if_neg (by rw [‹(getP l pn).2=false›];exact Bool.false_ne_true),if_pos (by omega)] at hm;simp_all;done)
     |(exfalso;simp_all;done)
     |(simp_all;done)
  · have h59:tZ t 59=false:=by simpa using h59
    simp only [h59,jd,if_false] at hm ⊢;simp only [nrmA,nrmB,nrlB,reduceCtorEq,jh,ji]
    (repeat' (first|refine ja ?_ ?_|intro _))<;>first|omega|exact jb|exact jc ‹False›|skip
    all_goals first
     |omega
     |(exfalso;simp_all;done)
     |(simp_all;done)
     |(by_cases hte:t=[]<;>simp_all;done)
 have hl1:=vJ s;have hl2:=vN (skS s);have hl3:=su (skS s);simp only [hh,show UInt8.ofNat (Int.toNat 47)=47 from rfl,decide_eq_true_eq,decide_eq_false_iff_not];unfold wR medA at hr;generalize skS s=t at *;have hl4:=su ((tokE t).drop 1);have hl5:=vN ((tokE t).drop 1);rw [jC] at hl4 hl5
 (repeat' (first|refine ja ?_ ?_|intro _))
 all_goals try first|trivial|assumption|omega|(exfalso;simp_all;done)|(subst hI;(try(simp only [nrmA,nrmB,nrlB,reduceCtorEq,jh,ji,vV]))<;>first|omega|(simp_all [vV];done)|(simp_all [vV];omega))
 all_goals(have happ: ∀ a b:Str,I.app (α:=UInt8) a b=a++b:=by subst hI;intros;rfl)
 all_goals try simp only [happ]
 all_goals first
  | (rename_i q1 q2 q3
     rw [if_neg q1,if_pos q2] at hr;simp only [q2,if_true] at q3 ⊢;rw [if_neg q3] at hr;have hsk:=vJ (tokE ((tokE t).drop 1))
     exact key _ _ (by omega) hr)
  | (rename_i q1 q2
     rw [if_neg q1,if_neg (by simp [q2])] at hr
     simp only [q2,jd,if_false] at ⊢
     have hsk:=vJ (tokE t)
     exact key _ _ (by omega) hr)
def zd9 (I:Alg) (args:List D) (hp:List HO):Option CT:=match args,hp with
 |[.v (.one (.ptr 0 0))],[.pack [.obj 260 [(.p (.str s))]]]=>(fun(s:Str)=>(some (.br (I.hid (decide ((wR s).1=0))) (.one ⟨I.hid (s.length≤1000000∧(wR s).1=0),(.ret (.v (.agg [(.p (.str (I.hid ((wR s).2.1.word)))),(.p (.list .fld (I.hid ((wR s).2.1.params))))]))),[.pack [.obj 260 [(.p (.str (I.hid ((wR s).2.2))))]]]⟩) (.one ⟨I.hid (s.length≤1000000∧¬ (wR s).1=0),(.pan (.ifc 256 false [(.int .i64 (I.hid ((wR s).1)))])),[.pack [.obj 260 [(.p (.str (I.hid ((wR s).2.2))))]]]⟩)):Option CT)) s
 |_,_=>none
theorem zoK:zx Tryz.prog 221 (zd9 alg):=by
 intro args hp r h;unfold zd9 at h
 split at h
 · cases h;exact⟨fun _ hn=>zv8 _ hn,fun _ hn=>zv7 _ hn⟩
 · cases h
def zut:Know Tryz.prog:=⟨221,zd9,zoK⟩
def zus:Know Tryz.prog:=⟨221,fun I=>zy I (zd9 I),zf zoK⟩
end Go.Proofs.YtkjepecoodjbmaaGreatDoor
namespace Go.Proofs.YtkjepecoodjbmaaGreatDoor
open Go Go.Sep Go.Ab
set_option maxRecDepth 100000
theorem zwc (w:Str) (l:List Fld) (n:Int) (s:Str):SpcD Tryz.prog 220 [.ptr 0 0,.ptr 1 0] .ret [.obj 210 [.p (.str w),.p (.list .fld l)],.obj 3 [.p (.int .i64 n)],.pack [.obj 260 [.p (.str s)]]] .ret [.obj 210 [.p (.str w),.p (.list .fld l)],.obj 3 [.p (.int .i64 n)],.obj 260 [.p (.str s)]]:=by
 refine UQ zh mixed Tryz.func220 (by kernel_rfl) { flat:=true} [] (rest:=_) rfl (by kernel_rfl) ?_
 intro I X hI hX
 refine orcL ?_;go_invoke;refine orcS (by kernel_rfl) ?_
 simp only [zq,Nat.reduceAdd]
 try trivial
theorem zwb (w:Str) (n k:Int) (s:Str):SpcD Tryz.prog 220 [.ptr 0 0,.ptr 1 0] (.pan (.ifc 256 false [.int .i64 k])) [.obj 210 [.p (.str w),.nilS],.obj 3 [.p (.int .i64 n)],.pack [.obj 260 [.p (.str s)]]] .ret [.obj 210 [.p (.str []),.nilS],.obj 3 [.p (.int .i64 k)],.obj 260 [.p (.str s)]]:=by
 refine UQ zh mixed Tryz.func220 (by kernel_rfl) { flat:=true} [] (rest:=_) rfl (by kernel_rfl) ?_
 intro I X hI hX
 refine orcL ?_;go_invoke;refine orcS (by kernel_rfl) ?_
 simp only [zq,Nat.reduceAdd]
 try trivial
def zxo:Door Tryz.prog where
 g:=220
 c :=fun _ m caps hp=>match m,caps,hp with
   |.ret,[.ptr 0 0,.ptr 1 0],[.obj 210 [.p (.str w),.p (.list .fld l)],.obj 3 [.p (.int .i64 n)],.pack [.obj 260 [.p (.str s)]]]=>some (True,.ret,[.obj 210 [.p (.str w),.p (.list .fld l)],.obj 3 [.p (.int .i64 n)],.obj 260 [.p (.str s)]])
   |.pan (.ifc 256 false [.int .i64 k]),[.ptr 0 0,.ptr 1 0],[.obj 210 [.p (.str w),.nilS],.obj 3 [.p (.int .i64 n)],.pack [.obj 260 [.p (.str s)]]]=>some (True,.ret,[.obj 210 [.p (.str []),.nilS],.obj 3 [.p (.int .i64 k)],.obj 260 [.p (.str s)]])
   |_,_,_=>none
 ok:=by
  intro m caps hp p m' hp' h _
  split at h
  · cases h;exact zwc _ _ _ _
  · cases h;exact zwb _ _ _ _
  · cases h
def Vq (I:Alg) (args:List D) (hp:List HO):Option CT:=match args,hp with
 |[.v (.one (.p (.str s)))],[]=>(fun(s:Str)=>(some (.one ⟨I.hid (s.length≤1000000),(.ret (.tup [(.agg [(.p (.str (I.hid ((wz s).1.word)))),(.p (.list .fld (I.hid ((wz s).1.params))))]),(.one (.p (.int .i64 (I.hid ((wz s).2)))))])),[]⟩):Option CT)) s
 |_,_=>none
theorem zfS:zx Tryz.prog 184 (Vq alg):=by
 intro args hp r h;unfold Vq at h;split at h<;>cases h
 rename_i s;simp only [CT.Good,zi];intro hneed;generalize hr:wz s=r;obtain⟨⟨w,ps⟩,c⟩:=r;unfold wz at hr
 refine zvQ zh mixed Tryz.func184 (by kernel_rfl) { cfgM with keep:=some [0,2,3,4]} [wW,wV,zut,zus] zxo (by kernel_rfl) ?_
 intro I X hI hX
 refine orcL ?_;go_invoke;refine orcS (by kernel_rfl) ?_
 simp only [zq,Nat.reduceAdd];subst hI;simp only [nrmA,nrmB,nrlB,reduceCtorEq,V0.agg.injEq]
 (repeat' (first|refine ja ?_ ?_|intro _))<;>first|omega|exact jb|exact jc ‹False›|skip
 all_goals first|(simp_all;done)|trace_state
def vI:Know Tryz.prog:=⟨184,Vq,zfS⟩
def vH:Know Tryz.prog:=⟨184,fun I=>zy I (Vq I),zf zfS⟩
end Go.Proofs.YtkjepecoodjbmaaGreatDoor
namespace Go.Proofs.YtkjepecoodjbmaaGreatDoor
open Go Go.Sep Go.Ab
set_option maxRecDepth 100000
end Go.Proofs.YtkjepecoodjbmaaGreatDoor
namespace Go.Proofs.YtkjepecoodjbmaaGreatDoor
open Go Go.Sep Go.Ab
set_option maxRecDepth 100000
def cutB (s:Str) (c:UInt8):Str × Str × Bool:=
 if 0≤Lib.indexByte s c then(s.take (Lib.indexByte s c).toNat,s.drop ((Lib.indexByte s c).toNat+1),true) else(s,[],false)
def uP (s:Str):Fld × Int:=
 if(cutB s 58).2.2=false then(⟨[],[]⟩,5)
 else if XH (cutB s 58).1=false then(⟨[],[]⟩,6)
 else if 40<(cutB s 58).1.length then(⟨[],[]⟩,4)
 else if XR (cutB s 58).2.1=false then(⟨[],[]⟩,3)
 else(⟨(cutB s 58).1,Lib.trimS (cutB s 58).2.1 [32,9]⟩,0)
def textF (f:Fld):Str × Int:=
 if XH f.name=false then([],6)
 else if 40<f.name.length∨200<f.name.length+2+f.value.length then([],4)
 else if XR f.value=false∨¬ Lib.trimS f.value [32,9]=f.value then([],3)
 else(f.name++[58,32]++f.value,0)
theorem zeL (s:Str) (c:UInt8):(cutB s c).1.length≤s.length∧(cutB s c).2.1.length≤s.length:=by
 unfold cutB
 split
 · simp only [jv,jC];omega
 · simp
def RS (I:Alg) (args:List D) (hp:List HO):Option CT:=match args,hp with
 |[.v (.one (.p (.str s))),.v (.one (.p (.str ([c]))))],[]=>(fun(s:Str) (c:UInt8)=>(some (.one ⟨I.hid (s.length≤1000000),(.ret (.tup [(.one (.p (.str (I.hid ((cutB s c).1))))),(.one (.p (.str (I.hid ((cutB s c).2.1))))),(.one (.p (.bool (I.hid ((cutB s c).2.2)))))])),[]⟩):Option CT)) s c
 |_,_=>none
theorem zjD:zx Tryz.prog 243 (RS alg):=by
 intro args hp r h;unfold RS at h;split at h<;>cases h
 rename_i s c;simp only [CT.Good,zi];intro hneed;generalize hr:cutB s c=r;obtain⟨a,b,d⟩:=r
 refine spcG zh mixed Tryz.func243 (by kernel_rfl) { keep:=some [0,1,4,5,6,7]} [zpk,zpj] (by kernel_rfl) ?_
 intro I X hI hX
 refine orcL ?_;go_invoke;refine orcS (by kernel_rfl) ?_
 simp only [zq,Nat.reduceAdd];subst hI;simp only [nrmA,nrmB];have hx:=Yw s c;simp only [jh,ji];refine⟨fun h=> ?_,fun h=> ?_⟩
 · rw [cutB,if_pos h] at hr
   simp only [Prod.mk.injEq] at hr;obtain⟨rfl,rfl,rfl⟩:=hr
   refine⟨by omega,by omega,by omega,?_⟩
   rw [show(Lib.indexByte s c+((0+1:Nat):Int)).toNat=(Lib.indexByte s c).toNat+1 by omega]
   have e:List.take (s.length - ((Lib.indexByte s c).toNat+1)) (List.drop ((Lib.indexByte s c).toNat+1) s)=List.drop ((Lib.indexByte s c).toNat+1) s:=jq (by rw [jC];exact jL _)
   rw [e]
 · rw [cutB,if_neg h] at hr
   simp only [Prod.mk.injEq] at hr;obtain⟨rfl,rfl,rfl⟩:=hr;rfl
def zrj:Know Tryz.prog:=⟨243,RS,zjD⟩
def zri:Know Tryz.prog:=⟨243,fun I=>zy I (RS I),zf zjD⟩
def zdU (I:Alg) (args:List D) (hp:List HO):Option CT:=match args,hp with
 |[.v (.one (.p (.str s))),.v (.one (.p (.str ([c]))))],[]=>(fun(s:Str) (c:UInt8)=>(some (.one ⟨I.hid (s.length≤1000000),(.ret (.tup [(.one (.p (.str (I.hid ((cutB s c).1))))),(.one (.p (.str (I.hid ((cutB s c).2.1))))),(.one (.p (.bool (I.hid ((cutB s c).2.2)))))])),[]⟩):Option CT)) s c
 |_,_=>none
theorem znT:zx Tryz.prog 214 (zdU alg):=by
 intro args hp r h;unfold zdU at h;split at h<;>cases h
 rename_i s c;simp only [CT.Good,zi];intro hneed
 refine spcG zh mixed Tryz.func214 (by kernel_rfl) { keep:=some [0,1,4,5,6]} [zrj,zri] (by kernel_rfl) ?_
 intro I X hI hX
 refine orcL ?_;go_invoke;refine orcS (by kernel_rfl) ?_
 simp only [zq,Nat.reduceAdd];subst hI;simp only [nrmA,nrmB];exact hneed
def znS:Know Tryz.prog:=⟨214,zdU,znT⟩
def znR:Know Tryz.prog:=⟨214,fun I=>zy I (zdU I),zf znT⟩
def Qp (I:Alg) (args:List D) (hp:List HO):Option CT:=match args,hp with
 |[.v (.one (.p (.str s)))],[]=>(fun(s:Str)=>(some (.one ⟨I.hid (s.length≤1000000),(.ret (.tup [(.agg [(.p (.str (I.hid ((uP s).1.name)))),(.p (.str (I.hid ((uP s).1.value))))]),(.one (.p (.int .i64 (I.hid ((uP s).2)))))])),[]⟩):Option CT)) s
 |_,_=>none
theorem zke:zx Tryz.prog 173 (Qp alg):=by
 intro args hp r h;unfold Qp at h;split at h<;>cases h
 rename_i s;simp only [CT.Good,zi];intro hneed;generalize hr:uP s=r;obtain⟨⟨a,b⟩,d⟩:=r
 refine spcG zh mixed Tryz.func173 (by kernel_rfl) { keep:=some [0,2,3,4,5,6]} [rC,ru,wW,wV,UD,UC,znS,znR] (by kernel_rfl) ?_
 intro I X hI hX
 refine orcL ?_;go_invoke;refine orcS (by kernel_rfl) ?_
 simp only [zq,Nat.reduceAdd];subst hI;simp only [nrmA,nrmB];have hl:=zeL s 58;unfold uP at hr
 (repeat' (first|refine ja ?_ ?_|intro _))<;>first|omega|exact jb|exact jc ‹False›|skip
 all_goals first
  |(rw [if_pos (by assumption)] at hr;cases hr;rfl)
  |(rw [if_neg (by simp [*]),if_pos (by assumption)] at hr;cases hr;rfl)
  |(rw [if_neg (by simp [*]),if_neg (by simp [*]),if_pos (by omega)] at hr;cases hr;rfl)
  |(rw [if_neg (by simp [*]),if_neg (by simp [*]),if_neg (by omega),if_pos (by assumption)] at hr;cases hr;rfl)
  |(rw [if_neg (by simp [*]),if_neg (by simp [*]),if_neg (by omega),if_neg (by simp [*])] at hr;cases hr;rfl)
def Vo:Know Tryz.prog:=⟨173,Qp,zke⟩
def Vm:Know Tryz.prog:=⟨173,fun I=>zy I (Qp I),zf zke⟩
def zdA (I:Alg) (args:List D) (hp:List HO):Option CT:=match args,hp with
 |[.v (.agg [(.p (.str n)),(.p (.str v))])],[]=>(fun(n v:Str)=>(some (.one ⟨I.hid (n.length≤1000000∧v.length≤1000000),(.ret (.tup [(.one (.p (.str (I.hid ((textF ⟨n,v⟩).1))))),(.one (.p (.int .i64 (I.hid ((textF ⟨n,v⟩).2)))))])),[]⟩):Option CT)) n v
 |_,_=>none
theorem znd:zx Tryz.prog 147 (zdA alg):=by
 intro args hp r h;unfold zdA at h;split at h<;>cases h
 rename_i n v;simp only [CT.Good,zi];intro hneed;generalize hr:textF ⟨n,v⟩=r;obtain⟨a,d⟩:=r
 refine spcG zh mixed Tryz.func147 (by kernel_rfl) { keep:=some [0,1,2,3,4]} [rC,ru,wW,wV,UD,UC] (by kernel_rfl) ?_
 intro I X hI hX
 refine orcL ?_;go_invoke;refine orcS (by kernel_rfl) ?_
 simp only [zq,Nat.reduceAdd];subst hI;simp only [nrmA,nrmB];simp only [jk,jh,ji];unfold textF at hr;simp only at hr
 (repeat' (first|refine ja ?_ ?_|intro _))<;>first|omega|exact jb|exact jc ‹False›|skip
 all_goals first
  |(rw [if_pos (by assumption)] at hr;cases hr;rfl)
  |(rw [if_neg (by simp [*]),if_pos (by omega)] at hr;cases hr;rfl)
  |(rw [if_neg (by simp [*]),if_neg (by omega),if_pos (.inl (by assumption))] at hr;cases hr;rfl)
  |(rw [if_neg (by simp [*]),if_neg (by omega),if_pos (.inr (by assumption))] at hr;cases hr;rfl)
  |(rw [if_neg (by simp [*]),if_neg (by omega),if_neg (by simp [*])] at hr;cases hr;rfl)
def zdz:Know Tryz.prog:=⟨147,zdA,znd⟩
def zdy:Know Tryz.prog:=⟨147,fun I=>zy I (zdA I),zf znd⟩
end Go.Proofs.YtkjepecoodjbmaaGreatDoor
namespace Go.Proofs.YtkjepecoodjbmaaGreatDoor
open Go Go.Sep Go.Ab
set_option maxRecDepth 100000
end Go.Proofs.YtkjepecoodjbmaaGreatDoor
namespace Go.Proofs.YtkjepecoodjbmaaGreatDoor
open Go Go.Sep Go.Ab
set_option maxRecDepth 100000
end Go.Proofs.YtkjepecoodjbmaaGreatDoor
namespace Go.Proofs.YtkjepecoodjbmaaGreatDoor
open Go Go.Sep Go.Ab
set_option maxRecDepth 100000
def valsF (l:List Fld) (n:Str):List Str:=(l.filter fun f=>decide (lowS f.name=lowS n)).map (·.value)
def zeD (I:Alg) (args:List D) (hp:List HO):Option CT:=match args,hp with
 |[.v (.one (.p (.list .fld l))),.v (.one (.p (.str n)))],[]=>(fun(l:List Fld) (n:Str)=>(some (.one ⟨I.hid (l.length≤1000∧n.length≤1000000∧∀ f ∈ l,f.name.length≤1000000∧f.value.length≤1000000),(.ret (.v (.one (.row 0)))),[.row .str 9 (I.hid ((valsF l n)))]⟩):Option CT)) l n
 |_,_=>none
theorem zp3:zx Tryz.prog 145 (zeD alg):=by
 intro args hp r h;unfold zeD at h;split at h<;>cases h
 rename_i l n
 revert l;intro(l:List Fld)
 simp only [CT.Good,zi];intro hneed
 refine spcG zh mixed Tryz.func145 (by kernel_rfl) { nr:=[5],keep:=some [0,1,4,5,7,8,9,10]} [vg,ve] (by kernel_rfl) ?_
 intro I X hI hX
 refine orcL ?_;go_invoke;refine orcS (by kernel_rfl) ?_
 simp only [zq,Nat.reduceAdd]
 refine zB hI zh mixed [vg,ve] hX [0,1,5,8,9,10] (fun(g:Nat × List Str)=>match g with|(i,o)=>i≤l.length∧o=valsF (l.take i) n) (fun(g:Nat × List Str)=>match g with|(i,o)=>⟨[(0,.v (.one (.p (.list .fld l)))),(1,.v (.one (.p (.str n)))),(5,.v (.one (.row 0))),(8,.v (.one (.p (.list .fld l)))),(9,.v (.one (.p (.int .i64 ((I.len (α:=Fld) l)))))),(10,.v (.one (.p (.int .i64 i))))],[.row .str 9 o],27,none⟩) (fun(g:Nat × List Str)=>match g with|(i,o)=>l.length - i) (0,[]) (by kernel_rfl) (by kernel_rfl) ?_ ?_
 · exact⟨jM _,rfl⟩
 rintro⟨i,o⟩ ⟨h1,h2⟩ A hA;simp only at hA
 refine orcL ?_;go_invoke;refine orcS (by kernel_rfl) ?_
 simp only [zq,Nat.reduceAdd];subst hI;simp only [nrmA,nrmB]
 have hx:i<l.length→(l.getD i ⟨[],[]⟩) ∈ l:=fun h=>by rw [show l.getD i ⟨[],[]⟩=l[i] by simp [h]];exact List.getElem_mem h
 have hs:i<l.length→valsF (l.take (i+1)) n=if lowS (l.getD i ⟨[],[]⟩).name=lowS n then o++[(l.getD i ⟨[],[]⟩).value] else o:=fun h=>by
  rw [show l.getD i ⟨[],[]⟩=l[i] by simp [h],jB h,h2]
  unfold valsF;rw [List.filter_append,List.map_append]
  by_cases hc:lowS l[i].name=lowS n<;>simp [hc]
 have hol:o.length≤i:=by
  rw [h2];unfold valsF;rw [List.length_map]
  exact Nat.le_trans (List.length_filter_le _ _) (by rw [jv];omega)
 have hn:=fun h=>hneed.2.2 _ (hx h);generalize l.getD i ⟨[],[]⟩=x at *;simp only [jh,ji]
 (repeat' (first|refine ja ?_ ?_|intro _))<;>first|omega|exact jb|exact jc ‹False›|skip
 all_goals first
  |(have:=hn (by omega);omega)
  |exact hA (i+1,_) ⟨by simp only;omega,by simp only;rw [hs (by omega),if_pos (by assumption)]⟩ (by simp only;omega)
  |exact hA (i+1,_) ⟨by simp only;omega,by simp only;rw [hs (by omega),if_neg (by assumption)]⟩ (by simp only;omega)
  |(rw [h2,jq (by omega)])
def Wh:Know Tryz.prog:=⟨145,zeD,zp3⟩
def X9:Know Tryz.prog:=⟨145,fun I=>zy I (zeD I),zf zp3⟩
end Go.Proofs.YtkjepecoodjbmaaGreatDoor
namespace Go.Proofs.YtkjepecoodjbmaaGreatDoor
open Go Go.Sep Go.Ab
set_option maxRecDepth 100000
def oneF (l:List Str):Str × Int:=if l.length=0 then([],10) else if l.length=1 then(l.getD 0 [],0) else([],9)
def zeA (I:Alg) (args:List D) (hp:List HO):Option CT:=match args,hp with
 |[.v (.one (.p (.list .fld l))),.v (.one (.p (.str n)))],[]=>(fun(l:List Fld) (n:Str)=>(some (.one ⟨I.hid (l.length≤1000∧n.length≤1000000∧∀ f ∈ l,f.name.length≤1000000∧f.value.length≤1000000),(.ret (.tup [(.one (.p (.str (I.hid ((oneF (valsF l n)).1))))),(.one (.p (.int .i64 (I.hid ((oneF (valsF l n)).2)))))])),[]⟩):Option CT)) l n
 |_,_=>none
theorem zpY:zx Tryz.prog 146 (zeA alg):=by
 intro args hp r h;unfold zeA at h;split at h<;>cases h
 rename_i l n
 revert l;intro(l:List Fld)
 simp only [CT.Good,zi];intro hneed;generalize hr:oneF (valsF l n)=r;obtain⟨a,d⟩:=r
 refine spcG zh mixed Tryz.func146 (by kernel_rfl) { keep:=some [0,1,4,5,6,11]} [Wh,X9] (by kernel_rfl) ?_
 intro I X hI hX
 refine orcL ?_;go_invoke;refine orcS (by kernel_rfl) ?_
 simp only [zq,Nat.reduceAdd];subst hI;simp only [nrmA,nrmB];unfold oneF at hr
 (repeat' (first|refine ja ?_ ?_|intro _))<;>first|omega|exact jb|exact jc ‹False›|skip
 all_goals first
  |assumption
  |exact(hneed.2.2 _ (by assumption)).1
  |exact(hneed.2.2 _ (by assumption)).2
  |(rw [if_pos (by omega)] at hr;cases hr;rfl)
  |(rw [if_neg (by omega),if_pos (by omega)] at hr;cases hr;rfl)
  |(rw [if_neg (by omega),if_neg (by omega)] at hr;cases hr;rfl)
def YG:Know Tryz.prog:=⟨146,zeA,zpY⟩
def YF:Know Tryz.prog:=⟨146,fun I=>zy I (zeA I),zf zpY⟩
end Go.Proofs.YtkjepecoodjbmaaGreatDoor
namespace Go.Proofs.YtkjepecoodjbmaaGreatDoor
open Go Go.Sep Go.Ab
set_option maxRecDepth 100000
def numG (base:Int):Int→Str→Int × Bool
 |n,[]=>(n,true)
 |n,c::l=>if hexK c.toNat<0∨base≤hexK c.toNat then(0,false) else numG base (n * base+hexK c.toNat) l
def numA (s:Str) (base most:Int):Int × Bool:=if s=[]∨most<s.length then(0,false) else numG base 0 s
def top9:Nat→Nat
 |0=>0
 |i+1=>16 * top9 i+15
theorem znc {i:Nat} (h:i≤9):top9 i≤68719476735:=(by decide: ∀ i:Fin 10,top9 i.1≤68719476735) ⟨i,by omega⟩
theorem zfV {base n:Int} {s:Str} {i:Nat} (h:i<s.length):numG base n (s.drop i)=if hexK (s.getD i 0).toNat<0∨base≤hexK (s.getD i 0).toNat then(0,false) else numG base (n * base+hexK (s.getD i 0).toNat) (s.drop (i+1)):=by
 rw [jE h,numG];simp [h]
theorem zep {k:Int} (hk:0≤k∧k≤255): -1≤hexK k∧hexK k≤15:=zxz (p:=fun k=> -1≤hexK k∧hexK k≤15) (by decide+kernel) hk
def ZC (I:Alg) (args:List D) (hp:List HO):Option CT:=match args,hp with
 |[.v (.one (.p (.str s))),.v (.one (.p (.int .i64 10))),.v (.one (.p (.int .i64 9)))],[]=>(fun(s:Str)=>(some (.one ⟨I.hid (True),(.ret (.tup [(.one (.p (.int .i64 (I.hid ((numA s 10 9).1))))),(.one (.p (.bool (I.hid ((numA s 10 9).2)))))])),[]⟩):Option CT)) s
 |_,_=>none
theorem zaS:zx Tryz.prog 219 (ZC alg):=by
 intro args hp r h;unfold ZC at h;split at h<;>cases h
 rename_i s;simp only [CT.Good,zi];intro _;generalize hr:numA s 10 9=r
 refine spcG zh mixed Tryz.func219 (by kernel_rfl) { keep:=some [0,1,2,6,7,8,9,10,20,21]} [zcK,zcJ] (by kernel_rfl) ?_
 intro I X hI hX
 refine orcL ?_;go_invoke;refine orcS (by kernel_rfl) ?_
 simp only [zq,Nat.reduceAdd]
 have hne:s≠[]→¬ (9:Int)<s.length→numG 10 0 s=r:=fun h1 h2=>by rw [← hr,numA,if_neg (fun h=>by rcases h with h|h;exact h1 h;exact h2 h)]
 have hyes:(s=[]∨(9:Int)<s.length)→r=(0,false):=fun h=>by rw [← hr,numA,if_pos h]
 refine⟨fun c1=> ?_,fun c1=>⟨fun c2=> ?_,fun c2=> ?_⟩⟩
 · subst hI
   simp only [nrmA,nrmB] at c1;rw [hyes (.inl c1)]
   simp
 · subst hI
   simp only [nrmA,nrmB] at c2;rw [hyes (.inr c2)]
   simp
 have d1:s≠[]:=by
  subst hI;simp only [nrmA,nrmB] at c1;exact c1
 have d2:s.length≤9:=by
  subst hI;simp only [nrmA,nrmB] at c2;omega
 refine zB hI zh mixed [zcK,zcJ] hX [0,1,2,8,20,21] (fun(g:Nat × Int)=>match g with|(i,n)=>i≤s.length∧0≤n∧n≤top9 i∧numG 10 n (s.drop i)=r) (fun(g:Nat × Int)=>match g with|(i,n)=>⟨[(0,.v (.one (.p (.str s)))),(1,.v (.one (.p (.int .i64 10)))),(2,.v (.one (.p (.int .i64 9)))),(8,.v (.one (.p (.int .i64 n)))),(20,.v (.one (.p (.int .i64 ((I.len (α:=UInt8) s)))))),(21,.v (.one (.p (.int .i64 i))))],[],42,none⟩) (fun(g:Nat × Int)=>match g with|(i,n)=>s.length - i) (0,0) (by kernel_rfl) (by kernel_rfl) ?_ ?_
 · exact⟨jM _,Int.le_refl _,Int.le_refl _,hne d1 (by omega)⟩
 rintro⟨i,n⟩ ⟨h1,h2,h3,h4⟩ A hA;simp only at hA
 refine orcL ?_;go_invoke;refine orcS (by kernel_rfl) ?_
 simp only [zq,Nat.reduceAdd];subst hI;simp only [nrmA,nrmB];have hb:=uj (s.getD i 0);have hk:=zep hb;have hd:i<s.length→_:=fun h=>zfV (base:=10) (n:=n) h
 have ht:i≤9:=by omega
 have ht:=znc ht;have ht2:top9 (i+1)=16 * top9 i+15:=rfl;generalize s.getD i 0=x at *;generalize hexK (x.toNat:Int)=k at *
 (repeat' (first|refine ja ?_ ?_|intro _))<;>first|omega|exact jb|exact jc ‹False›|skip
 all_goals first
  |omega
  |(rw [← h4,hd (by omega),if_pos (.inl (by omega))])
  |(rw [← h4,hd (by omega),if_pos (.inr (by omega))])
  |(refine hA (i+1,_) ⟨by simp only;omega,by simp only;omega,by simp only;omega,?_⟩ (by simp only;omega);rw [← h4,hd (by omega),if_neg (by omega)])
  |(rw [← h4,jF (by omega)];rfl)
def ZB:Know Tryz.prog:=⟨219,ZC,zaS⟩
def ZA:Know Tryz.prog:=⟨219,fun I=>zy I (ZC I),zf zaS⟩
def Zz (I:Alg) (args:List D) (hp:List HO):Option CT:=match args,hp with
 |[.v (.one (.p (.str s))),.v (.one (.p (.int .i64 16))),.v (.one (.p (.int .i64 6)))],[]=>(fun(s:Str)=>(some (.one ⟨I.hid (True),(.ret (.tup [(.one (.p (.int .i64 (I.hid ((numA s 16 6).1))))),(.one (.p (.bool (I.hid ((numA s 16 6).2)))))])),[]⟩):Option CT)) s
 |_,_=>none
theorem zaR:zx Tryz.prog 219 (Zz alg):=by
 intro args hp r h;unfold Zz at h;split at h<;>cases h
 rename_i s;simp only [CT.Good,zi];intro _;generalize hr:numA s 16 6=r
 refine spcG zh mixed Tryz.func219 (by kernel_rfl) { keep:=some [0,1,2,6,7,8,9,10,20,21]} [zcK,zcJ,ZB,ZA] (by kernel_rfl) ?_
 intro I X hI hX
 refine orcL ?_;go_invoke;refine orcS (by kernel_rfl) ?_
 simp only [zq,Nat.reduceAdd]
 have hne:s≠[]→¬ (6:Int)<s.length→numG 16 0 s=r:=fun h1 h2=>by rw [← hr,numA,if_neg (fun h=>by rcases h with h|h;exact h1 h;exact h2 h)]
 have hyes:(s=[]∨(6:Int)<s.length)→r=(0,false):=fun h=>by rw [← hr,numA,if_pos h]
 refine⟨fun c1=> ?_,fun c1=>⟨fun c2=> ?_,fun c2=> ?_⟩⟩
 · subst hI
   simp only [nrmA,nrmB] at c1;rw [hyes (.inl c1)]
   simp
 · subst hI
   simp only [nrmA,nrmB] at c2;rw [hyes (.inr c2)]
   simp
 have d1:s≠[]:=by
  subst hI;simp only [nrmA,nrmB] at c1;exact c1
 have d2:s.length≤6:=by
  subst hI;simp only [nrmA,nrmB] at c2;omega
 refine zB hI zh mixed [zcK,zcJ,ZB,ZA] hX [0,1,2,8,20,21] (fun(g:Nat × Int)=>match g with|(i,n)=>i≤s.length∧0≤n∧n≤top9 i∧numG 16 n (s.drop i)=r) (fun(g:Nat × Int)=>match g with|(i,n)=>⟨[(0,.v (.one (.p (.str s)))),(1,.v (.one (.p (.int .i64 16)))),(2,.v (.one (.p (.int .i64 6)))),(8,.v (.one (.p (.int .i64 n)))),(20,.v (.one (.p (.int .i64 ((I.len (α:=UInt8) s)))))),(21,.v (.one (.p (.int .i64 i))))],[],42,none⟩) (fun(g:Nat × Int)=>match g with|(i,n)=>s.length - i) (0,0) (by kernel_rfl) (by kernel_rfl) ?_ ?_
 · exact⟨jM _,Int.le_refl _,Int.le_refl _,hne d1 (by omega)⟩
 rintro⟨i,n⟩ ⟨h1,h2,h3,h4⟩ A hA;simp only at hA
 refine orcL ?_;go_invoke;refine orcS (by kernel_rfl) ?_
 simp only [zq,Nat.reduceAdd];subst hI;simp only [nrmA,nrmB];have hb:=uj (s.getD i 0);have hk:=zep hb;have hd:i<s.length→_:=fun h=>zfV (base:=16) (n:=n) h
 have ht:i≤9:=by omega
 have ht:=znc ht;have ht2:top9 (i+1)=16 * top9 i+15:=rfl;generalize s.getD i 0=x at *;generalize hexK (x.toNat:Int)=k at *
 (repeat' (first|refine ja ?_ ?_|intro _))<;>first|omega|exact jb|exact jc ‹False›|skip
 all_goals first
  |omega
  |(rw [← h4,hd (by omega),if_pos (.inl (by omega))])
  |(rw [← h4,hd (by omega),if_pos (.inr (by omega))])
  |(refine hA (i+1,_) ⟨by simp only;omega,by simp only;omega,by simp only;omega,?_⟩ (by simp only;omega);rw [← h4,hd (by omega),if_neg (by omega)])
  |(rw [← h4,jF (by omega)];rfl)
def zaQ:Know Tryz.prog:=⟨219,Zz,zaR⟩
def zaP:Know Tryz.prog:=⟨219,fun I=>zy I (Zz I),zf zaR⟩
def sU (I:Alg) (args:List D) (hp:List HO):Option CT:=match args,hp with
 |[.v (.one (.p (.str s)))],[]=>(fun(s:Str)=>(some (.one ⟨I.hid (True),(.ret (.tup [(.one (.p (.int .i64 (I.hid ((numA s 16 6).1))))),(.one (.p (.bool (I.hid ((numA s 16 6).2)))))])),[]⟩):Option CT)) s
 |_,_=>none
theorem UF:zx Tryz.prog 240 (sU alg):=by
 intro args hp r h;unfold sU at h;split at h<;>cases h
 rename_i s;simp only [CT.Good,zi];intro _
 refine spcG zh mixed Tryz.func240 (by kernel_rfl) { keep:=some [0,2,3]} [ZB,ZA,zaQ,zaP] (by kernel_rfl) ?_
 intro I X hI hX
 refine orcL ?_;go_invoke;refine orcS (by kernel_rfl) ?_
 simp only [zq,Nat.reduceAdd];subst hI;simp only [nrmA,nrmB]
 try trivial
def zeT:Know Tryz.prog:=⟨240,sU,UF⟩
def zeS:Know Tryz.prog:=⟨240,fun I=>zy I (sU I),zf UF⟩
end Go.Proofs.YtkjepecoodjbmaaGreatDoor
namespace Go.Proofs.YtkjepecoodjbmaaGreatDoor
open Go Go.Sep Go.Ab
set_option maxRecDepth 100000
def XB (I:Alg) (args:List D) (hp:List HO):Option CT:=match args,hp with
 |[.v (.one (.p (.str s)))],[]=>(fun(s:Str)=>(some (.one ⟨I.hid (True),(.ret (.tup [(.one (.p (.int .i64 (I.hid ((numA s 10 9).1))))),(.one (.p (.bool (I.hid ((numA s 10 9).2)))))])),[]⟩):Option CT)) s
 |_,_=>none
theorem zdn:zx Tryz.prog 182 (XB alg):=by
 intro args hp r h;unfold XB at h;split at h<;>cases h
 rename_i s;simp only [CT.Good,zi];intro _
 refine spcG zh mixed Tryz.func182 (by kernel_rfl) { keep:=some [0,2,3]} [ZB,ZA,zaQ,zaP] (by kernel_rfl) ?_
 intro I X hI hX
 refine orcL ?_;go_invoke;refine orcS (by kernel_rfl) ?_
 simp only [zq,Nat.reduceAdd];subst hI;simp only [nrmA,nrmB]
 try trivial
def rE:Know Tryz.prog:=⟨182,XB,zdn⟩
def rD:Know Tryz.prog:=⟨182,fun I=>zy I (XB I),zf zdn⟩
theorem zfW: ∀ (s:Str) (n:Int),0≤n→(numG 10 n s).1+1≤(n+1) * 10 ^ s.length∧0≤(numG 10 n s).1
 |[],n,h=>by simp [numG];exact h
 | c ::l,n,h=>by
   have h16:(0:Int)<10 ^ l.length:=Int.pow_pos (by decide)
   have e:((n+1) * 10 ^ (c::l).length:Int)=((n+1) * 10) * 10 ^ l.length:=by rw [jh,Int.pow_succ,Int.mul_assoc,Int.mul_comm (10 ^ l.length) 10]
   rw [e,numG]
   split
   · have h1:(1:Int) * 1≤((n+1) * 10) * 10 ^ l.length:=Int.mul_le_mul (by omega) (by omega) (by decide) (by omega)
     exact⟨by simpa using h1,Int.le_refl _⟩
   · rename_i hc
     have h2:=zfW l (n * 10+hexK c.toNat) (by omega)
     exact⟨Int.le_trans h2.1 (Int.mul_le_mul_of_nonneg_right (by omega) (by omega)),h2.2⟩
theorem uF (x:Str):0≤(numA x 10 9).1∧(numA x 10 9).1<1000000000:=by
 unfold numA
 split
 · exact by decide
 · rename_i h
   have h1:=zfW x 0 (Int.le_refl _)
   have h2:x.length≤9:=by omega
   have h3:(10:Int) ^ x.length≤10 ^ 9:=by
    have:(10 ^ x.length:Nat)≤10 ^ 9:=Nat.pow_le_pow_right (by decide) h2
    exact_mod_cast this
   refine⟨h1.2,?_⟩
   have h4:(10:Int) ^ 9=1000000000:=by decide
   omega
end Go.Proofs.YtkjepecoodjbmaaGreatDoor
namespace Go.Proofs.YtkjepecoodjbmaaGreatDoor
open Go Go.Sep Go.Ab
set_option maxRecDepth 100000
def Q7 (I:Alg) (args:List D) (hp:List HO):Option CT:=match args,hp with
 |[.v (.one (.p (.list .byte l)))],[]=>(fun(l:Str)=>(some (.one ⟨I.hid (l.length≤100000000),(.ret (.v (.one (.row 0)))),[.row .byte 5 l]⟩):Option CT)) l
 |_,_=>none
theorem zlu:zx Tryz.prog 59 (Q7 alg):=by
 intro args hp r h;unfold Q7 at h;split at h<;>cases h
 rename_i l;simp only [CT.Good,zi];intro hneed
 refine spcG zh mixed Tryz.func59 (by kernel_rfl) { keep:=some [0,2]} [] (by kernel_rfl) ?_
 intro I X hI hX
 refine orcL ?_;go_invoke;refine orcS (by kernel_rfl) ?_
 simp only [zq,Nat.reduceAdd];subst hI;dsimp only [alg]
 have h2:((([]:Str).length:Nat):Int)+((l.length:Nat):Int)≤140737488355328:=by simp;omega
 refine⟨fun h=>⟨⟨trivial,?_⟩,h2,trivial,rfl⟩,fun h=>⟨h2,trivial,rfl⟩⟩
 have:l=[]:=List.eq_nil_of_length_eq_zero (by have:=eq_of_beq h;omega)
 subst this;rfl
def ZO:Know Tryz.prog:=⟨59,Q7,zlu⟩
def qN:Know Tryz.prog:=⟨59,fun I=>zy I (Q7 I),zf zlu⟩
def qx (I:Alg) (args:List D) (hp:List HO):Option CT:=match args,hp with
 |[.v (.one (.p (.list .byte x))),.v (.one (.p (.list .byte y)))],[]=>(fun(x y:Str)=>(some (.one ⟨I.hid (True),(.ret (.v (.one (.p (.bool (I.hid (x == y))))))),[]⟩):Option CT)) x y
 |_,_=>none
theorem TV:zx Tryz.prog 15 (qx alg):=by
 intro args hp r h;unfold qx at h;split at h<;>cases h
 rename_i x y;simp only [CT.Good,zi];intro _
 refine spcG zh mixed Tryz.func15 (by kernel_rfl) { keep:=some [0,1,4]} [] (by kernel_rfl) ?_
 intro I X hI hX
 refine orcL ?_;go_invoke;refine orcS (by kernel_rfl) ?_
 simp only [zq,Nat.reduceAdd];subst hI;exact⟨rfl,trivial⟩
def qw:Know Tryz.prog:=⟨15,qx,TV⟩
def qp:Know Tryz.prog:=⟨15,fun I=>zy I (qx I),zf TV⟩
end Go.Proofs.YtkjepecoodjbmaaGreatDoor
namespace Go.Proofs.YtkjepecoodjbmaaGreatDoor
open Go Go.Sep Go.Ab
def upl0:Upl:=⟨0,0,[],[],0⟩
def atU (l:List Upl) (id:Int):Nat:=l.findIdx fun u=>u.id == id
def yx (l:List Upl) (id:Int):Upl:=l.getD (atU l id) upl0
def xN:List Upl→Int
 |[]=>0
 |u::l=>u.bytes.length+xN l
def creC (l:List Upl) (size:Int) (m:Str):Int:=
 if size< -1 then 1 else if 2000<size∨100<m.length then 4 else if XR m=false∨¬ Lib.trimS m [32,9]=m then 3 else if l.length=12 then 8 else 0
def creL (l:List Upl) (n size:Int) (m:Str):List Upl:=if creC l size m=0 then l++[⟨n+1,size,m,[],0⟩] else l
def creN (l:List Upl) (n size:Int) (m:Str):Int:=if creC l size m=0 then n+1 else n
def creI (l:List Upl) (n size:Int) (m:Str):Int:=if creC l size m=0 then n+1 else 0
def appC (l:List Upl) (id off:Int) (b:Str):Int:=
 if l.length≤atU l id then 10
 else if ¬ (yx l id).sent=0 then 19
 else if ¬ off=(yx l id).bytes.length then 17
 else if 2000<(yx l id).bytes.length+b.length∨0≤(yx l id).size∧(yx l id).size<(yx l id).bytes.length+b.length then 4
 else if 6000<xN l+b.length then 16 else 0
def appL (l:List Upl) (id off:Int) (b:Str):List Upl:=if appC l id off b=0 then l.set (atU l id) { yx l id with bytes:=(yx l id).bytes++b} else l
def decC (l:List Upl) (id size:Int):Int:=
 if l.length≤atU l id then 10
 else if 0≤(yx l id).size then 18
 else if size<0 then 1
 else if 2000<size∨size<(yx l id).bytes.length then 4 else 0
def decL (l:List Upl) (id size:Int):List Upl:=if decC l id size=0 then l.set (atU l id) { yx l id with size:=size} else l
def droC (l:List Upl) (id:Int):Int:=if l.length≤atU l id then 10 else 0
def droL (l:List Upl) (id:Int):List Upl:=l.eraseIdx (atU l id)
def begC (l:List Upl) (id:Int):Int:=
 if l.length≤atU l id then 10
 else if ¬ (yx l id).sent=0 then 19
 else if ¬ (yx l id).size=(yx l id).bytes.length then 14 else 0
def begL (l:List Upl) (id:Int):List Upl:=if begC l id=0 then l.set (atU l id) { yx l id with sent:=1} else l
def endC (l:List Upl) (id:Int):Int:=
 if l.length≤atU l id then 10
 else if ¬ (yx l id).sent=1 then 19 else 0
def endL (l:List Upl) (id:Int):List Upl:=if endC l id=0 then l.set (atU l id) { yx l id with sent:=2} else l
structure zw5 (u:Upl):Prop where
 bl:u.bytes.length≤2000
 s1: -1≤u.size
 s2:u.size≤2000
 nl:u.note.length≤100
 bs:0≤u.size→(u.bytes.length:Int)≤u.size
 t0:0≤u.sent
 t2:u.sent≤2
 wh:u.sent≠0→u.size=u.bytes.length
structure zK (l:List Upl) (n:Int):Prop where
 n0:0≤n
 cnt:l.length≤12
 srt:l.Pairwise fun a b=>a.id<b.id
 ids: ∀ u ∈ l,1≤u.id∧u.id≤n
 each: ∀ u ∈ l,zw5 u
 tot:xN l≤6000
theorem zdM:zK [] 0:=⟨by decide,by decide,List.Pairwise.nil,fun _ h=>by simp at h,fun _ h=>by simp at h,by decide⟩
theorem zqI (l:List Upl) (id:Int):atU l id≤l.length:=List.findIdx_le_length
theorem vw {l:List Upl} {id:Int} (h:atU l id<l.length):yx l id=l[atU l id]:=by unfold yx;simp [h]
theorem vF {l:List Upl} {id:Int} (h:atU l id<l.length):yx l id ∈ l:=by rw [vw h];exact List.getElem_mem h
theorem YP {l:List Upl} {id:Int} (h:atU l id<l.length):(yx l id).id=id:=by
 rw [vw h];have h2:(l[atU l id].id == id)=true:=List.findIdx_getElem (p:=fun u:Upl=>u.id == id) (w:=h)
 simpa using h2
theorem zm5 (a b:List Upl):xN (a++b)=xN a+xN b:=by
 induction a with
 |nil=>simp [xN]
 |cons u a ih=>simp only [List.cons_append,xN,ih];omega
theorem Yc: ∀ l:List Upl,0≤xN l
 |[]=>by decide
 |u::l=>by have:=Yc l;simp only [xN];omega
theorem zfb: ∀ {l:List Upl} {i:Nat} {u:Upl} (h:i<l.length),xN (l.set i u)=xN l - l[i].bytes.length+u.bytes.length
 |v::l,0,u,h=>by simp only [List.set_cons_zero,xN,List.getElem_cons_zero];omega
 | v::l,i+1,u,h=>by
   have:=zfb (l:=l) (i:=i) (u:=u) (by simpa using h)
   simp only [List.set_cons_succ,xN,List.getElem_cons_succ,this];omega
theorem zal: ∀ (l:List Upl) (i:Nat),xN (l.eraseIdx i)≤xN l
 |[],_=>by simp [xN]
 |v::l,0=>by simp only [List.eraseIdx_cons_zero,xN];omega
 |v::l,i+1=>by have:=zal l i;simp only [List.eraseIdx_cons_succ,xN];omega
theorem zdL {l:List Upl} {n:Int} (h:zK l n) {i:Nat} (hi:i<l.length) {u:Upl} (hid:u.id=l[i].id) (hu:zw5 u) (ht:xN l - l[i].bytes.length+u.bytes.length≤6000):zK (l.set i u) n:=by
 refine⟨h.n0,by rw [List.length_set];exact h.cnt,?_,fun v hv=> ?_,fun v hv=> ?_,by rw [zfb hi];exact ht⟩
 · have h1:=List.pairwise_map (f:=fun u:Upl=>u.id) (R:=(· < ·)) (l:=l)
   have h2:=List.pairwise_map (f:=fun u:Upl=>u.id) (R:=(· < ·)) (l:=l.set i u)
   rw [List.map_set,hid] at h2
   have e:(l.map fun u:Upl=>u.id).set i l[i].id=l.map fun u:Upl=>u.id:=by
    have:=List.set_getElem_self (show i<(l.map fun u:Upl=>u.id).length by simpa using hi)
    simpa using this
   rw [e] at h2;exact h2.1 (h1.2 h.srt)
 · rcases List.mem_or_eq_of_mem_set hv with hv|rfl
   · exact h.ids v hv
   · rw [hid];exact h.ids _ (List.getElem_mem hi)
 · rcases List.mem_or_eq_of_mem_set hv with hv|rfl
   · exact h.each v hv
   · exact hu
theorem zwQ {l:List Upl} {n:Int} (h:zK l n) (size:Int) (m:Str):zK (creL l n size m) (creN l n size m):=by
 unfold creL creN
 split
 · rename_i hc
   unfold creC at hc
   split at hc
   · cases hc
   split at hc
   · cases hc
   split at hc
   · cases hc
   split at hc
   · cases hc
   have hcnt:=h.cnt;have hn:=h.n0
   refine⟨by omega,by simp;omega,?_,fun u hu=> ?_,fun u hu=> ?_,?_⟩
   · rw [List.pairwise_append]
     refine⟨h.srt,by simp,fun a ha b hb=> ?_⟩
     simp only [List.mem_singleton] at hb;subst hb;have:=(h.ids a ha).2
     show a.id<n+1
     omega
   · rcases List.mem_append.1 hu with hu|hu
     · have:=h.ids u hu;omega
     · simp only [List.mem_singleton] at hu;subst hu;exact⟨by show 1≤n+1;omega,by show n+1≤n+1;omega⟩
   · rcases List.mem_append.1 hu with hu|hu
     · exact h.each u hu
     · simp only [List.mem_singleton] at hu;subst hu
       exact⟨by simp,by simp only;omega,by simp only;omega,by simp only;omega,fun _=>by simpa,by simp,by simp,fun h=>absurd rfl h⟩
   · rw [zm5];have:=h.tot;simp [xN];omega
 · exact h
theorem zw2 {l:List Upl} {n:Int} (h:zK l n) (id off:Int) (b:Str):zK (appL l id off b) n:=by
 unfold appL
 split
 · rename_i hc
   unfold appC at hc
   split at hc
   · cases hc
   rename_i h1
   have hi:atU l id<l.length:=by omega
   have hu:=h.each _ (vF hi)
   split at hc
   · cases hc
   split at hc
   · cases hc
   split at hc
   · cases hc
   split at hc
   · cases hc
   rename_i h2 h3 h4 h5
   refine zdL h hi (by show(yx l id).id=_;rw [vw hi]) ?_ ?_
   · refine⟨?_,hu.s1,hu.s2,hu.nl,?_,hu.t0,hu.t2,fun hs=>absurd (by simpa using h2) hs⟩
     · show((yx l id).bytes++b).length≤2000;rw [jk];omega
     · intro hs;show((((yx l id).bytes++b).length:Nat):Int)≤(yx l id).size;rw [jk]
       have hs:0≤(yx l id).size:=hs;omega
   · show xN l - _+((((yx l id).bytes++b).length:Nat):Int)≤6000
     rw [jk,← vw hi];omega
 · exact h
theorem zwN {l:List Upl} {n:Int} (h:zK l n) (id size:Int):zK (decL l id size) n:=by
 unfold decL
 split
 · rename_i hc
   unfold decC at hc
   split at hc
   · cases hc
   rename_i h1
   have hi:atU l id<l.length:=by omega
   have hu:=h.each _ (vF hi)
   split at hc
   · cases hc
   split at hc
   · cases hc
   split at hc
   · cases hc
   rename_i h2 h3 h4
   refine zdL h hi (by show(yx l id).id=_;rw [vw hi]) ?_ ?_
   · refine⟨hu.bl,by show -1≤size;omega,by show size≤2000;omega,hu.nl,fun _=>by show(((yx l id).bytes.length:Nat):Int)≤size;omega,hu.t0,hu.t2,fun hs=> ?_⟩
     have:=hu.wh hs;omega
   · show xN l - _+(((yx l id).bytes.length:Nat):Int)≤6000
     rw [← vw hi];have:=h.tot;omega
 · exact h
theorem zwL {l:List Upl} {n:Int} (h:zK l n) (id:Int):zK (droL l id) n:=by
 unfold droL;have hs:=List.eraseIdx_sublist l (atU l id);refine⟨h.n0,Nat.le_trans hs.length_le h.cnt,h.srt.sublist hs,fun u hu=>h.ids u (hs.subset hu),fun u hu=>h.each u (hs.subset hu),Int.le_trans (zal _ _) h.tot⟩
theorem zwY {l:List Upl} {n:Int} (h:zK l n) (id:Int):zK (begL l id) n:=by
 unfold begL
 split
 · rename_i hc
   unfold begC at hc
   split at hc
   · cases hc
   rename_i h1
   have hi:atU l id<l.length:=by omega
   have hu:=h.each _ (vF hi)
   split at hc
   · cases hc
   split at hc
   · cases hc
   rename_i h2 h3
   refine zdL h hi (by show(yx l id).id=_;rw [vw hi]) ⟨hu.bl,hu.s1,hu.s2,hu.nl,hu.bs,by show(0:Int)≤1;decide,by show(1:Int)≤2;decide,fun _=>by simpa using h3⟩ ?_
   show xN l - _+(((yx l id).bytes.length:Nat):Int)≤6000
   rw [← vw hi];have:=h.tot;omega
 · exact h
theorem zwJ {l:List Upl} {n:Int} (h:zK l n) (id:Int):zK (endL l id) n:=by
 unfold endL
 split
 · rename_i hc
   unfold endC at hc
   split at hc
   · cases hc
   rename_i h1
   have hi:atU l id<l.length:=by omega
   have hu:=h.each _ (vF hi)
   split at hc
   · cases hc
   rename_i h2
   refine zdL h hi (by show(yx l id).id=_;rw [vw hi]) ⟨hu.bl,hu.s1,hu.s2,hu.nl,hu.bs,by show(0:Int)≤2;decide,by show(2:Int)≤2;decide,fun _=>hu.wh (by simp only [Decidable.not_not] at h2;omega)⟩ ?_
   show xN l - _+(((yx l id).bytes.length:Nat):Int)≤6000
   rw [← vw hi];have:=h.tot;omega
 · exact h
theorem zxD {l:List Upl} (h:l.Pairwise fun a b=>a.id<b.id) {i:Nat} (hi:i<l.length):atU l l[i].id=i:=by
 unfold atU;rw [List.findIdx_eq hi]
 refine⟨by simp,fun j hj=> ?_⟩
 have:=List.pairwise_iff_getElem.1 h j i (by omega) hi hj
 simp only [beq_eq_false_iff_ne,ne_eq];omega
theorem zpS {l:List Upl} (h:l.Pairwise fun a b=>a.id<b.id) (id:Int):(l.filter fun u=> !(u.id == id))=droL l id:=by
 induction l with
 |nil=>simp [droL]
 | cons u l ih=>
   have h:=List.pairwise_cons.1 h;unfold droL atU at *;rw [List.filter_cons,List.findIdx_cons]
   by_cases hu:u.id=id
   · have e:(u.id == id)=true:=by simpa using hu
     rw [e];simp only [Bool.not_true,jd,if_false,cond_true,List.eraseIdx_cons_zero];refine List.filter_eq_self.2 fun v hv=> ?_;have:=h.1 v hv
     simp;omega
   · have e:(u.id == id)=false:=by simpa using hu
     rw [e];simp only [Bool.not_false,if_true,cond_false,List.eraseIdx_cons_succ,ih h.2]
end Go.Proofs.YtkjepecoodjbmaaGreatDoor
namespace Go.Proofs.YtkjepecoodjbmaaGreatDoor
open Go Go.Sep Go.Ab
set_option maxRecDepth 100000
def RN (I:Alg) (args:List D) (hp:List HO):Option CT:=match args,hp with
 |[.v (.agg [(.p (.int .i64 a)),(.p (.int .i64 b)),(.p (.str m)),(.p (.list .byte y)),(.p (.int .i64 t))]),.v (.one (.ptr 0 0))],[.pack [.obj 3 [(.p (.int .i64 d))]]]=>(fun(a b:Int) (m y:Str) (t d:Int)=>(some (.one ⟨I.hid (True),(.ret (.v (.one (.p (.bool (I.hid ((a == d)))))))),[.pack [.obj 3 [(.p (.int .i64 d))]]]⟩):Option CT)) a b m y t d
 |_,_=>none
theorem zjA:zx Tryz.prog 101 (RN alg):=by
 intro args hp r h;unfold RN at h;split at h<;>cases h
 rename_i a b m y t d;simp only [CT.Good,zi];intro _
 refine spcG zh mixed Tryz.func101 (by kernel_rfl) { keep:=some [0,1,2,3]} [] (by kernel_rfl) ?_
 intro I X hI hX
 refine orcL ?_;go_invoke;refine orcS (by kernel_rfl) ?_
 simp only [zq,Nat.reduceAdd];subst hI;simp only [nrmA,nrmB,nrlB,reduceCtorEq,HO.pack.injEq,HO.obj.injEq]
def RJ:Know Tryz.prog:=⟨101,RN,zjA⟩
def zjz:Know Tryz.prog:=⟨101,fun I=>zy I (RN I),zf zjA⟩
def ixU (l:List Upl) (id:Int):Int:=if atU l id<l.length then(atU l id:Int) else -1
theorem zlJ {l:List Upl} {id:Int} {i:Nat} (h:i<l.length) (hp:i≤atU l id):(if(l.getD i upl0).id=id then atU l id=i else i+1≤atU l id):=by
 rw [show l.getD i upl0=l[i] by simp [h]]
 split
 · rename_i he
   rcases Nat.lt_or_ge i (atU l id) with h1|h1
   · have:=List.not_of_lt_findIdx (p:=fun u:Upl=>u.id == id) (xs:=l) (i:=i) h1
     simp [he] at this
   · omega
 · rename_i he
   rcases Nat.lt_or_ge i (atU l id) with h1|h1
   · omega
   · have e:atU l id=i:=by omega
     have h2:=YP (l:=l) (id:=id) (by omega)
     rw [vw (by omega)] at h2
     simp only [e] at h2;exact absurd h2 he
def zdN (I:Alg) (args:List D) (hp:List HO):Option CT:=match args,hp with
 |[.v (.one (.p (.list .upl l))),.v (.one (.fn 101 [.ptr 0 0]))],[.pack [.obj 3 [(.p (.int .i64 d))]]]=>(fun(l:List Upl) (d:Int)=>(some (.one ⟨I.hid (l.length≤1000000),(.ret (.v (.one (.p (.int .i64 (I.hid ((ixU l d)))))))),[.pack [.obj 3 [(.p (.int .i64 d))]]]⟩):Option CT)) l d
 |_,_=>none
theorem znz:zx Tryz.prog 100 (zdN alg):=by
 intro args hp r h;unfold zdN at h;split at h<;>cases h
 rename_i l d
 revert l;intro(l:List Upl)
 simp only [CT.Good,zi];intro hneed
 refine spcG zh mixed Tryz.func100 (by kernel_rfl) { keep:=some [0,1,4,5,7,8]} [RJ] (by kernel_rfl) ?_
 intro I X hI hX
 refine orcL ?_;go_invoke;refine orcS (by kernel_rfl) ?_
 simp only [zq,Nat.reduceAdd]
 refine zB hI zh mixed [RJ] hX [0,1,7,8] (fun(i:Nat)=>i≤l.length∧i≤atU l d) (fun(i:Nat)=>⟨[(0,.v (.one (.p (.list .upl l)))),(1,.v (.one (.fn 101 [.ptr 0 0]))),(7,.v (.one (.p (.int .i64 ((I.len (α:=Upl) l)))))),(8,.v (.one (.p (.int .i64 i))))],[.pack [.obj 3 [(.p (.int .i64 d))]]],19,none⟩) (fun(i:Nat)=>l.length - i) 0 (by kernel_rfl) (by kernel_rfl) ?_ ?_
 · exact⟨jM _,jM _⟩
 rintro i ⟨h1,h2⟩ A hA
 refine orcL ?_;go_invoke;refine orcS (by kernel_rfl) ?_
 simp only [zq,Nat.reduceAdd];subst hI;simp only [nrmA,nrmB];have hx:=fun h=>zlJ (l:=l) (id:=d) (i:=i) h h2;have hle:=zqI l d;have e0:(⟨0,0,[],[],0⟩:Upl)=upl0:=rfl;simp only [e0];unfold ixU
 (repeat' (first|refine ja ?_ ?_|intro _))<;>first|omega|exact jb|exact jc ‹False›|skip
 all_goals first
  |(have h3:=hx (by omega);rw [if_pos (by assumption)] at h3;rw [if_pos (by omega),h3])
  |(have h3:=hx (by omega);rw [if_neg (by assumption)] at h3;exact hA (i+1) ⟨by omega,h3⟩ (by omega))
  |(rw [if_neg (by omega)])
def UU:Know Tryz.prog:=⟨100,zdN,znz⟩
def UR:Know Tryz.prog:=⟨100,fun I=>zy I (zdN I),zf znz⟩
def zbD:Cfg:= { sl:=[⟨124,0,.upl,some 81⟩,⟨65,0,.upl,some 81⟩]}
theorem zpe {l:List Upl} {id:Int} (h:atU l id<l.length):ixU l id=(atU l id:Int):=by unfold ixU;rw [if_pos h]
theorem zpf {l:List Upl} {id:Int} (h: ¬ atU l id<l.length):ixU l id= -1:=by unfold ixU;rw [if_neg h]
theorem zxf (l:List Upl) (n id:Int) (hneed:l.length≤1000000∧atU l id<l.length):Spc Tryz.prog 58 [.v (.one (.ptr 0 0)),.v (.one (.p (.int .i64 id)))] [.obj 124 [(.row 1),(.p (.int .i64 n))],.row .upl 81 l] (.ret (.tup [(.one (.ept .upl 1 ((atU l id:Int)) 0)),(.one (.p (.int .i64 0)))])) [.obj 124 [(.row 1),(.p (.int .i64 n))],.row .upl 81 l]:=by
 obtain⟨h1,h2⟩:=hneed
 refine spcG zh mixed Tryz.func58 (by kernel_rfl) { flat:=true,keep:=some [0,1,3,4,5,6]} [RJ,zjz,UU,UR] (by kernel_rfl) ?_
 intro I X hI hX
 refine orcL ?_;go_invoke;refine orcS (by kernel_rfl) ?_
 simp only [zq,Nat.reduceAdd];subst hI;simp only [nrmA,nrmB,zpe h2]
 (repeat' (first|refine ja ?_ ?_|intro _))<;>first|omega|exact jb|exact jc ‹False›|skip
theorem zxe (l:List Upl) (n id:Int) (hneed:l.length≤1000000∧¬ atU l id<l.length):Spc Tryz.prog 58 [.v (.one (.ptr 0 0)),.v (.one (.p (.int .i64 id)))] [.obj 124 [(.row 1),(.p (.int .i64 n))],.row .upl 81 l] (.ret (.tup [(.one (.p (.val (.pointer none)))),(.one (.p (.int .i64 10)))])) [.obj 124 [(.row 1),(.p (.int .i64 n))],.row .upl 81 l]:=by
 obtain⟨h1,h2⟩:=hneed
 refine spcG zh mixed Tryz.func58 (by kernel_rfl) { flat:=true,keep:=some [0,1,3,4,5,6]} [RJ,zjz,UU,UR] (by kernel_rfl) ?_
 intro I X hI hX
 refine orcL ?_;go_invoke;refine orcS (by kernel_rfl) ?_
 simp only [zq,Nat.reduceAdd];subst hI;simp only [nrmA,nrmB,zpf h2]
 (repeat' (first|refine ja ?_ ?_|intro _))<;>first|omega|exact jb|exact jc ‹False›|skip
def zjP (I:Alg) (args:List D) (hp:List HO):Option CT:=match args,hp with
 |[.v (.one (.ptr 0 0)),.v (.one (.p (.int .i64 id)))],[.obj 124 [(.row 1),(.p (.int .i64 n))],.row .upl 81 l]=>(fun(l:List Upl) (n id:Int)=>(some (.br (I.hid (decide (atU l id<l.length))) (.one ⟨I.hid (l.length≤1000000∧atU l id<l.length),(.ret (.tup [(.one (.ept .upl 1 (I.hid ((atU l id:Int))) 0)),(.one (.p (.int .i64 0)))])),[.obj 124 [(.row 1),(.p (.int .i64 n))],.row .upl 81 l]⟩) (.one ⟨I.hid (l.length≤1000000∧¬ atU l id<l.length),(.ret (.tup [(.one (.p (.val (.pointer none)))),(.one (.p (.int .i64 10)))])),[.obj 124 [(.row 1),(.p (.int .i64 n))],.row .upl 81 l]⟩)):Option CT)) l n id
 |_,_=>none
theorem zte:zx Tryz.prog 58 (zjP alg):=by
 intro args hp r h;unfold zjP at h
 split at h
 · cases h;exact⟨fun _ hn=>zxf _ _ _ hn,fun _ hn=>zxe _ _ _ hn⟩
 · cases h
def zch:Know Tryz.prog:=⟨58,zjP,zte⟩
def zcg:Know Tryz.prog:=⟨58,fun I=>zy I (zjP I),zf zte⟩
theorem znM (l:List Upl) (n:Int) (hneed:xN l≤1000000∧l.length≤1000000):Spc Tryz.prog 201 [.v (.one (.ptr 0 0))] [.obj 124 [(.row 1),(.p (.int .i64 n))],.row .upl 81 l] (.ret (.v (.one (.p (.int .i64 ((xN l))))))) [.obj 124 [(.row 1),(.p (.int .i64 n))],.row .upl 81 l]:=by
 obtain⟨hu,hl⟩:=hneed
 refine spcG zh mixed Tryz.func201 (by kernel_rfl) { flat:=true,keep:=some [0,2,3,5,9,10,11]} [] (by kernel_rfl) ?_
 intro I X hI hX
 refine orcL ?_;go_invoke;refine orcS (by kernel_rfl) ?_
 simp only [zq,Nat.reduceAdd]
 refine zB hI zh mixed [] hX [0,3,9,10,11] (fun(g:Nat × Int)=>match g with|(i,a)=>i≤l.length∧0≤a∧a+xN (l.drop i)=xN l) (fun(g:Nat × Int)=>match g with|(i,a)=>⟨[(0,.v (.one (.ptr 0 0))),(3,.v (.one (.p (.int .i64 a)))),(9,.v (.one (.row 1))),(10,.v (.one (.p (.int .i64 ((I.len (α:=Upl) l)))))),(11,.v (.one (.p (.int .i64 i))))],[.obj 124 [(.row 1),(.p (.int .i64 n))],.row .upl 81 l],22,none⟩) (fun(g:Nat × Int)=>match g with|(i,a)=>l.length - i) (0,0) (by kernel_rfl) (by kernel_rfl) ?_ ?_
 · exact⟨jM _,Int.le_refl _,by simp⟩
 rintro⟨i,a⟩ ⟨h1,h2,h3⟩ A hA;simp only at hA
 refine orcL ?_;go_invoke;refine orcS (by kernel_rfl) ?_
 simp only [zq,Nat.reduceAdd];subst hI;simp only [nrmA,nrmB]
 have hd:i<l.length→xN (l.drop i)=(l.getD i ⟨0,0,[],[],0⟩).bytes.length+xN (l.drop (i+1)):=fun h=>by
  rw [jE h];simp [xN,h]
 have hn:=Yc (l.drop (i+1))
 have hn0: ¬ i<l.length→xN (l.drop i)=0:=fun h=>by rw [jF (by omega)];rfl
 generalize l.getD i ⟨0,0,[],[],0⟩=x at *
 (repeat' (first|refine ja ?_ ?_|intro _))<;>first|omega|exact jb|exact jc ‹False›|skip
 all_goals first
  |(have:=hd (by omega);omega)
  |(have:=hd (by omega);refine hA (i+1,_) ⟨by simp only;omega,by simp only;omega,by simp only;omega⟩ (by simp only;omega))
  |(have:=hn0 (by omega);simp only [show a=xN l by omega])
def WN (I:Alg) (args:List D) (hp:List HO):Option CT:=match args,hp with
 |[.v (.one (.ptr 0 0))],[.obj 124 [(.row 1),(.p (.int .i64 n))],.row .upl 81 l]=>(fun(l:List Upl) (n:Int)=>(some (.one ⟨I.hid (xN l≤1000000∧l.length≤1000000),(.ret (.v (.one (.p (.int .i64 (I.hid ((xN l)))))))),[.obj 124 [(.row 1),(.p (.int .i64 n))],.row .upl 81 l]⟩):Option CT)) l n
 |_,_=>none
theorem zft:zx Tryz.prog 201 (WN alg):=by
 intro args hp r h;unfold WN at h
 split at h
 · cases h;exact fun hn=>znM _ _ hn
 · cases h
def znL:Know Tryz.prog:=⟨201,WN,zft⟩
def znK:Know Tryz.prog:=⟨201,fun I=>zy I (WN I),zf zft⟩
theorem zvS (l:List Upl) (n:Int) (hneed:xN l≤1000000∧l.length≤1000000):Spc Tryz.prog 201 [.v (.one (.ptr 0 0))] [.pack [.obj 124 [(.row 1),(.p (.int .i64 n))],.row .upl 81 l]] (.ret (.v (.one (.p (.int .i64 ((xN l))))))) [.pack [.obj 124 [(.row 1),(.p (.int .i64 n))],.row .upl 81 l]]:=
 Spc.packed (ex:=[]) (znM l n hneed) rfl (by simp) rfl
def RY (I:Alg) (args:List D) (hp:List HO):Option CT:=match args,hp with
 |[.v (.one (.ptr 0 0))],[.pack [.obj 124 [(.row 1),(.p (.int .i64 n))],.row .upl 81 l]]=>(fun(l:List Upl) (n:Int)=>(some (.one ⟨I.hid (xN l≤1000000∧l.length≤1000000),(.ret (.v (.one (.p (.int .i64 (I.hid ((xN l)))))))),[.pack [.obj 124 [(.row 1),(.p (.int .i64 n))],.row .upl 81 l]]⟩):Option CT)) l n
 |_,_=>none
theorem zjJ:zx Tryz.prog 201 (RY alg):=by
 intro args hp r h;unfold RY at h
 split at h
 · cases h;exact fun hn=>zvS _ _ hn
 · cases h
def zrt:Know Tryz.prog:=⟨201,RY,zjJ⟩
def zrr:Know Tryz.prog:=⟨201,fun I=>zy I (RY I),zf zjJ⟩
def zeq (I:Alg) (args:List D) (hp:List HO):Option CT:=match args,hp with
 |[.v (.one .nilS),.v (.one (.p (.int .i64 n)))],[]=>(fun(n:Int)=>(some (.one ⟨I.hid (0≤n∧n≤1000000),(.ret (.v (.one (.row 0)))),[.row .byte 5 (I.hid ([]))]⟩):Option CT)) n
 |_,_=>none
theorem zpq:zx Tryz.prog 239 (zeq alg):=by
 intro args hp r h;unfold zeq at h;split at h<;>cases h
 rename_i n;simp only [CT.Good,zi];intro hneed
 refine spcG zh mixed Tryz.func239 (by kernel_rfl) { cut:=[0],keep:=some [0,1,4]} [] (by kernel_rfl) ?_
 intro I X hI hX
 refine orcL ?_;go_invoke;refine orcS (by kernel_rfl) ?_
 simp only [zq,Nat.reduceAdd];subst hI;simp only [nrmA,nrmB,nrlB,reduceCtorEq];simp only [List.length_replicate,List.take_zero]
 (repeat' (first|refine ja ?_ ?_|intro _))<;>first|omega|exact jb|exact jc ‹False›|skip
 all_goals trivial
def zit:Know Tryz.prog:=⟨239,zeq,zpq⟩
def zis:Know Tryz.prog:=⟨239,fun I=>zy I (zeq I),zf zpq⟩
theorem zg3 {ls:List Str} {i:Nat} (h:i<ls.length):(ls.take (i+1)).flatten=(ls.take i).flatten++ls.getD i []:=by
 rw [jB h,List.flatten_append];simp [h]
theorem zew (ls:List Str) (i:Nat):(ls.take i).flatten.length≤ls.flatten.length:=by
 have:=congrArg (fun l:List Str=>l.flatten.length) (List.take_append_drop i ls);simp only [List.flatten_append,jk] at this;omega
def Ut (I:Alg) (args:List D) (hp:List HO):Option CT:=match args,hp with
 |[.v (.one (.p (.list .bytes ls)))],[]=>(fun(ls:List Str)=>(some (.one ⟨I.hid (ls.flatten.length≤1000000∧ls.length≤1000),(.ret (.v (.one (.row 0)))),[.row .byte 5 ls.flatten]⟩):Option CT)) ls
 |_,_=>none
theorem zhm:zx Tryz.prog 202 (Ut alg):=by
 intro args hp r h;unfold Ut at h;split at h<;>cases h
 rename_i ls
 revert ls;intro(ls:List Str)
 simp only [CT.Good,zi];intro hneed;obtain⟨hl,hk⟩:=hneed
 refine spcG zh mixed Tryz.func202 (by kernel_rfl) { nils:=[239],keep:=some [0,2,3,5,6,8,9,10,11,25,26,27]} [zit,zis] (by kernel_rfl) ?_
 intro I X hI hX
 refine orcL ?_;go_invoke;refine orcS (by kernel_rfl) ?_
 simp only [zq,Nat.reduceAdd]
 refine zB hI zh mixed [zit,zis] hX [0,3,9,10,11] (fun(g:Nat × Int)=>match g with|(i,a)=>i≤ls.length∧a=(ls.take i).flatten.length) (fun(g:Nat × Int)=>match g with|(i,a)=>⟨[(0,.v (.one (.p (.list .bytes ls)))),(3,.v (.one (.p (.int .i64 a)))),(9,.v (.one (.p (.list .bytes ls)))),(10,.v (.one (.p (.int .i64 ((I.len (α:=List UInt8) ls)))))),(11,.v (.one (.p (.int .i64 i))))],[],36,none⟩) (fun(g:Nat × Int)=>match g with|(i,a)=>ls.length - i) (0,0) (by kernel_rfl) (by kernel_rfl) ?_ ?_
 · exact⟨jM _,by simp⟩
 rintro⟨i,a⟩ ⟨h1,h2⟩ A hA;simp only at hA
 refine orcL ?_;go_invoke;refine orcS (by kernel_rfl) ?_
 simp only [zq,Nat.reduceAdd];have hx:i<ls.length→_:=zg3 (ls:=ls) (i:=i);have hy:=zew ls (i+1);have hz:=zew ls i;refine⟨fun c1=> ?_,fun c1=>⟨?_,?_⟩⟩
 · subst hI
   simp only [nrmA,nrmB] at c1;simp only [nrmA,nrmB]
   have hx:=congrArg List.length (hx (by omega))
   rw [jk] at hx;generalize ls.getD i []=x at *
   (repeat' (first|refine ja ?_ ?_|intro _))<;>first|omega|exact jb|exact jc ‹False›|skip
   exact hA (i+1,_) ⟨by simp only;omega,by simp only;omega⟩ (by simp only;omega)
 · subst hI
   simp only [nrmA,nrmB];omega
 · have hi:i=ls.length:=by
    subst hI;simp only [nrmA,nrmB] at c1;omega
   have hil:(I.hid ([]:Str))=[]:=by subst hI;rfl
   rw [hil]
   refine zB hI zh mixed [zit,zis] hX [6,25,26,27] (fun(g:Nat × Str)=>match g with|(j,o)=>j≤ls.length∧o=(ls.take j).flatten) (fun(g:Nat × Str)=>match g with|(j,o)=>⟨[(6,.v (.one (.row 0))),(25,.v (.one (.p (.list .bytes ls)))),(26,.v (.one (.p (.int .i64 ((I.len (α:=List UInt8) ls)))))),(27,.v (.one (.p (.int .i64 j))))],[.row .byte 5 o],36,none⟩) (fun(g:Nat × Str)=>match g with|(j,o)=>ls.length - j) (0,[]) (by kernel_rfl) (by kernel_rfl) ?_ ?_
   · exact⟨jM _,rfl⟩
   rintro⟨j,o⟩ ⟨k1,k2⟩ B hB;simp only at hB
   refine orcL ?_;go_invoke;refine orcS (by kernel_rfl) ?_
   simp only [zq,Nat.reduceAdd];subst hI;simp only [nrmA,nrmB,nrlB,reduceCtorEq];have hx:j<ls.length→_:=zg3 (ls:=ls) (i:=j);have hy:=zew ls (j+1);have hz:=zew ls j
   have hw: ¬ j<ls.length→o=ls.flatten:=fun h=>by rw [k2,jq (by omega)]
   rw [k2] at hw ⊢
   refine⟨fun c=> ?_,fun c=>hw (by omega)⟩
   have hx:=hx (by omega)
   rw [← hx];have hx2:=congrArg List.length hx;rw [jk] at hx2;generalize ls.getD j []=x at *
   (repeat' (first|refine ja ?_ ?_|intro _))<;>first|omega|exact jb|exact jc ‹False›|skip
   exact hB (j+1,(ls.take (j+1)).flatten) ⟨by simp only;omega,rfl⟩ (by simp only;omega)
def zqq:Know Tryz.prog:=⟨202,Ut,zhm⟩
def zqp:Know Tryz.prog:=⟨202,fun I=>zy I (Ut I),zf zhm⟩
theorem Yf {l:List Upl} {n:Int} (h:zK l n):l.length≤1000000∧xN l≤1000000:=by
 have:=h.cnt;have:=h.tot;omega
def YV (I:Alg) (args:List D) (hp:List HO):Option CT:=match args,hp with
 |[.v (.one (.ptr 0 0)),.v (.one (.p (.int .i64 size))),.v (.one (.p (.str m)))],[.pack [.obj 124 [(.row 1),(.p (.int .i64 n))],.row .upl 81 l]]=>(fun(l:List Upl) (n size:Int) (m:Str)=>(some (.one ⟨I.hid (zK l n∧n≤1000000∧m.length≤1000000),(.ret (.tup [(.one (.p (.int .i64 (I.hid ((creI l n size m)))))),(.one (.p (.int .i64 (I.hid ((creC l size m))))))])),[.pack [.obj 124 [(.row 1),(.p (.int .i64 (I.hid ((creN l n size m)))))],.row .upl 81 (I.hid ((creL l n size m)))]]⟩):Option CT)) l n size m
 |_,_=>none
theorem zcf:zx Tryz.prog 152 (YV alg):=by
 intro args hp r h;unfold YV at h;split at h<;>cases h
 rename_i size m n l
 revert l;intro(l:List Upl)
 simp only [CT.Good,zi];intro hneed;obtain⟨hs,hn,hm⟩:=hneed;have hc:=hs.cnt;have h0:=hs.n0;generalize hi:creI l n size m=ri;generalize he:creC l size m=re;generalize hl:creL l n size m=rl;generalize hN:creN l n size m=rn
 refine spcG zh mixed Tryz.func152 (by kernel_rfl) { zbD with keep:=some [0,1,2,6,7]} [wW,wV,UD,UC] (by kernel_rfl) ?_
 intro I X hI hX
 refine orcL ?_;go_invoke;refine orcS (by kernel_rfl) ?_
 simp only [zq,Nat.reduceAdd];subst hI;simp only [nrmA,nrmB,nrlB,reduceCtorEq,HO.pack.injEq,HO.obj.injEq];unfold creI at hi;unfold creL at hl;unfold creN at hN;rw [he] at hi hl hN;unfold creC at he;simp only [jh,ji]
 (repeat' (first|refine ja ?_ ?_|intro _))<;>first|omega|exact jb|exact jc ‹False›|skip
 all_goals((repeat(first|rewrite [if_pos (by first|omega|assumption|(simp only [*,or_self,or_true,true_or,or_false,false_or,jf,jg,jd,je,and_self,and_true,true_and];done)|(simp only [*];omega)|(simp [*];done)|(simp [*];omega))] at he|rewrite [if_neg (by first|omega|assumption|(simp only [*,or_self,or_true,true_or,or_false,false_or,jf,jg,jd,je,and_self,and_true,true_and];done)|(simp only [*];omega)|(simp [*];done)|(simp [*];omega))] at he));subst he;((repeat(first|rewrite [if_pos (by first|omega|assumption|(simp only [*,or_self,or_true,true_or,or_false,false_or,jf,jg,jd,je,and_self,and_true,true_and];done)|(simp only [*];omega)|(simp [*];done)|(simp [*];omega))] at hi|rewrite [if_neg (by first|omega|assumption|(simp only [*,or_self,or_true,true_or,or_false,false_or,jf,jg,jd,je,and_self,and_true,true_and];done)|(simp only [*];omega)|(simp [*];done)|(simp [*];omega))] at hi)));((repeat(first|rewrite [if_pos (by first|omega|assumption|(simp only [*,or_self,or_true,true_or,or_false,false_or,jf,jg,jd,je,and_self,and_true,true_and];done)|(simp only [*];omega)|(simp [*];done)|(simp [*];omega))] at hl|rewrite [if_neg (by first|omega|assumption|(simp only [*,or_self,or_true,true_or,or_false,false_or,jf,jg,jd,je,and_self,and_true,true_and];done)|(simp only [*];omega)|(simp [*];done)|(simp [*];omega))] at hl)));((repeat(first|rewrite [if_pos (by first|omega|assumption|(simp only [*,or_self,or_true,true_or,or_false,false_or,jf,jg,jd,je,and_self,and_true,true_and];done)|(simp only [*];omega)|(simp [*];done)|(simp [*];omega))] at hN|rewrite [if_neg (by first|omega|assumption|(simp only [*,or_self,or_true,true_or,or_false,false_or,jf,jg,jd,je,and_self,and_true,true_and];done)|(simp only [*];omega)|(simp [*];done)|(simp [*];omega))] at hN)));subst hi;subst hl;subst hN;first|rfl|omega)
def zl1:Know Tryz.prog:=⟨152,YV,zcf⟩
def zl0:Know Tryz.prog:=⟨152,fun I=>zy I (YV I),zf zcf⟩
def YW (I:Alg) (args:List D) (hp:List HO):Option CT:=match args,hp with
 |[.v (.one (.ptr 0 0)),.v (.one (.p (.int .i64 id))),.v (.one (.p (.int .i64 off))),.v (.one (.p (.list .byte b)))],[.pack [.obj 124 [(.row 1),(.p (.int .i64 n))],.row .upl 81 l]]=>(fun(l:List Upl) (n id off:Int) (b:Str)=>(some (.one ⟨I.hid (zK l n∧b.length≤1000000),(.ret (.v (.one (.p (.int .i64 (I.hid ((appC l id off b)))))))),[.pack [.obj 124 [(.row 1),(.p (.int .i64 n))],.row .upl 81 (I.hid ((appL l id off b)))]]⟩):Option CT)) l n id off b
 |_,_=>none
theorem zci:zx Tryz.prog 153 (YW alg):=by
 intro args hp r h;unfold YW at h;split at h<;>cases h
 rename_i id off b n l
 revert l;intro(l:List Upl)
 simp only [CT.Good,zi];intro hneed;obtain⟨hs,hb⟩:=hneed;have hf:=Yf hs;generalize he:appC l id off b=re;generalize hl:appL l id off b=rl
 refine spcG zh mixed Tryz.func153 (by kernel_rfl) { zbD with bare:=[58,201],keep:=some [0,1,2,3,8,9,10,11]} [zch,zcg,znL,znK,zrt,zrr,zqq,zqp] (by kernel_rfl) ?_
 intro I X hI hX
 refine orcL ?_;go_invoke;refine orcS (by kernel_rfl) ?_
 simp only [zq,Nat.reduceAdd];subst hI;simp only [nrmA,nrmB,nrlB,reduceCtorEq,HO.pack.injEq,HO.obj.injEq];unfold appL at hl;rw [he] at hl;unfold appC at he;unfold yx upl0 at he hl;simp only [List.flatten_cons,List.flatten_nil,List.append_nil,jk,jh,ji];have hx:atU l id<l.length→_:=fun h=>hs.each _ (vF h);unfold yx upl0 at hx;generalize l.getD (atU l id) ⟨0,0,[],[],0⟩=x at *;have hu0:=Yc l;have hb1:=fun h=>(hx h).bl;have hb2:=fun h=>(hx h).s1;have hb3:=fun h=>(hx h).s2
 (repeat' (first|refine ja ?_ ?_|intro _))<;>first|omega|exact jb|exact jc ‹False›|skip
 all_goals first
  |(have:=hb1 (by omega);have:=hb2 (by omega);have:=hb3 (by omega);omega)
  |exact hf.1
  |exact hf.2
  |((repeat(first|rewrite [if_pos (by first|omega|assumption|(simp only [*,or_self,or_true,true_or,or_false,false_or,jf,jg,jd,je,and_self,and_true,true_and];done)|(simp only [*];omega)|(simp [*];done)|(simp [*];omega))] at he|rewrite [if_neg (by first|omega|assumption|(simp only [*,or_self,or_true,true_or,or_false,false_or,jf,jg,jd,je,and_self,and_true,true_and];done)|(simp only [*];omega)|(simp [*];done)|(simp [*];omega))] at he));subst he;((repeat(first|rewrite [if_pos (by first|omega|assumption|(simp only [*,or_self,or_true,true_or,or_false,false_or,jf,jg,jd,je,and_self,and_true,true_and];done)|(simp only [*];omega)|(simp [*];done)|(simp [*];omega))] at hl|rewrite [if_neg (by first|omega|assumption|(simp only [*,or_self,or_true,true_or,or_false,false_or,jf,jg,jd,je,and_self,and_true,true_and];done)|(simp only [*];omega)|(simp [*];done)|(simp [*];omega))] at hl)));subst hl;first|rfl|omega)
def zl3:Know Tryz.prog:=⟨153,YW,zci⟩
def zl2:Know Tryz.prog:=⟨153,fun I=>zy I (YW I),zf zci⟩
end Go.Proofs.YtkjepecoodjbmaaGreatDoor
namespace Go.Proofs.YtkjepecoodjbmaaGreatDoor
open Go Go.Sep Go.Ab
set_option maxRecDepth 100000
def Zw (I:Alg) (args:List D) (hp:List HO):Option CT:=match args,hp with
 |[.v (.one (.ptr 0 0)),.v (.one (.p (.int .i64 id))),.v (.one (.p (.int .i64 size)))],[.pack [.obj 124 [(.row 1),(.p (.int .i64 n))],.row .upl 81 l]]=>(fun(l:List Upl) (n id size:Int)=>(some (.one ⟨I.hid (zK l n),(.ret (.v (.one (.p (.int .i64 (I.hid ((decC l id size)))))))),[.pack [.obj 124 [(.row 1),(.p (.int .i64 n))],.row .upl 81 (I.hid ((decL l id size)))]]⟩):Option CT)) l n id size
 |_,_=>none
theorem zaH:zx Tryz.prog 154 (Zw alg):=by
 intro args hp r h;unfold Zw at h;split at h<;>cases h
 rename_i id size n l
 revert l;intro(l:List Upl)
 simp only [CT.Good,zi];intro hneed;have hs:=hneed;have hf:=Yf hs;generalize he:decC l id size=re;generalize hl:decL l id size=rl
 refine spcG zh mixed Tryz.func154 (by kernel_rfl) { zbD with bare:=[58],keep:=some [0,1,2,6,7,8]} [zch,zcg] (by kernel_rfl) ?_
 intro I X hI hX
 refine orcL ?_;go_invoke;refine orcS (by kernel_rfl) ?_
 simp only [zq,Nat.reduceAdd];subst hI;simp only [nrmA,nrmB,nrlB,reduceCtorEq,HO.pack.injEq,HO.obj.injEq];unfold decL at hl;rw [he] at hl;unfold decC at he;unfold yx upl0 at he hl;generalize l.getD (atU l id) ⟨0,0,[],[],0⟩=x at *
 (repeat' (first|refine ja ?_ ?_|intro _))<;>first|omega|exact jb|exact jc ‹False›|skip
 all_goals first
  |exact hf.1
  |((repeat(first|rewrite [if_pos (by first|omega|assumption|(simp only [*,or_self,or_true,true_or,or_false,false_or,jf,jg,jd,je,and_self,and_true,true_and];done)|(simp only [*];omega)|(simp [*];done)|(simp [*];omega))] at he|rewrite [if_neg (by first|omega|assumption|(simp only [*,or_self,or_true,true_or,or_false,false_or,jf,jg,jd,je,and_self,and_true,true_and];done)|(simp only [*];omega)|(simp [*];done)|(simp [*];omega))] at he));subst he;((repeat(first|rewrite [if_pos (by first|omega|assumption|(simp only [*,or_self,or_true,true_or,or_false,false_or,jf,jg,jd,je,and_self,and_true,true_and];done)|(simp only [*];omega)|(simp [*];done)|(simp [*];omega))] at hl|rewrite [if_neg (by first|omega|assumption|(simp only [*,or_self,or_true,true_or,or_false,false_or,jf,jg,jd,je,and_self,and_true,true_and];done)|(simp only [*];omega)|(simp [*];done)|(simp [*];omega))] at hl)));subst hl;first|rfl|omega)
def zhW:Know Tryz.prog:=⟨154,Zw,zaH⟩
def zhV:Know Tryz.prog:=⟨154,fun I=>zy I (Zw I),zf zaH⟩
def Rn (I:Alg) (args:List D) (hp:List HO):Option CT:=match args,hp with
 |[.v (.agg [(.p (.int .i64 a)),(.p (.int .i64 b)),(.p (.str m)),(.p (.list .byte y)),(.p (.int .i64 t))])],[]=>(fun(a b:Int) (m y:Str) (t:Int)=>(some (.one ⟨I.hid (True),(.ret (.v (.one (.p (.bool (I.hid ((b == (y.length:Int))))))))),[]⟩):Option CT)) a b m y t
 |_,_=>none
theorem zjb:zx Tryz.prog 205 (Rn alg):=by
 intro args hp r h;unfold Rn at h;split at h<;>cases h
 rename_i a b m y t;simp only [CT.Good,zi];intro _
 refine spcG zh mixed Tryz.func205 (by kernel_rfl) { keep:=some [0,1,2]} [] (by kernel_rfl) ?_
 intro I X hI hX
 refine orcL ?_;go_invoke;refine orcS (by kernel_rfl) ?_
 simp only [zq,Nat.reduceAdd];subst hI;simp only [nrmA,nrmB]
 try trivial
def zq3:Know Tryz.prog:=⟨205,Rn,zjb⟩
def zq2:Know Tryz.prog:=⟨205,fun I=>zy I (Rn I),zf zjb⟩
def WS (I:Alg) (args:List D) (hp:List HO):Option CT:=match args,hp with
 |[.v (.one (.ptr 0 0)),.v (.one (.p (.int .i64 id)))],[.pack [.obj 124 [(.row 1),(.p (.int .i64 n))],.row .upl 81 l]]=>(fun(l:List Upl) (n id:Int)=>(some (.one ⟨I.hid (zK l n),(.ret (.v (.one (.p (.int .i64 (I.hid ((begC l id)))))))),[.pack [.obj 124 [(.row 1),(.p (.int .i64 n))],.row .upl 81 (I.hid ((begL l id)))]]⟩):Option CT)) l n id
 |_,_=>none
theorem zfv:zx Tryz.prog 156 (WS alg):=by
 intro args hp r h;unfold WS at h;split at h<;>cases h
 rename_i id n l
 revert l;intro(l:List Upl)
 simp only [CT.Good,zi];intro hneed;have hs:=hneed;have hf:=Yf hs;generalize he:begC l id=re;generalize hl:begL l id=rl
 refine spcG zh mixed Tryz.func156 (by kernel_rfl) { zbD with bare:=[58],keep:=some [0,1,4,5,6]} [zch,zcg,zq3,zq2] (by kernel_rfl) ?_
 intro I X hI hX
 refine orcL ?_;go_invoke;refine orcS (by kernel_rfl) ?_
 simp only [zq,Nat.reduceAdd];subst hI;simp only [nrmA,nrmB,nrlB,reduceCtorEq,HO.pack.injEq,HO.obj.injEq];unfold begL at hl;rw [he] at hl;unfold begC at he;unfold yx upl0 at he hl;generalize l.getD (atU l id) ⟨0,0,[],[],0⟩=x at *
 (repeat' (first|refine ja ?_ ?_|intro _))<;>first|omega|exact jb|exact jc ‹False›|skip
 all_goals first
  |exact hf.1
  |((repeat(first|rewrite [if_pos (by first|omega|assumption|(simp only [*,or_self,or_true,true_or,or_false,false_or,jf,jg,jd,je,and_self,and_true,true_and];done)|(simp only [*];omega)|(simp [*];done)|(simp [*];omega))] at he|rewrite [if_neg (by first|omega|assumption|(simp only [*,or_self,or_true,true_or,or_false,false_or,jf,jg,jd,je,and_self,and_true,true_and];done)|(simp only [*];omega)|(simp [*];done)|(simp [*];omega))] at he));subst he;((repeat(first|rewrite [if_pos (by first|omega|assumption|(simp only [*,or_self,or_true,true_or,or_false,false_or,jf,jg,jd,je,and_self,and_true,true_and];done)|(simp only [*];omega)|(simp [*];done)|(simp [*];omega))] at hl|rewrite [if_neg (by first|omega|assumption|(simp only [*,or_self,or_true,true_or,or_false,false_or,jf,jg,jd,je,and_self,and_true,true_and];done)|(simp only [*];omega)|(simp [*];done)|(simp [*];omega))] at hl)));subst hl;first|rfl|omega)
def znV:Know Tryz.prog:=⟨156,WS,zfv⟩
def znU:Know Tryz.prog:=⟨156,fun I=>zy I (WS I),zf zfv⟩
def zdT (I:Alg) (args:List D) (hp:List HO):Option CT:=match args,hp with
 |[.v (.one (.ptr 0 0)),.v (.one (.p (.int .i64 id)))],[.pack [.obj 124 [(.row 1),(.p (.int .i64 n))],.row .upl 81 l]]=>(fun(l:List Upl) (n id:Int)=>(some (.one ⟨I.hid (zK l n),(.ret (.v (.one (.p (.int .i64 (I.hid ((endC l id)))))))),[.pack [.obj 124 [(.row 1),(.p (.int .i64 n))],.row .upl 81 (I.hid ((endL l id)))]]⟩):Option CT)) l n id
 |_,_=>none
theorem znQ:zx Tryz.prog 157 (zdT alg):=by
 intro args hp r h;unfold zdT at h;split at h<;>cases h
 rename_i id n l
 revert l;intro(l:List Upl)
 simp only [CT.Good,zi];intro hneed;have hs:=hneed;have hf:=Yf hs;generalize he:endC l id=re;generalize hl:endL l id=rl
 refine spcG zh mixed Tryz.func157 (by kernel_rfl) { zbD with bare:=[58],keep:=some [0,1,4,5,6]} [zch,zcg] (by kernel_rfl) ?_
 intro I X hI hX
 refine orcL ?_;go_invoke;refine orcS (by kernel_rfl) ?_
 simp only [zq,Nat.reduceAdd];subst hI;simp only [nrmA,nrmB,nrlB,reduceCtorEq,HO.pack.injEq,HO.obj.injEq];unfold endL at hl;rw [he] at hl;unfold endC at he;unfold yx upl0 at he hl;generalize l.getD (atU l id) ⟨0,0,[],[],0⟩=x at *
 (repeat' (first|refine ja ?_ ?_|intro _))<;>first|omega|exact jb|exact jc ‹False›|skip
 all_goals first
  |exact hf.1
  |((repeat(first|rewrite [if_pos (by first|omega|assumption|(simp only [*,or_self,or_true,true_or,or_false,false_or,jf,jg,jd,je,and_self,and_true,true_and];done)|(simp only [*];omega)|(simp [*];done)|(simp [*];omega))] at he|rewrite [if_neg (by first|omega|assumption|(simp only [*,or_self,or_true,true_or,or_false,false_or,jf,jg,jd,je,and_self,and_true,true_and];done)|(simp only [*];omega)|(simp [*];done)|(simp [*];omega))] at he));subst he;((repeat(first|rewrite [if_pos (by first|omega|assumption|(simp only [*,or_self,or_true,true_or,or_false,false_or,jf,jg,jd,je,and_self,and_true,true_and];done)|(simp only [*];omega)|(simp [*];done)|(simp [*];omega))] at hl|rewrite [if_neg (by first|omega|assumption|(simp only [*,or_self,or_true,true_or,or_false,false_or,jf,jg,jd,je,and_self,and_true,true_and];done)|(simp only [*];omega)|(simp [*];done)|(simp [*];omega))] at hl)));subst hl;first|rfl|omega)
def zum:Know Tryz.prog:=⟨157,zdT,znQ⟩
def zul:Know Tryz.prog:=⟨157,fun I=>zy I (zdT I),zf znQ⟩
def RZ (I:Alg) (args:List D) (hp:List HO):Option CT:=match args,hp with
 |[.v (.one (.ptr 0 0))],[.pack [.obj 124 [(.row 1),(.p (.int .i64 n))],.row .upl 81 l]]=>(fun(l:List Upl) (n:Int)=>(some (.one ⟨I.hid (0≤n∧n≤1000000),(.ret (.v (.one (.p (.int .i64 (I.hid ((n+1)))))))),[.pack [.obj 124 [(.row 1),(.p (.int .i64 n))],.row .upl 81 l]]⟩):Option CT)) l n
 |_,_=>none
theorem zjK:zx Tryz.prog 217 (RZ alg):=by
 intro args hp r h;unfold RZ at h;split at h<;>cases h
 rename_i n l
 revert l;intro(l:List Upl)
 simp only [CT.Good,zi];intro hneed
 refine spcG zh mixed Tryz.func217 (by kernel_rfl) { zbD with keep:=some [0,2]} [] (by kernel_rfl) ?_
 intro I X hI hX
 refine orcL ?_;go_invoke;refine orcS (by kernel_rfl) ?_
 simp only [zq,Nat.reduceAdd];subst hI;simp only [nrmA,nrmB]
 (repeat' (first|refine ja ?_ ?_|intro _))<;>first|omega|exact jb|exact jc ‹False›|skip
def zrv:Know Tryz.prog:=⟨217,RZ,zjK⟩
def zru:Know Tryz.prog:=⟨217,fun I=>zy I (RZ I),zf zjK⟩
def zdR (I:Alg) (args:List D) (hp:List HO):Option CT:=match args,hp with
 |[],[]=>(fun(_:Unit)=>(some (.one ⟨I.hid (True),(.ret (.v (.one (.ptr 0 0)))),[.pack [.obj 124 [(.row 1),(.p (.int .i64 0))],.row .upl 81 (I.hid ([]))]]⟩):Option CT)) ()
 |_,_=>none
theorem znN:zx Tryz.prog 42 (zdR alg):=by
 intro args hp r h;unfold zdR at h;split at h<;>cases h
 simp only [CT.Good,zi];intro _
 refine spcG zh mixed Tryz.func42 (by kernel_rfl) { zbD with keep:=some [0]} [] (by kernel_rfl) ?_
 intro I X hI hX
 refine orcL ?_;go_invoke;refine orcS (by kernel_rfl) ?_
 simp only [zq,Nat.reduceAdd];trivial
def zhU:Know Tryz.prog:=⟨42,zdR,znN⟩
def zhT:Know Tryz.prog:=⟨42,fun I=>zy I (zdR I),zf znN⟩
def getB (l:List Upl) (id:Int):Bool:=decide (atU l id<l.length)
def getU (l:List Upl) (id:Int):Upl:=if atU l id<l.length then yx l id else upl0
theorem ztd (l:List Upl) (n id:Int) (hneed:zK l n):Spc Tryz.prog 28 [.v (.one (.ptr 0 0)),.v (.one (.p (.int .i64 id)))] [.obj 124 [(.row 1),(.p (.int .i64 n))],.row .upl 81 l] (.ret (.tup [(.agg [(.p (.int .i64 ((getU l id).id))),(.p (.int .i64 ((getU l id).size))),(.p (.str ((getU l id).note))),(.p (.list .byte ((getU l id).bytes))),(.p (.int .i64 ((getU l id).sent)))]),(.one (.p (.bool ((getB l id)))))])) [.obj 124 [(.row 1),(.p (.int .i64 n))],.row .upl 81 l]:=by
 have hs:=hneed;have hf:=Yf hs;generalize he:getU l id=re;obtain⟨a,b,c,d,e⟩:=re;generalize hl:getB l id=rl
 refine spcG zh mixed Tryz.func28 (by kernel_rfl) { zbD with flat:=true,bare:=[58],keep:=some [0,1,4,5,6,7,8]} [ZO,qN,zch,zcg] (by kernel_rfl) ?_
 intro I X hI hX
 refine orcL ?_;go_invoke;refine orcS (by kernel_rfl) ?_
 simp only [zq,Nat.reduceAdd];subst hI;simp only [nrmA,nrmB,nrlB,reduceCtorEq];unfold getU at he;unfold getB at hl;unfold yx upl0 at he;have hx:atU l id<l.length→_:=fun h=>(hs.each _ (vF h)).bl;unfold yx upl0 at hx;generalize l.getD (atU l id) ⟨0,0,[],[],0⟩=x at *
 by_cases h:atU l id<l.length
 · rw [if_pos h] at he
   rw [decide_eq_true h] at hl;subst he;subst hl;have hx:=hx h
   (repeat' (first|refine ja ?_ ?_|intro _))<;>first|omega|exact jb|exact jc ‹False›|skip
   all_goals first|exact hf.1|rfl
 · rw [if_neg h] at he
   rw [decide_eq_false h] at hl;cases he;subst hl
   (repeat' (first|refine ja ?_ ?_|intro _))<;>first|omega|exact jb|exact jc ‹False›|skip
   all_goals first|exact hf.1|rfl|assumption
def Qd (I:Alg) (args:List D) (hp:List HO):Option CT:=match args,hp with
 |[.v (.one (.ptr 0 0)),.v (.one (.p (.int .i64 id)))],[.obj 124 [(.row 1),(.p (.int .i64 n))],.row .upl 81 l]=>(fun(l:List Upl) (n id:Int)=>(some (.one ⟨I.hid (zK l n),(.ret (.tup [(.agg [(.p (.int .i64 (I.hid ((getU l id).id)))),(.p (.int .i64 (I.hid ((getU l id).size)))),(.p (.str (I.hid ((getU l id).note)))),(.p (.list .byte (I.hid ((getU l id).bytes)))),(.p (.int .i64 (I.hid ((getU l id).sent))))]),(.one (.p (.bool (I.hid ((getB l id))))))])),[.obj 124 [(.row 1),(.p (.int .i64 n))],.row .upl 81 l]⟩):Option CT)) l n id
 |_,_=>none
theorem zjM:zx Tryz.prog 28 (Qd alg):=by
 intro args hp r h;unfold Qd at h
 split at h
 · cases h;exact fun hn=>ztd _ _ _ hn
 · cases h
def Zv:Know Tryz.prog:=⟨28,Qd,zjM⟩
def Zu:Know Tryz.prog:=⟨28,fun I=>zy I (Qd I),zf zjM⟩
theorem zxd (l:List Upl) (n id:Int) (hneed:zK l n):Spc Tryz.prog 28 [.v (.one (.ptr 0 0)),.v (.one (.p (.int .i64 id)))] [.pack [.obj 124 [(.row 1),(.p (.int .i64 n))],.row .upl 81 l]] (.ret (.tup [(.agg [(.p (.int .i64 ((getU l id).id))),(.p (.int .i64 ((getU l id).size))),(.p (.str ((getU l id).note))),(.p (.list .byte ((getU l id).bytes))),(.p (.int .i64 ((getU l id).sent)))]),(.one (.p (.bool ((getB l id)))))])) [.pack [.obj 124 [(.row 1),(.p (.int .i64 n))],.row .upl 81 l]]:=
 Spc.packed (ex:=[]) (ztd l n id hneed) rfl (by simp) rfl
def zdS (I:Alg) (args:List D) (hp:List HO):Option CT:=match args,hp with
 |[.v (.one (.ptr 0 0)),.v (.one (.p (.int .i64 id)))],[.pack [.obj 124 [(.row 1),(.p (.int .i64 n))],.row .upl 81 l]]=>(fun(l:List Upl) (n id:Int)=>(some (.one ⟨I.hid (zK l n),(.ret (.tup [(.agg [(.p (.int .i64 (I.hid ((getU l id).id)))),(.p (.int .i64 (I.hid ((getU l id).size)))),(.p (.str (I.hid ((getU l id).note)))),(.p (.list .byte (I.hid ((getU l id).bytes)))),(.p (.int .i64 (I.hid ((getU l id).sent))))]),(.one (.p (.bool (I.hid ((getB l id))))))])),[.pack [.obj 124 [(.row 1),(.p (.int .i64 n))],.row .upl 81 l]]⟩):Option CT)) l n id
 |_,_=>none
theorem znP:zx Tryz.prog 28 (zdS alg):=by
 intro args hp r h;unfold zdS at h
 split at h
 · cases h;exact fun hn=>zxd _ _ _ hn
 · cases h
def XU:Know Tryz.prog:=⟨28,zdS,znP⟩
def XT:Know Tryz.prog:=⟨28,fun I=>zy I (zdS I),zf znP⟩
theorem zuX {l:List Upl} (h:l.Pairwise fun a b=>a.id<b.id) {i:Nat} (hi:i<l.length):getU l (l.getD i ⟨0,0,[],[],0⟩).id=l.getD i ⟨0,0,[],[],0⟩:=by
 have e:l.getD i ⟨0,0,[],[],0⟩=l[i]:=by simp [hi]
 have ha:=zxD h hi;rw [e,getU,ha,if_pos hi,yx,ha]
 simp [hi]
theorem znO (l:List Upl) (n:Int) (hneed:zK l n):Spc Tryz.prog 17 [.v (.one (.ptr 0 0))] [.obj 124 [(.row 1),(.p (.int .i64 n))],.row .upl 81 l] (.ret (.v (.one (.row 2)))) [.obj 124 [(.row 1),(.p (.int .i64 n))],.row .upl 81 l,.row .upl 81 l]:=by
 have hs:=hneed;have hf:=Yf hs
 refine spcG zh mixed Tryz.func17 (by kernel_rfl) { zbD with flat:=true,bare:=[28],nr:=[3],keep:=some [0,2,3,5,6,11,12,13]} [Zv,Zu,XU,XT] (by kernel_rfl) ?_
 intro I X hI hX
 refine orcL ?_;go_invoke;refine orcS (by kernel_rfl) ?_
 simp only [zq,Nat.reduceAdd]
 refine zB hI zh mixed [Zv,Zu,XU,XT] hX [0,3,11,12,13] (fun(g:Nat × List Upl)=>match g with|(i,o)=>i≤l.length∧o=l.take i) (fun(g:Nat × List Upl)=>match g with|(i,o)=>⟨[(0,.v (.one (.ptr 0 0))),(3,.v (.one (.row 2))),(11,.v (.one (.row 1))),(12,.v (.one (.p (.int .i64 ((I.len (α:=Upl) l)))))),(13,.v (.one (.p (.int .i64 i))))],[.obj 124 [(.row 1),(.p (.int .i64 n))],.row .upl 81 l,.row .upl 81 o],30,none⟩) (fun(g:Nat × List Upl)=>match g with|(i,o)=>l.length - i) (0,[]) (by kernel_rfl) (by kernel_rfl) ?_ ?_
 · exact⟨jM _,rfl⟩
 rintro⟨i,o⟩ ⟨h1,h2⟩ A hA;simp only at hA
 refine orcL ?_;go_invoke;refine orcS (by kernel_rfl) ?_
 simp only [zq,Nat.reduceAdd];subst hI;simp only [nrmA,nrmB,nrlB,reduceCtorEq];have hx:i<l.length→_:=zuX hs.srt
 have hy:i<l.length→l.take (i+1)=l.take i++[l.getD i ⟨0,0,[],[],0⟩]:=fun h=>by rw [jB h];simp [h]
 have hw: ¬ i<l.length→o=l:=fun h=>by rw [h2,jq (by omega)]
 have hol:o.length≤i:=by rw [h2,jv];omega
 refine⟨fun c=> ?_,fun c=>hw (by omega)⟩
 rw [hx (by omega)]
 have hy:=hy (by omega)
 generalize l.getD i ⟨0,0,[],[],0⟩=x at *;simp only [jh,ji]
 (repeat' (first|refine ja ?_ ?_|intro _))<;>first|omega|exact jb|exact jc ‹False›|skip
 all_goals first
  |exact hs
  |exact hA (i+1,_) ⟨by simp only;omega,by simp only;rw [hy,h2]⟩ (by simp only;omega)
def WR (I:Alg) (args:List D) (hp:List HO):Option CT:=match args,hp with
 |[.v (.one (.ptr 0 0))],[.obj 124 [(.row 1),(.p (.int .i64 n))],.row .upl 81 l]=>(fun(l:List Upl) (n:Int)=>(some (.one ⟨I.hid (zK l n),(.ret (.v (.one (.row 2)))),[.obj 124 [(.row 1),(.p (.int .i64 n))],.row .upl 81 l,.row .upl 81 l]⟩):Option CT)) l n
 |_,_=>none
theorem zfu:zx Tryz.prog 17 (WR alg):=by
 intro args hp r h;unfold WR at h
 split at h
 · cases h;exact fun hn=>znO _ _ hn
 · cases h
def WQ:Know Tryz.prog:=⟨17,WR,zfu⟩
def WO:Know Tryz.prog:=⟨17,fun I=>zy I (WR I),zf zfu⟩
theorem zvT (l:List Upl) (n:Int) (hneed:zK l n):Spc Tryz.prog 17 [.v (.one (.ptr 0 0))] [.pack [.obj 124 [(.row 1),(.p (.int .i64 n))],.row .upl 81 l]] (.ret (.v (.one (.row 1)))) [.pack [.obj 124 [(.row 1),(.p (.int .i64 n))],.row .upl 81 l],.row .upl 81 l]:=
 Spc.packed (os':=[_,_]) (ex:=[_]) (znO l n hneed) rfl (by simp) rfl
def Qc (I:Alg) (args:List D) (hp:List HO):Option CT:=match args,hp with
 |[.v (.one (.ptr 0 0))],[.pack [.obj 124 [(.row 1),(.p (.int .i64 n))],.row .upl 81 l]]=>(fun(l:List Upl) (n:Int)=>(some (.one ⟨I.hid (zK l n),(.ret (.v (.one (.row 1)))),[.pack [.obj 124 [(.row 1),(.p (.int .i64 n))],.row .upl 81 l],.row .upl 81 l]⟩):Option CT)) l n
 |_,_=>none
theorem zjL:zx Tryz.prog 17 (Qc alg):=by
 intro args hp r h;unfold Qc at h
 split at h
 · cases h;exact fun hn=>zvT _ _ hn
 · cases h
def Qb:Know Tryz.prog:=⟨17,Qc,zjL⟩
def Qa:Know Tryz.prog:=⟨17,fun I=>zy I (Qc I),zf zjL⟩
def Qg (I:Alg) (args:List D) (hp:List HO):Option CT:=match args,hp with
 |[.v (.one (.ptr 0 0))],[.pack [.obj 124 [(.row 1),(.p (.int .i64 n))],.row .upl 81 l]]=>(fun(l:List Upl) (n:Int)=>(some (.one ⟨I.hid (zK l n),(.ret (.v (.one (.ptr 1 0)))),[.pack [.obj 124 [(.row 1),(.p (.int .i64 n))],.row .upl 81 l],.pack [.obj 124 [(.row 1),(.p (.int .i64 n))],.row .upl 81 l]]⟩):Option CT)) l n
 |_,_=>none
theorem zjO:zx Tryz.prog 148 (Qg alg):=by
 intro args hp r h;unfold Qg at h;split at h<;>cases h
 rename_i n l
 revert l;intro(l:List Upl)
 simp only [CT.Good,zi];intro hneed
 refine spcG zh mixed Tryz.func148 (by kernel_rfl) { zbD with keep:=some [0,2]} [WQ,WO,Qb,Qa] (by kernel_rfl) ?_
 intro I X hI hX
 refine orcL ?_;go_invoke;refine orcS (by kernel_rfl) ?_
 simp only [zq,Nat.reduceAdd];subst hI;simp only [nrmA,nrmB,nrlB,reduceCtorEq,HO.pack.injEq,HO.obj.injEq];exact⟨hneed,hneed⟩
def zrA:Know Tryz.prog:=⟨148,Qg,zjO⟩
def zrz:Know Tryz.prog:=⟨148,fun I=>zy I (Qg I),zf zjO⟩
def RH (I:Alg) (args:List D) (hp:List HO):Option CT:=match args,hp with
 |[.v (.agg [(.p (.int .i64 a)),(.p (.int .i64 b)),(.p (.str m)),(.p (.list .byte y)),(.p (.int .i64 t))]),.v (.one (.ptr 0 0))],[.pack [.obj 3 [(.p (.int .i64 d))]]]=>(fun(a b:Int) (m y:Str) (t d:Int)=>(some (.one ⟨I.hid (True),(.ret (.v (.one (.p (.bool (I.hid ((a == d)))))))),[.pack [.obj 3 [(.p (.int .i64 d))]]]⟩):Option CT)) a b m y t d
 |_,_=>none
theorem zjx:zx Tryz.prog 204 (RH alg):=by
 intro args hp r h;unfold RH at h;split at h<;>cases h
 rename_i a b m y t d;simp only [CT.Good,zi];intro _
 refine spcG zh mixed Tryz.func204 (by kernel_rfl) { keep:=some [0,1,2,3]} [] (by kernel_rfl) ?_
 intro I X hI hX
 refine orcL ?_;go_invoke;refine orcS (by kernel_rfl) ?_
 simp only [zq,Nat.reduceAdd];subst hI;simp only [nrmA,nrmB,nrlB,reduceCtorEq,HO.pack.injEq,HO.obj.injEq]
def WG:Know Tryz.prog:=⟨204,RH,zjx⟩
def zrb:Know Tryz.prog:=⟨204,fun I=>zy I (RH I),zf zjx⟩
def RG (I:Alg) (args:List D) (hp:List HO):Option CT:=match args,hp with
 |[.v (.one (.p (.list .upl l))),.v (.one (.fn 204 [.ptr 0 0]))],[.pack [.obj 3 [(.p (.int .i64 d))]]]=>(fun(l:List Upl) (d:Int)=>(some (.one ⟨I.hid (l.length≤1000000),(.ret (.v (.one (.p (.int .i64 (I.hid ((ixU l d)))))))),[.pack [.obj 3 [(.p (.int .i64 d))]]]⟩):Option CT)) l d
 |_,_=>none
theorem zjw:zx Tryz.prog 100 (RG alg):=by
 intro args hp r h;unfold RG at h;split at h<;>cases h
 rename_i l d
 revert l;intro(l:List Upl)
 simp only [CT.Good,zi];intro hneed
 refine spcG zh mixed Tryz.func100 (by kernel_rfl) { keep:=some [0,1,4,5,7,8]} [WG,UU,UR] (by kernel_rfl) ?_
 intro I X hI hX
 refine orcL ?_;go_invoke;refine orcS (by kernel_rfl) ?_
 simp only [zq,Nat.reduceAdd]
 refine zB hI zh mixed [WG,UU,UR] hX [0,1,7,8] (fun(i:Nat)=>i≤l.length∧i≤atU l d) (fun(i:Nat)=>⟨[(0,.v (.one (.p (.list .upl l)))),(1,.v (.one (.fn 204 [.ptr 0 0]))),(7,.v (.one (.p (.int .i64 ((I.len (α:=Upl) l)))))),(8,.v (.one (.p (.int .i64 i))))],[.pack [.obj 3 [(.p (.int .i64 d))]]],19,none⟩) (fun(i:Nat)=>l.length - i) 0 (by kernel_rfl) (by kernel_rfl) ?_ ?_
 · exact⟨jM _,jM _⟩
 rintro i ⟨h1,h2⟩ A hA
 refine orcL ?_;go_invoke;refine orcS (by kernel_rfl) ?_
 simp only [zq,Nat.reduceAdd];subst hI;simp only [nrmA,nrmB];have hx:=fun h=>zlJ (l:=l) (id:=d) (i:=i) h h2;have hle:=zqI l d;have e0:(⟨0,0,[],[],0⟩:Upl)=upl0:=rfl;simp only [e0];unfold ixU
 (repeat' (first|refine ja ?_ ?_|intro _))<;>first|omega|exact jb|exact jc ‹False›|skip
 all_goals first
  |(have h3:=hx (by omega);rw [if_pos (by assumption)] at h3;rw [if_pos (by omega),h3])
  |(have h3:=hx (by omega);rw [if_neg (by assumption)] at h3;exact hA (i+1) ⟨by omega,h3⟩ (by omega))
  |(rw [if_neg (by omega)])
def zjv:Know Tryz.prog:=⟨100,RG,zjw⟩
def zju:Know Tryz.prog:=⟨100,fun I=>zy I (RG I),zf zjw⟩
def notU (d:Int) (u:Upl):Bool:= !(u.id == d)
def RI (I:Alg) (args:List D) (hp:List HO):Option CT:=match args,hp with
 |[.v (.one (.row 0)),.v (.one (.fn 204 [.ptr 1 0]))],[.row .upl 81 l,.pack [.obj 3 [(.p (.int .i64 d))]]]=>(fun(l:List Upl) (d:Int)=>(some (.one ⟨I.hid (l.length≤1000000),(.ret (.v (.one (.row 2)))),[.gone,.pack [.obj 3 [(.p (.int .i64 d))]],.row .upl 81 (I.hid ((l.filter (notU d))))]⟩):Option CT)) l d
 |_,_=>none
theorem zjy:zx Tryz.prog 203 (RI alg):=by
 intro args hp r h;unfold RI at h;split at h<;>cases h
 rename_i l d
 revert l;intro(l:List Upl)
 simp only [CT.Good,zi];intro hneed
 refine spcG zh mixed Tryz.func203 (by kernel_rfl) { mv:=[0],cut:=[4],keep:=some [0,1,4,5,6,7]} [WG,UU,UR,zjv,zju] (by kernel_rfl) ?_
 intro I X hI hX
 refine orcL ?_;go_invoke;refine orcS (by kernel_rfl) ?_
 simp only [zq,Nat.reduceAdd]
 have hfd: ∀ i,i≤atU l d→(l.take i).filter (notU d)=l.take i:=fun i hi=>List.filter_eq_self.2 fun u hu=>by
  obtain⟨j,hj⟩:=List.getElem?_of_mem hu;rw [jD] at hj
  split at hj
  · rename_i hji
    obtain⟨hjl,he⟩:=jl.1 hj
    have:=List.not_of_lt_findIdx (p:=fun u:Upl=>u.id == d) (xs:=l) (i:=j) (by unfold atU at hi;omega)
    rw [← he]
    simpa [notU] using this
  · cases hj
 by_cases hk:atU l d<l.length
 · have hix:=zpe hk
   have e1:I.hid (ixU l d)=((atU l d:Nat):Int):=by subst hI;exact hix
   have e2:I.add ((atU l d:Nat):Int) 1=((atU l d+1:Nat):Int):=by subst hI;rfl
   rw [e1,e2]
   have hst:(l.take (atU l d+1)).filter (notU d)=l.take (atU l d):=by
    rw [jB hk,List.filter_append,hfd _ (jL _)];have:=YP hk;rw [vw hk] at this
    simp [notU,this]
   have hu0:=YP hk;generalize atU l d=k at *
   refine⟨by subst hI;exact hneed,fun h=> ?_,fun _=>⟨by subst hI;rw [YK,Tc,Td];omega,?_⟩⟩
   · subst hI
     simp only [nrmA,nrmB] at h;omega
   refine zB hI zh mixed [WG,UU,UR,zjv,zju] hX [0,1,5,6] (fun(g:Nat × Nat × List Upl)=>match g with|(i,j,c)=>i<j∧j≤l.length∧c.length=l.length∧c.take i=(l.take j).filter (notU d)∧c.drop j=l.drop j) (fun(g:Nat × Nat × List Upl)=>match g with|(i,j,c)=>⟨[(0,.v (.one (.row 2))),(1,.v (.one (.fn 204 [.ptr 1 0]))),(5,.v (.one (.p (.int .i64 i)))),(6,.v (.one (.p (.int .i64 j))))],[.gone,.pack [.obj 3 [(.p (.int .i64 d))]],.row .upl 81 c],42,none⟩) (fun(g:Nat × Nat × List Upl)=>match g with|(i,j,c)=>l.length - j) (k,k+1,l) (by kernel_rfl) (by kernel_rfl) ?_ ?_
   · exact⟨by omega,by omega,rfl,hst.symm,rfl⟩
   rintro⟨i,j,c⟩ ⟨h1,h2,h3,h4,h5⟩ A hA;simp only at hA h1 h2 h3 h4 h5
   refine orcL ?_;go_invoke;refine orcS (by kernel_rfl) ?_
   simp only [zq,Nat.reduceAdd];subst hI;simp only [nrmA,nrmB,nrlB,reduceCtorEq]
   have hx:j<l.length→c.getD j ⟨0,0,[],[],0⟩=l.getD j ⟨0,0,[],[],0⟩:=fun h=>by
    have e:=congrArg (fun m:List Upl=>m[0]?) h5;simp only [jG,Nat.add_zero] at e;simp only [jH,e]
   have hf:j<l.length→(l.take (j+1)).filter (notU d)=(l.take j).filter (notU d)++(if notU d (l.getD j ⟨0,0,[],[],0⟩) then [l.getD j ⟨0,0,[],[],0⟩] else []):=fun h=>by
    rw [jB h,List.filter_append]
    simp [h,List.filter_cons]
   have hdr: ∀ c':List Upl,c'.drop j=l.drop j→c'.drop (j+1)=l.drop (j+1):=fun c' h=>by
    have:=congrArg (List.drop 1) h
    simpa [List.drop_drop] using this
   have hend: ¬ j<l.length→c.take i=l.filter (notU d):=fun h=>by rw [h4,jq (by omega)]
   rw [show(c.length:Int)=(l.length:Int) by rw [h3]]
   have hset: ∀ u:Upl,i<c.length→(c.set i u).take (i+1)=c.take i++[u]:=fun u h=>by
    rw [jB (by rw [List.length_set];exact h),List.getElem_set_self,List.take_set_of_le (jL _)]
   have hsd: ∀ u:Upl,(c.set i u).drop j=l.drop j:=fun u=>by rw [List.drop_set_of_lt h1,h5]
   refine⟨fun c1=> ?_,fun c1=> ?_⟩
   · have hj:j<l.length:=by omega
     rw [hx hj];have hf:=hf hj;generalize l.getD j ⟨0,0,[],[],0⟩=x at *
     (repeat' (first|refine ja ?_ ?_|intro _))<;>first|omega|exact jb|exact jc ‹False›|skip
     · rename_i hne
       refine hA (i+1,j+1,c.set i x) ⟨by simp only;omega,by simp only;omega,by simp only [List.length_set];exact h3,?_,hdr _ (hsd x)⟩ (by simp only;omega)
       simp only
       rw [hset x (by omega),hf,if_pos (by simp [notU,hne]),h4]
     · rename_i heq
       refine hA (i,j+1,c) ⟨by simp only;omega,by simp only;omega,h3,?_,hdr _ h5⟩ (by simp only;omega)
       simp only
       rw [hf,if_neg (by simp [notU,heq]),List.append_nil,h4]
   · have he:=hend (by omega)
     have hl:(c.take i).length=i:=by rw [jv];omega
     (repeat' (first|refine ja ?_ ?_|intro _))<;>first|omega|exact jb|exact jc ‹False›|skip
     all_goals first
      |(simp only [jk,jv,List.length_replicate];omega)
      |(rw [List.take_append_of_le_length (by omega),List.take_take,Nat.min_self,he])
 · have hix:=zpf hk
   have e1:I.hid (ixU l d)=(-1:Int):=by subst hI;exact hix
   rw [e1]
   have hall:l.filter (notU d)=l:=by
    have:=hfd l.length (by have:=zqI l d;omega)
    rwa [List.take_length] at this
   rw [hall]
   refine⟨by subst hI;exact hneed,fun _=>⟨trivial,rfl⟩,fun h=> ?_⟩
   subst hI
   simp [alg] at h
def zre:Know Tryz.prog:=⟨203,RI,zjy⟩
def zrd:Know Tryz.prog:=⟨203,fun I=>zy I (RI I),zf zjy⟩
def Qe (I:Alg) (args:List D) (hp:List HO):Option CT:=match args,hp with
 |[.v (.one (.ptr 0 0)),.v (.one (.p (.int .i64 id)))],[.pack [.obj 124 [(.row 1),(.p (.int .i64 n))],.row .upl 81 l]]=>(fun(l:List Upl) (n id:Int)=>(some (.one ⟨I.hid (zK l n),(.ret (.v (.one (.p (.int .i64 (I.hid ((droC l id)))))))),[.pack [.obj 124 [(.row 1),(.p (.int .i64 n))],.row .upl 81 (I.hid ((droL l id)))]]⟩):Option CT)) l n id
 |_,_=>none
theorem zjN:zx Tryz.prog 155 (Qe alg):=by
 intro args hp r h;unfold Qe at h;split at h<;>cases h
 rename_i id n l
 revert l;intro(l:List Upl)
 simp only [CT.Good,zi];intro hneed;have hs:=hneed;have hf:=Yf hs;have hfl:l.filter (notU id)=droL l id:=zpS hs.srt id;generalize he:droC l id=re;generalize hl:droL l id=rl at hfl
 refine spcG zh mixed Tryz.func155 (by kernel_rfl) { zbD with bare:=[58],keep:=some [0,1,3,4,6]} [zch,zcg,WG,zrb,zre,zrd] (by kernel_rfl) ?_
 intro I X hI hX
 refine orcL ?_;go_invoke;refine orcS (by kernel_rfl) ?_
 simp only [zq,Nat.reduceAdd];subst hI;simp only [nrmA,nrmB,nrlB,reduceCtorEq,HO.pack.injEq,HO.obj.injEq];unfold droC at he
 (repeat' (first|refine ja ?_ ?_|intro _))<;>first|omega|exact jb|exact jc ‹False›|skip
 all_goals first
  |exact hf.1
  |exact hfl
  |((repeat(first|rewrite [if_pos (by first|omega|assumption|(simp only [*,or_self,or_true,true_or,or_false,false_or,jf,jg,jd,je,and_self,and_true,true_and];done)|(simp only [*];omega)|(simp [*];done)|(simp [*];omega))] at he|rewrite [if_neg (by first|omega|assumption|(simp only [*,or_self,or_true,true_or,or_false,false_or,jf,jg,jd,je,and_self,and_true,true_and];done)|(simp only [*];omega)|(simp [*];done)|(simp [*];omega))] at he));subst he;rfl)
  |(rw [← hl];unfold droL;rw [List.eraseIdx_of_length_le (by omega)])
def zry:Know Tryz.prog:=⟨155,Qe,zjN⟩
def zrx:Know Tryz.prog:=⟨155,fun I=>zy I (Qe I),zf zjN⟩
end Go.Proofs.YtkjepecoodjbmaaGreatDoor
namespace Go.Jrn
open Go Go.Ab
def sevF:Nat→Nat→Str
 |0,u=>[UInt8.ofNat u]
 |f+1,u=>if u<128 then [UInt8.ofNat u] else UInt8.ofNat (u % 128+128)::sevF f (u / 128)
def sev (u:Nat):Str:=sevF 9 u
theorem zfo: ∀ (f u:Nat),u<128 ^ (f+1)→∀ g,f≤g→sevF g u=sevF f u
 | 0,u,h,g,_=>by
   cases g with
   |zero=>rfl
   |succ g=>simp only [sevF];rw [if_pos (by simpa using h)]
 | f +1,u,h,g,hg=>by
   cases g with
   |zero=>omega
   | succ g=>
     rw [sevF,sevF]
     split
     · rfl
     · rw [zfo f (u / 128) (by rw [Nat.div_lt_iff_lt_mul (by omega)];rw [Nat.pow_succ] at h;exact h) g (by omega)]
theorem Yi {u:Nat} (h:u<128):sev u=[UInt8.ofNat u]:=by rw [sev,sevF,if_pos h]
theorem zdP {u:Nat} (h:128≤u) (hu:u<128 ^ 9):sev u=UInt8.ofNat (u % 128+128)::sev (u / 128):=by
 rw [sev,sevF,if_neg (by omega),sev,zfo 8 (u / 128) (Nat.lt_of_le_of_lt (Nat.div_le_self _ _) hu) 9 (by omega)]
theorem xJ (u:Nat):1≤(sev u).length∧(sev u).length≤10:=by
 have h: ∀ f u,1≤(sevF f u).length∧(sevF f u).length≤f+1:=by
  intro f
  induction f with
  |zero=>intro u;exact⟨jL _,jL _⟩
  | succ f ih=>
    intro u;rw [sevF]
    split
    · simp
    · have:=ih (u / 128);simp;omega
 exact h 9 u
def numF (i u:Nat):Str→Int × Str × Bool
 |[]=>(0,[],false)
 | c::r=>if 5≤i then(0,[],false) else
   if c.toNat<128 then((u+c.toNat * 128 ^ i:Nat) - 1,r,decide (i=0∨0<c.toNat)) else numF (i+1) (u+c.toNat % 128 * 128 ^ i) r
def num (b:Str):Int × Str × Bool:=numF 0 0 b
def numK (i:Nat):Str→Nat
 |[]=>i
 |c::r=>if 5≤i then i else if c.toNat<128 then i+1 else numK (i+1) r
theorem zfX (b:Str): ∀ (i u:Nat) (l:Str),b.drop i=l→(numF i u l).2.2=true→(numF i u l).2.1=b.drop (numK i l)∧i<numK i l
 |i,u,[],h,ht=>by simp [numF] at ht
 | i, u,c::r,h,ht=>by
   rw [numF] at ht ⊢;rw [numK]
   split at ht
   · cases ht
   · rename_i h5
     rw [if_neg h5,if_neg h5]
     have hr:b.drop (i+1)=r:=by rw [← List.drop_drop,h];rfl
     split
     · rename_i hc;rw [if_pos hc] at ht;exact⟨hr.symm,by omega⟩
     · rename_i hc
       rw [if_neg hc] at ht;have:=zfX b (i+1) _ r hr ht
       exact⟨this.1,by omega⟩
theorem zoV {b:Str} {i:Nat} (u:Nat) (h:i<b.length) (h5:i<5):numF i u (b.drop i)=
  if(b.getD i 0).toNat<128 then(((u+(b.getD i 0).toNat * 128 ^ i:Nat):Int) - 1,b.drop (i+1),decide (i=0∨0<(b.getD i 0).toNat)) else numF (i+1) (u+(b.getD i 0).toNat % 128 * 128 ^ i) (b.drop (i+1)):=by
 rw [jE h,numF,if_neg (by omega)]
 have:b.getD i 0=b[i]:=by simp [h]
 rw [this]
theorem zr6 {b:Str} {i:Nat} (u:Nat) (h:b.length≤i∨5≤i):numF i u (b.drop i)=(0,[],false):=by
 cases hd:b.drop i with
 |nil=>rfl
 | cons c r=>
   have:i<b.length:=by
    rcases Nat.lt_or_ge i b.length with h1|h1
    · exact h1
    · rw [jF h1] at hd;cases hd
   rw [numF,if_pos (by omega)]
def few (n:Int):Bool:=decide (-1≤n)&&decide (n<1073741824)
def mayM (e:Ent):Bool:=decide (1≤e.kind)&&decide (e.kind≤6)&&few e.id&&few e.n&&decide (e.text.length<1048576)
def enc3 (e:Ent):Str:=sev (e.kind+1).toNat++sev (e.id+1).toNat++sev (e.n+1).toNat++e.text
def encB (e:Ent):Str:=sev ((enc3 e).length+1)++enc3 e
def encM (e:Ent):Str:=if mayM e then encB e else []
def encC (e:Ent):Int:=if mayM e then 0 else 1
def three (b:Str):Option (Int × Int × Int × Str):=
 match num b with
 | (k,r,true)=>(match num r with
   | (i,r,true)=>(match num r with
     |(n,r,true)=>some (k,i,n,r)
     |_=>none)
   |_=>none)
 |_=>none
def thr (j:Nat) (a b c:Int) (s:Str):Option (Int × Int × Int × Str):=
 match j with
 |0=>three s
 | 1 =>(match num s with
   | (i,r,true)=>(match num r with
     |(n,r,true)=>some (a,i,n,r)
     |_=>none)
   |_=>none)
 | 2=>(match num s with
   |(n,r,true)=>some (a,b,n,r)
   |_=>none)
 |_=>some (a,b,c,s)
def oneX (b:Str):Ent × Str × Bool:=
 match num b with
 | (n,r,true)=>if n<0∨(r.length:Int)<n then(⟨0,0,0,[]⟩,[],false) else
   match three (r.take n.toNat) with
   |some (k,i,m,t)=>(⟨k,i,m,t⟩,r.drop n.toNat,mayM ⟨k,i,m,t⟩)
   |none=>(⟨0,0,0,[]⟩,[],false)
 |_=>(⟨0,0,0,[]⟩,[],false)
def oneM (b:Str):Option (Ent × Str):=if(oneX b).2.2 then some ((oneX b).1,(oneX b).2.1) else none
def decF:Nat→Str→List Ent × Str
 |0,b=>([],b)
 | f+1,b=>match oneM b with
   |some (e,r)=>(e::(decF f r).1,(decF f r).2)
   |none=>([],b)
def dec (b:Str):List Ent × Str:=decF b.length b
theorem zaT {b:Str} (h:(num b).2.2=true):(num b).2.1.length<b.length:=by
 obtain⟨h1,h2⟩:=zfX b 0 0 b rfl h;rw [num,h1,jC]
 cases b with
 |nil=>simp [num,numF] at h
 |cons c r=>simp;omega
theorem zoW: ∀ (l:Str) (i u:Nat),(numF i u l).2.1.length≤l.length
 |[],i,u=>jL _
 | c ::r,i,u=>by
   rw [numF]
   split
   · simp
   · split
     · simp
     · have:=zoW r (i+1) (u+c.toNat % 128 * 128 ^ i);simp;omega
theorem zaU (b:Str):(num b).2.1.length≤b.length:=zoW b 0 0
theorem zoP {b:Str} (h:(oneX b).2.2=true):(oneX b).2.1.length<b.length:=by
 unfold oneX at h ⊢
 split at h
 · rename_i n r0 hn
   have:=zaT (b:=b) (by rw [hn])
   rw [hn] at this;simp only at this
   split at h
   · cases h
   · rename_i hc
     rw [if_neg hc]
     split at h
     · rename_i ht;simp only [ht];simp;omega
     · cases h
 · cases h
theorem zef {b:Str} {e:Ent} {r:Str} (h:oneM b=some (e,r)):r.length<b.length:=by
 unfold oneM at h
 split at h
 · rename_i hx
   simp only [jw,Prod.mk.injEq] at h;rw [← h.2];exact zoP hx
 · cases h
theorem zoR {s:Str} (h:(num s).2.2=false):oneM s=none:=by
 rw [oneM,oneX,show num s=((num s).1,(num s).2.1,false) by rw [← h]];rfl
theorem zr4 {s:Str} (h:(num s).1<0∨((num s).2.1.length:Int)<(num s).1):oneM s=none:=by
 cases hk:(num s).2.2 with
 |false=>exact zoR hk
 | true=>
   have hx:oneX s=(⟨0,0,0,[]⟩,[],false):=by
    unfold oneX
    rw [show num s=((num s).1,(num s).2.1,true) by rw [← hk]]
    simp only;rw [if_pos h]
   rw [oneM,hx];rfl
theorem zhj: ∀ (f:Nat) (b:Str),b.length≤f→∀ g,b.length≤g→decF f b=decF g b
 | 0,b,h,g,hg=>by
   have:b=[]:=List.eq_nil_of_length_eq_zero (by omega)
   subst this
   cases g with
   |zero=>rfl
   |succ g=>rfl
 | f + 1,b,h,g,hg=>by
   cases g with
   | zero=>
     have:b=[]:=List.eq_nil_of_length_eq_zero (by omega)
     subst this;rfl
   | succ g=>
     rw [decF,decF]
     cases ho:oneM b with
     |none=>rfl
     | some p=>
       obtain⟨e,r⟩:=p;have:=zef ho;simp only
       rw [zhj f r (by omega) g (by omega)]
theorem zeF {b:Str} {e:Ent} {r:Str} (h:oneM b=some (e,r)):dec b=(e::(dec r).1,(dec r).2):=by
 have hl:=zef h
 obtain⟨n,hn⟩: ∃ n,b.length=n+1:=⟨b.length - 1,by omega⟩
 unfold dec;rw [hn,decF,h];simp only
 rw [zhj n r (by omega) r.length (jL _)]
theorem zeG {b:Str} (h:oneM b=none):dec b=([],b):=by
 unfold dec
 cases b with
 |nil=>rfl
 |cons c r=>rw [jh,decF,h]
theorem zlo: ∀ (f:Nat) (b:Str),(decF f b).1.length+(decF f b).2.length≤b.length
 |0,b=>by simp [decF]
 | f +1,b=>by
   rw [decF]
   cases ho:oneM b with
   |none=>simp
   | some p=>
     obtain⟨e,r⟩:=p;have:=zef ho;have:=zlo f r;simp only [jh];omega
theorem zqj (b:Str):(dec b).1.length+(dec b).2.length≤b.length:=zlo _ b
end Go.Jrn
namespace Go.Proofs.YtkjepecoodjbmaaGreatDoor
open Go Go.Sep Go.Ab Go.Jrn
set_option maxRecDepth 100000
theorem zxp: ∀ u:Nat,u<256→IntKind.u8.wrap ((BitVec.ofInt IntKind.u8.bits (u:Int)|||BitVec.ofInt IntKind.u8.bits 128).toNat:Int)=((u % 128+128:Nat):Int):=by decide+kernel
theorem zw4: ∀ u:Nat,u<256→IntKind.u8.wrap ((BitVec.ofInt IntKind.u8.bits (u:Int)&&& BitVec.ofInt IntKind.u8.bits 127).toNat:Int)=((u % 128:Nat):Int):=by decide+kernel
theorem wrap_u8 (u:Nat):IntKind.u8.wrap (u:Int)=((u % 256:Nat):Int):=by
 unfold IntKind.wrap
 simp only [show IntKind.u8.signed=false by decide,show IntKind.u8.bits=8 by decide,Bool.false_and,jd,if_false]
 show(u:Int) % 256=_
 omega
theorem wrap_i64 (u:Int) (h: -9223372036854775808≤u∧u≤9223372036854775807):IntKind.i64.wrap u=u:=zai (k:=.i64) (by rw [YK,Tc,Td];exact h)
theorem wrap_u64 (u:Int) (h:0≤u∧u≤9223372036854775807):IntKind.u64.wrap u=u:=zai (k:=.u64) (by
 rw [YK,show IntKind.u64.min=0 by decide,show IntKind.u64.max=18446744073709551615 by decide];omega)
theorem zwd (u x i:Nat) (hu:u<2 ^ (7 * i)) (hx:x<128) (hi:i≤4):
  IntKind.i64.wrap ((BitVec.ofInt IntKind.i64.bits (u:Int)|||BitVec.ofInt IntKind.i64.bits ((x * 2 ^ (7 * i):Nat):Int)).toNat:Int)=((u+x * 2 ^ (7 * i):Nat):Int):=by
 have h2:2 ^ (7 * i)≤2 ^ 28:=Nat.pow_le_pow_right (by omega) (by omega)
 have h3:x * 2 ^ (7 * i)≤127 * 2 ^ 28:=Nat.mul_le_mul (by omega) h2
 have e:(BitVec.ofInt IntKind.i64.bits (u:Int)|||BitVec.ofInt IntKind.i64.bits ((x * 2 ^ (7 * i):Nat):Int)).toNat=u+x * 2 ^ (7 * i):=by
  rw [BitVec.toNat_or,BitVec.ofInt_natCast,BitVec.ofInt_natCast,BitVec.toNat_ofNat,BitVec.toNat_ofNat,show IntKind.i64.bits=64 by decide,
   Nat.mod_eq_of_lt (show u<2 ^ 64 by omega),Nat.mod_eq_of_lt (show x * 2 ^ (7 * i)<2 ^ 64 by omega),Nat.or_comm,← Nat.shiftLeft_eq,← Nat.shiftLeft_add_eq_or_of_lt hu,Nat.add_comm]
 rw [e,wrap_i64];omega
theorem shr7 (u:Nat):(u:Int).fdiv (2 ^ min (Int.toNat 7) 64)=((u / 128:Nat):Int):=by
 show(u:Int).fdiv 128=_
 rw [Int.fdiv_eq_ediv_of_nonneg _ (by decide)]
 omega
def zj9 (I:Alg) (args:List D) (hp:List HO):Option CT:=match args,hp with
 |[.v (.one (.row 0)),.v (.one (.p (.int .i64 n)))],[.row .byte 5 l]=>(fun(l:Str) (n:Int)=>(some (.one ⟨I.hid (-1≤n∧n<34359738368∧l.length≤50000000),(.ret (.v (.one (.row 1)))),[.gone,.row .byte 5 (I.hid ((l++sev (n+1).toNat)))]⟩):Option CT)) l n
 |_,_=>none
theorem ztj:zx Tryz.prog 198 (zj9 alg):=by
 intro args hp r h;unfold zj9 at h;split at h<;>cases h
 rename_i n l;simp only [CT.Good,zi];intro hneed
 refine spcG zh mixed Tryz.func198 (by kernel_rfl) { mv:=[0],keep:=some [0,1,4,5]} [] (by kernel_rfl) ?_
 intro I X hI hX
 refine orcL ?_;go_invoke;refine orcS (by kernel_rfl) ?_
 simp only [zq,Nat.reduceAdd]
 refine⟨(by rw [hI];simp only [nrmA,nrmB];omega),?_⟩
 refine zB hI zh mixed [] hX [0,5] (fun(g:Str × Int)=>match g with|(m,u)=>0≤u∧u<68719476736∧m++sev u.toNat=l++sev (n+1).toNat) (fun(g:Str × Int)=>match g with|(m,u)=>⟨[(0,.v (.one (.row 1))),(5,.v (.one (.p (.int .u64 u))))],[.gone,.row .byte 5 m],24,none⟩) (fun(g:Str × Int)=>match g with|(m,u)=>u.toNat) (l,I.wrap .u64 (I.add n 1)) (by kernel_rfl) (by kernel_rfl) ?_ ?_
 · subst hI
   simp only;simp only [nrmA,nrmB]
   rw [wrap_u64 _ (by omega)]
   exact⟨by omega,by omega,rfl⟩
 rintro⟨m,u⟩ ⟨h0,h1,h2⟩ A hA;obtain⟨u,rfl⟩:=Int.eq_ofNat_of_zero_le h0;simp only [jJ] at h2;simp only at hA;generalize hu':(u:Int)=u' at *
 refine orcL ?_;go_invoke;refine orcS (by kernel_rfl) ?_
 simp only [zq,Nat.reduceAdd];subst hI hu';simp only [nrmA,nrmB];have hml:=congrArg List.length h2;have hs1:=xJ u;have hs2:=xJ (n+1).toNat;simp only [jk] at hml
 have hu8:u % 256 % 128=u % 128:=by omega
 rw [wrap_u8 u,zxp _ (by omega),shr7,hu8,jJ,jJ]
 have h64:((IntKind.u64.bits:Nat):Int)=64:=by decide
 simp only [jh,ji,h64]
 (repeat' (first|refine ja ?_ ?_|intro _))<;>first|omega|exact jb|exact jc ‹False›|skip
 · have hb:=zdP (u:=u) (by omega) (by omega)
   refine hA (m++[UInt8.ofNat (u % 128+128)],(u / 128:Nat)) ⟨by omega,by omega,?_⟩ (by simp only;omega)
   rw [jJ,← h2,hb,jo];rfl
 · rw [← h2,Yi (by omega),show u % 256=u by omega]
def zti:Know Tryz.prog:=⟨198,zj9,ztj⟩
def zth:Know Tryz.prog:=⟨198,fun I=>zy I (zj9 I),zf ztj⟩
def zk4 (I:Alg) (args:List D) (hp:List HO):Option CT:=match args,hp with
 |[.v (.one (.p (.int .i64 n)))],[]=>(fun(n:Int)=>(some (.one ⟨I.hid (True),(.ret (.v (.one (.p (.bool (I.hid (few n))))))),[]⟩):Option CT)) n
 |_,_=>none
theorem ztJ:zx Tryz.prog 238 (zk4 alg):=by
 intro args hp r h;unfold zk4 at h;split at h<;>cases h
 rename_i n;simp only [CT.Good,zi];intro _
 refine spcG zh mixed Tryz.func238 (by kernel_rfl) { keep:=some [0,2]} [] (by kernel_rfl) ?_
 intro I X hI hX
 refine orcL ?_;go_invoke;refine orcS (by kernel_rfl) ?_
 simp only [zq,Nat.reduceAdd];subst hI;simp only [nrmA,nrmB];unfold few
 (repeat' (first|refine ja ?_ ?_|intro _))<;>first|omega|exact jb|exact jc ‹False›|skip
 · simp [*]
 · simp [*]
def zwE:Know Tryz.prog:=⟨238,zk4,ztJ⟩
def zwD:Know Tryz.prog:=⟨238,fun I=>zy I (zk4 I),zf ztJ⟩
def zkx (I:Alg) (args:List D) (hp:List HO):Option CT:=match args,hp with
 |[.v (.agg [(.p (.int .i64 k)),(.p (.int .i64 i)),(.p (.int .i64 n)),(.p (.list .byte t))])],[]=>(fun(k i n:Int) (t:Str)=>(some (.one ⟨I.hid (True),(.ret (.v (.one (.p (.bool (I.hid (mayM ⟨k,i,n,t⟩))))))),[]⟩):Option CT)) k i n t
 |_,_=>none
theorem ztv:zx Tryz.prog 197 (zkx alg):=by
 intro args hp r h;unfold zkx at h;split at h<;>cases h
 rename_i k i n t;simp only [CT.Good,zi];intro _
 refine spcG zh mixed Tryz.func197 (by kernel_rfl) { keep:=some [0,1,2,3]} [zwE,zwD] (by kernel_rfl) ?_
 intro I X hI hX
 refine orcL ?_;go_invoke;refine orcS (by kernel_rfl) ?_
 simp only [zq,Nat.reduceAdd];subst hI;simp only [nrmA,nrmB];unfold mayM
 (repeat' (first|refine ja ?_ ?_|intro _))<;>first|omega|exact jb|exact jc ‹False›|skip
 all_goals simp [*]<;>omega
def zkw:Know Tryz.prog:=⟨197,zkx,ztv⟩
def zkv:Know Tryz.prog:=⟨197,fun I=>zy I (zkx I),zf ztv⟩
def zkL (I:Alg) (args:List D) (hp:List HO):Option CT:=match args,hp with
 |[.v (.one (.p (.list .byte b)))],[]=>(fun(b:Str)=>(some (.one ⟨I.hid (True),(.ret (.tup [(.one (.p (.int .i64 (I.hid ((num b).1))))),(.one (.p (.list .byte (I.hid ((num b).2.1))))),(.one (.p (.bool (I.hid ((num b).2.2)))))])),[]⟩):Option CT)) b
 |_,_=>none
theorem ztF:zx Tryz.prog 200 (zkL alg):=by
 intro args hp r h;unfold zkL at h;split at h<;>cases h
 rename_i b;simp only [CT.Good,zi];intro _
 refine spcG zh mixed Tryz.func200 (by kernel_rfl) { rl:=[1],keep:=some [0,2,3,4,5,6,9,10]} [] (by kernel_rfl) ?_
 intro I X hI hX
 refine orcL ?_;go_invoke;refine orcS (by kernel_rfl) ?_
 simp only [zq,Nat.reduceAdd];generalize hr:num b=r;obtain⟨r1,r2,r3⟩:=r
 refine zB hI zh mixed [] hX [0,5,9,10] (fun(g:Nat × Int)=>match g with|(i,u)=>i≤b.length∧i≤5∧0≤u∧u<(128 ^ i:Nat)∧numF i u.toNat (b.drop i)=num b) (fun(g:Nat × Int)=>match g with|(i,u)=>⟨[(0,.v (.one (.p (.list .byte b)))),(5,.v (.one (.p (.int .i64 u)))),(9,.v (.one (.p (.int .i64 ((I.imin (I.len (α:=UInt8) b) 5)))))),(10,.v (.one (.p (.int .i64 i))))],[],45,none⟩) (fun(g:Nat × Int)=>match g with|(i,u)=>b.length - i) (0,0) (by kernel_rfl) (by kernel_rfl) ?_ ?_
 · exact⟨jM _,by omega,Int.le_refl _,by simp,rfl⟩
 rintro⟨i,u⟩ ⟨h1,h2,h3,h4,h6⟩ A hA;simp only at hA
 refine orcL ?_;go_invoke;refine orcS (by kernel_rfl) ?_
 simp only [zq,Nat.reduceAdd];subst hI;simp only [nrmA,nrmB,nrlB,reduceCtorEq];obtain⟨u,rfl⟩:=Int.eq_ofNat_of_zero_le h3;rw [jJ] at h6;have hs1:=fun(h:i<b.length) (h':i<5)=>zoV u h h';generalize hc:(b.getD i 0).toNat=c at hs1 ⊢
 have hc256:c<256:=by rw [← hc];exact UInt8.toNat_lt _
 have hlim:((i:Int)<if((b.length:Nat):Int)≤5 then((b.length:Nat):Int) else 5)↔(i<b.length∧i<5):=by split<;>omega
 have hbits:IntKind.i64.bits=64:=by decide
 have hpw:2 ^ (7 * i)=128 ^ i:=by rw [Nat.pow_mul]
 have hq:i<5→128 ^ i≤128 ^ 4:=fun h=>Nat.pow_le_pow_right (by omega) (by omega)
 have e1:i<5→IntKind.i64.wrap (IntKind.u8.wrap ((BitVec.ofInt IntKind.u8.bits (c:Int)&&& BitVec.ofInt IntKind.u8.bits 127).toNat:Int)) * 2 ^ min (7 * (i:Int)).toNat IntKind.i64.bits=((c % 128 * 2 ^ (7 * i):Nat):Int):=by
  intro h5
  rw [zw4 c hc256,wrap_i64 _ (by omega),hbits,show min (7 * (i:Int)).toNat 64=7 * i by omega]
  exact(Int.natCast_mul _ _).symm
 rw [hlim]
 have hW:i<5→∀ W,IntKind.i64.wrap ((BitVec.ofInt IntKind.i64.bits (u:Int)|||BitVec.ofInt IntKind.i64.bits (IntKind.i64.wrap (IntKind.i64.wrap (IntKind.u8.wrap ((BitVec.ofInt IntKind.u8.bits (c:Int)&&& BitVec.ofInt IntKind.u8.bits 127).toNat:Int)) * 2 ^ min (7 * (i:Int)).toNat IntKind.i64.bits))).toNat:Int)=W→W=((u+c % 128 * 128 ^ i:Nat):Int):=by
  intro h5 W h
  have hm:c % 128 * 2 ^ (7 * i)≤127 * 2 ^ (7 * i):=Nat.mul_le_mul_right _ (by omega)
  have h2:2 ^ (7 * i)≤2 ^ 28:=Nat.pow_le_pow_right (by omega) (by omega)
  rw [e1 h5,wrap_i64 ((c % 128 * 2 ^ (7 * i):Nat):Int) (by omega),zwd u (c % 128) i (by rw [hpw];omega) (by omega) (by omega),hpw] at h
  exact h.symm
 generalize hWd:IntKind.i64.wrap ((BitVec.ofInt IntKind.i64.bits (u:Int)|||BitVec.ofInt IntKind.i64.bits (IntKind.i64.wrap (IntKind.i64.wrap (IntKind.u8.wrap ((BitVec.ofInt IntKind.u8.bits (c:Int)&&& BitVec.ofInt IntKind.u8.bits 127).toNat:Int)) * 2 ^ min (7 * (i:Int)).toNat IntKind.i64.bits))).toNat:Int)=W at hW ⊢
 have hW:=fun h=>hW h W rfl;have hp:128 ^ (i+1)=128 ^ i * 128:=Nat.pow_succ ..;have hend:=zr6 (b:=b) (i:=i) u;have hr':=hr;rw [← h6] at hr';generalize hQ:128 ^ i=Q at *
 have hm:c % 128 * Q≤127 * Q:=Nat.mul_le_mul_right _ (by omega)
 have hcm:c<128→c * Q=c % 128 * Q:=fun h=>by rw [Nat.mod_eq_of_lt h]
 generalize hX:c % 128 * Q=X at *
 have hcut:List.take (List.length b - ((i:Int)+1).toNat) (List.drop ((i:Int)+1).toNat b)=b.drop (i+1):=by
  rw [show((i:Int)+1).toNat=i+1 by omega,jq (by simp)]
 rw [hcut]
 have hfin: ¬ (i<b.length∧i<5)→0=r1∧([]:Str)=r2∧false=r3:=by
  intro h
  rw [hend (by omega)] at hr'
  simpa using hr'
 have hret:i<b.length∧i<5→c<128→W - 1=r1∧b.drop (i+1)=r2∧decide (i=0∨0<c)=r3:=by
  intro h1 h3;rw [hs1 h1.1 h1.2] at hr';simp only [if_pos h3,hcm h3,Prod.mk.injEq] at hr';rw [hW h1.2];exact hr'
 have hback:i<b.length∧i<5→¬ c<128→A ⟨[(0,.v (.one (.p (.list .byte b)))),(5,.v (.one (.p (.int .i64 W)))),(9,.v (.one (.p (.int .i64 ((if((b.length:Nat):Int)≤5 then((b.length:Nat):Int) else 5)))))),(10,.v (.one (.p (.int .i64 (((i:Int)+1))))))],[],45,none⟩:=by
  intro h1 h3;have g0:=hW h1.2
  have g1:0≤W:=by omega
  have g2:W<((128 ^ (i+1):Nat):Int):=by rw [hp];omega
  refine hA (i+1,W) ⟨h1.1,h1.2,g1,g2,?_⟩ (by simp only;omega)
  rw [← h6,hs1 h1.1 h1.2,if_neg h3,g0,jJ]
 (repeat' (first|refine ja ?_ ?_|intro _))<;>first|omega|exact jb|exact jc ‹False›|skip
 all_goals first
  |exact(hfin (by omega)).1
  |exact(hfin (by omega)).2.1
  |exact(hfin (by omega)).2.2
  |exact(hret (by omega) (by omega)).1
  |exact(hret (by omega) (by omega)).2.1
  |exact hback (by omega) (by omega)
  |(rw [← (hret (by omega) (by omega)).2.2];simp;omega)
  |skip
 all_goals trace_state
def ztE:Know Tryz.prog:=⟨200,zkL,ztF⟩
def ztD:Know Tryz.prog:=⟨200,fun I=>zy I (zkL I),zf ztF⟩
end Go.Proofs.YtkjepecoodjbmaaGreatDoor
namespace Go.Proofs.YtkjepecoodjbmaaGreatDoor
open Go Go.Sep Go.Ab Go.Jrn
set_option maxRecDepth 100000
def pre3 (k i n:Int):Nat→Str
 |0=>[]
 |1=>sev (k+1).toNat
 |2=>sev (k+1).toNat++sev (i+1).toNat
 |_=>sev (k+1).toNat++sev (i+1).toNat++sev (n+1).toNat
def Ul (I:Alg) (args:List D) (hp:List HO):Option CT:=match args,hp with
 |[.v (.agg [(.p (.int .i64 k)),(.p (.int .i64 i)),(.p (.int .i64 n)),(.p (.list .byte t))])],[]=>(fun(k i n:Int) (t:Str)=>(some (.one ⟨I.hid (True),(.ret (.tup [(.one (.row 0)),(.one (.p (.int .i64 (I.hid (encC ⟨k,i,n,t⟩)))))])),[.row .byte 5 (I.hid ((encM ⟨k,i,n,t⟩)))]⟩):Option CT)) k i n t
 |_,_=>none
theorem zhd:zx Tryz.prog 149 (Ul alg):=by
 intro args hp r h;unfold Ul at h;split at h<;>cases h
 rename_i k i n t;simp only [CT.Good,zi];intro _
 refine spcG zh mixed Tryz.func149 (by kernel_rfl) { nr:=[4],own:=[198],keep:=some [0,1,2,3,4,6,16,17,18]} [zti,zth,zkw,zkv] (by kernel_rfl) ?_
 intro I X hI hX
 refine orcL ?_;go_invoke;refine orcS (by kernel_rfl) ?_
 simp only [zq,Nat.reduceAdd]
 refine⟨(by rw [hI];trivial),fun hm=> ?_,fun hm=> ?_⟩
 · subst hI
   simp only [nrmA,nrmB,nrlB,reduceCtorEq] at hm;simp only [nrmA,nrmB,nrlB,reduceCtorEq];simp only [encC,encM,hm,jd,if_false];exact⟨trivial,trivial⟩
 rw [hI] at hm;simp only [nrmA,nrmB] at hm;have hmay:=hm;simp only [mayM,few,jK,decide_eq_true_eq] at hmay;obtain⟨⟨⟨⟨m1,m2⟩,m3,m4⟩,m5,m6⟩,m7⟩:=hmay;simp only [encC,encM,hm,if_true];generalize hr:encB ⟨k,i,n,t⟩=r
 refine zB hI zh mixed [zti,zth,zkw,zkv] hX [1,4,16,17,18] (fun(g:Nat × Str)=>match g with|(j,m)=>j≤3∧m=pre3 k i n j) (fun(g:Nat × Str)=>match g with|(j,m)=>⟨[(1,.v (.one (.ptr 0 0))),(4,.v (.one (.row 1))),(16,.v (.one (.row 2))),(17,.v (.one (.p (.int .i64 ((I.len (α:=Int) [k,i,n])))))),(18,.v (.one (.p (.int .i64 j))))],[.pack [.obj 182 [(.p (.int .i64 k)),(.p (.int .i64 i)),(.p (.int .i64 n)),(.p (.list .byte t))]],.row .byte 5 m,.row .int 3 ([k,i,n])],35,none⟩) (fun(g:Nat × Str)=>match g with|(j,m)=>3 - j) (0,[]) (by kernel_rfl) (by kernel_rfl) ?_ ?_
 · exact⟨jM _,rfl⟩
 rintro⟨j,m⟩ ⟨hj,hjm⟩ A hA;simp only at hA
 refine orcL ?_;go_invoke;refine orcS (by kernel_rfl) ?_
 simp only [zq,Nat.reduceAdd];subst hI;simp only [nrmA,nrmB,nrlB,reduceCtorEq];have l1:=xJ (k+1).toNat;have l2:=xJ (i+1).toNat;have l3:=xJ (n+1).toNat;simp only [jh,ji]
 rcases(show j=0∨j=1∨j=2∨j=3 by omega) with rfl|rfl|rfl|rfl
 · have hb:=hA (1,sev (k+1).toNat) ⟨by omega,rfl⟩ (by simp only;omega)
   subst hjm
   (repeat' (first|refine ja ?_ ?_|intro _))<;>first|omega|exact jb|exact jc ‹False›|skip
   · simp only [List.getD_cons_zero];omega
   · simp only [List.getD_cons_zero];omega
   · simp only [pre3,ji];omega
   · exact hb
 · have hb:=hA (2,sev (k+1).toNat++sev (i+1).toNat) ⟨by omega,rfl⟩ (by simp only;omega)
   subst hjm
   (repeat' (first|refine ja ?_ ?_|intro _))<;>first|omega|exact jb|exact jc ‹False›|skip
   · simp only [List.getD_cons_zero,List.getD_cons_succ];omega
   · simp only [List.getD_cons_zero,List.getD_cons_succ];omega
   · simp only [pre3];omega
   · exact hb
 · have hb:=hA (3,sev (k+1).toNat++sev (i+1).toNat++sev (n+1).toNat) ⟨by omega,rfl⟩ (by simp only;omega)
   subst hjm
   (repeat' (first|refine ja ?_ ?_|intro _))<;>first|omega|exact jb|exact jc ‹False›|skip
   · simp only [List.getD_cons_zero,List.getD_cons_succ];omega
   · simp only [List.getD_cons_zero,List.getD_cons_succ];omega
   · simp only [pre3,jk];omega
   · exact hb
 · have hm3:(m++t).length≤1048606:=by rw [hjm];simp only [pre3,jk];omega
   have hml:m.length≤30:=by rw [hjm];simp only [pre3,jk];omega
   have l4:=xJ (((m++t).length:Nat)+1:Int).toNat
   (repeat' (first|refine ja ?_ ?_|intro _))<;>first|omega|exact jb|exact jc ‹False›|skip
   · simp only [List.nil_append];omega
   · rw [← hr,hjm]
     simp only [encB,enc3,pre3,List.nil_append];rfl
def zqc:Know Tryz.prog:=⟨149,Ul,zhd⟩
def zqb:Know Tryz.prog:=⟨149,fun I=>zy I (Ul I),zf zhd⟩
def zel (I:Alg) (args:List D) (hp:List HO):Option CT:=match args,hp with
 |[.v (.one (.p (.list .byte b)))],[]=>(fun(b:Str)=>(some (.one ⟨I.hid (b.length≤100000000),(.ret (.tup [(.agg [(.p (.int .i64 (I.hid ((oneX b).1.kind)))),(.p (.int .i64 (I.hid ((oneX b).1.id)))),(.p (.int .i64 (I.hid ((oneX b).1.n)))),(.p (.list .byte (I.hid ((oneX b).1.text))))]),(.one (.p (.list .byte (I.hid ((oneX b).2.1))))),(.one (.p (.bool (I.hid ((oneX b).2.2)))))])),[]⟩):Option CT)) b
 |_,_=>none
theorem zpa:zx Tryz.prog 151 (zel alg):=by
 intro args hp r h;unfold zel at h;split at h<;>cases h
 rename_i b;simp only [CT.Good,zi];intro hneed
 refine spcG zh mixed Tryz.func151 (by kernel_rfl) { rl:=[1],keep:=some [0,2,3,4,5,6,7,8,9,10,11,12,38]} [ZO,qN,zkw,zkv,ztE,ztD] (by kernel_rfl) ?_
 intro I X hI hX
 refine orcL ?_;go_invoke;refine orcS (by kernel_rfl) ?_
 simp only [zq,Nat.reduceAdd];generalize hv:(num b).1=v;generalize hq:(num b).2.1=q;generalize hok:(num b).2.2=ok
 have hnum:num b=(v,q,ok):=by rw [← hv,← hq,← hok]
 generalize hx:oneX b=x;have hx':=hx;rw [oneX,hnum] at hx'
 have hql:q.length≤b.length:=by
  rcases ok with _|_
  · have:=zaU b;rw [hnum] at this;exact this
  · have:=zaT (b:=b) (by rw [hnum]);rw [hnum] at this;exact Nat.le_of_lt this
 refine⟨(by rw [hI];trivial),fun h1=> ?_,fun h1=>⟨fun h2=> ?_,fun h2=>⟨fun h3=> ?_,fun h3=> ?_⟩⟩⟩
 · subst hI;simp only [nrmA,nrmB] at h1;subst h1;simp only at hx';subst hx';simp only [nrmA,nrmB,nrlB,reduceCtorEq]
 · subst hI;simp only [nrmA,nrmB] at h1;simp only [nrmA,nrmB] at h2;subst h1;simp only at hx';rw [if_pos (.inl h2)] at hx';subst hx';simp only [nrmA,nrmB,nrlB,reduceCtorEq]
 · subst hI;simp only [nrmA,nrmB] at h1;simp only [nrmA,nrmB] at h2;simp only [nrmA,nrmB] at h3;subst h1;simp only at hx';rw [if_pos (.inr h3)] at hx';subst hx';simp only [nrmA,nrmB,nrlB,reduceCtorEq]
 rw [hI] at h1;simp only [nrmA,nrmB] at h1;rw [hI] at h2;simp only [nrmA,nrmB] at h2;rw [hI] at h3;simp only [nrmA,nrmB] at h3;subst h1;simp only at hx'
 rw [if_neg (by omega)] at hx'
 refine⟨(by rw [hI];simp only [nrmA,nrmB];omega),(by rw [hI];simp only [nrmA,nrmB];omega),?_⟩
 have hin:I.cut (α:=UInt8) (I.hid (α:=List UInt8) q) 0 (I.hid (α:=Int) v)=q.take v.toNat:=by rw [hI];simp only [nrmA,nrmB]
 have hbh:I.cut (α:=UInt8) (I.hid (α:=List UInt8) q) (I.hid (α:=Int) v) (I.len (α:=UInt8) (I.hid (α:=List UInt8) q))=q.drop v.toNat:=by
  rw [hI];simp only [nrmA,nrmB];rw [jq (by simp)]
 have hil:(q.take v.toNat).length≤b.length:=by simp;omega
 rw [hin,hbh];generalize q.take v.toNat=inn at *;generalize q.drop v.toNat=bh at *
 refine zB hI zh mixed [ZO,qN,zkw,zkv,ztE,ztD] hX [2,8,9,10,38] (fun(g:Nat × Int × Int × Int × Str)=>match g with|(j,a,c,d,s)=>j≤3∧s.length≤b.length∧thr j a c d s=three inn) (fun(g:Nat × Int × Int × Int × Str)=>match g with|(j,a,c,d,s)=>⟨[(2,.v (.one (.ptr 0 0))),(8,.v (.one (.p (.list .byte s)))),(9,.v (.one (.p (.list .byte bh)))),(10,.v (.one (.ptr 1 0))),(38,.v (.one (.p (.int .i64 j))))],[.pack [.obj 182 [(.p (.int .i64 0)),(.p (.int .i64 0)),(.p (.int .i64 0)),.nilS]],.pack [.obj 226 [(.p (.int .i64 a)),(.p (.int .i64 c)),(.p (.int .i64 d))]]],66,none⟩) (fun(g:Nat × Int × Int × Int × Str)=>match g with|(j,a,c,d,s)=>3 - j) (0,0,0,0,inn) (by kernel_rfl) (by kernel_rfl) ?_ ?_
 · exact⟨jM _,hil,rfl⟩
 rintro⟨j,a,c,d,s⟩ ⟨hj,hsl,hthr⟩ A hA;simp only at hA
 have hu:j<3→∀ e:(num s).2.2=false,thr j a c d s=none:=by
  intro h e
  have e2:num s=((num s).1,(num s).2.1,false):=by rw [← e]
  rcases(show j=0∨j=1∨j=2 by omega) with rfl|rfl|rfl
  · rw [thr,three,e2]
  · rw [thr,e2]
  · rw [thr,e2]
 have hfail:j<3→(num s).2.2=false→x=(⟨0,0,0,[]⟩,[],false):=by
  intro h e;rw [← hthr,hu h e] at hx';exact hx'.symm
 have hnl:=zaU s
 have hle:(num s).2.1.length≤b.length:=by omega
 rcases(show j=0∨j=1∨j=2∨j=3 by omega) with rfl|rfl|rfl|rfl
 · refine orcL ?_;go_invoke;refine orcS (by kernel_rfl) ?_
   simp only [zq,Nat.reduceAdd];subst hI;simp only [nrmA,nrmB,nrlB,reduceCtorEq]
   refine⟨fun _=>⟨fun e=> ?_,fun e=>⟨by omega,?_⟩⟩,fun h=>(by omega)⟩
   · rw [hfail (by omega) e];exact⟨rfl,rfl,rfl⟩
   · refine hA (1,(num s).1,c,d,(num s).2.1) ⟨by omega,hle,?_⟩ (by simp only;omega)
     rw [← hthr,thr,thr,three,show num s=((num s).1,(num s).2.1,true) by rw [← e]]
 · refine orcL ?_;go_invoke;refine orcS (by kernel_rfl) ?_
   simp only [zq,Nat.reduceAdd];subst hI;simp only [nrmA,nrmB,nrlB,reduceCtorEq]
   refine⟨fun _=>⟨fun e=> ?_,fun e=>⟨by omega,?_⟩⟩,fun h=>(by omega)⟩
   · rw [hfail (by omega) e];exact⟨rfl,rfl,rfl⟩
   · refine hA (2,a,(num s).1,d,(num s).2.1) ⟨by omega,hle,?_⟩ (by simp only;omega)
     rw [← hthr,thr,thr,show num s=((num s).1,(num s).2.1,true) by rw [← e]]
 · refine orcL ?_;go_invoke;refine orcS (by kernel_rfl) ?_
   simp only [zq,Nat.reduceAdd];subst hI;simp only [nrmA,nrmB,nrlB,reduceCtorEq]
   refine⟨fun _=>⟨fun e=> ?_,fun e=>⟨by omega,?_⟩⟩,fun h=>(by omega)⟩
   · rw [hfail (by omega) e];exact⟨rfl,rfl,rfl⟩
   · refine hA (3,a,c,(num s).1,(num s).2.1) ⟨by omega,hle,?_⟩ (by simp only;omega)
     have e2:num s=((num s).1,(num s).2.1,true):=by rw [← e]
     rw [← hthr];simp only [thr];generalize num s=z at *;obtain⟨z1,z2,z3⟩:=z;simp only at e;subst e;rfl
 · refine orcL ?_;go_invoke;refine orcS (by kernel_rfl) ?_
   simp only [zq,Nat.reduceAdd];subst hI;simp only [nrmA,nrmB,nrlB,reduceCtorEq];rw [← hthr] at hx';simp only [thr] at hx';subst hx'
   have:s.length≤100000000:=by omega
   exact⟨fun h=>(by omega),fun _=>⟨⟨this,rfl,rfl,rfl⟩,this,rfl,rfl,rfl⟩⟩
def zo9:Know Tryz.prog:=⟨151,zel,zpa⟩
def zo8:Know Tryz.prog:=⟨151,fun I=>zy I (zel I),zf zpa⟩
end Go.Proofs.YtkjepecoodjbmaaGreatDoor
namespace Go.Proofs.YtkjepecoodjbmaaGreatDoor
open Go Go.Sep Go.Ab Go.Jrn
set_option maxRecDepth 100000
def zam (b:Str):Int:=(b.length:Int) - ((dec b).2.length:Int)
def Uo (I:Alg) (args:List D) (hp:List HO):Option CT:=match args,hp with
 |[.v (.one (.p (.list .byte b)))],[]=>(fun(b:Str)=>(some (.one ⟨I.hid (b.length≤50000000),(.ret (.tup [(.one (.row 0)),(.one (.p (.int .i64 (I.hid (zam b)))))])),[.row .ent 182 (I.hid (((dec b).1)))]⟩):Option CT)) b
 |_,_=>none
theorem zhi:zx Tryz.prog 108 (Uo alg):=by
 intro args hp r h;unfold Uo at h;split at h<;>cases h
 rename_i b;simp only [CT.Good,zi];intro hneed
 refine spcG zh mixed Tryz.func108 (by kernel_rfl) { nr:=[4],keep:=some [0,2,3,4,5,6,7,8]} [zo9,zo8] (by kernel_rfl) ?_
 intro I X hI hX
 refine orcL ?_;go_invoke;refine orcS (by kernel_rfl) ?_
 simp only [zq,Nat.reduceAdd];generalize hd1:(dec b).1=d1;generalize hd2:zam b=d2
 refine zB hI zh mixed [zo9,zo8] hX [0,4,5] (fun(g:List Ent × Str)=>match g with|(out,rest)=>out++(dec rest).1=d1∧(dec rest).2=(dec b).2∧out.length+rest.length≤b.length) (fun(g:List Ent × Str)=>match g with|(out,rest)=>⟨[(0,.v (.one (.p (.list .byte b)))),(4,.v (.one (.row 0))),(5,.v (.one (.p (.list .byte rest))))],[.row .ent 182 out],29,none⟩) (fun(g:List Ent × Str)=>match g with|(out,rest)=>rest.length) ([],b) (by kernel_rfl) (by kernel_rfl) ?_ ?_
 · exact⟨hd1,rfl,by simp⟩
 rintro⟨out,rest⟩ ⟨h1,h2,h3⟩ A hA;simp only at hA
 refine orcL ?_;go_invoke;refine orcS (by kernel_rfl) ?_
 simp only [zq,Nat.reduceAdd];subst hI;simp only [nrmA,nrmB,nrlB,reduceCtorEq]
 have hone:(oneX rest).2.2=true→oneM rest=some ((oneX rest).1,(oneX rest).2.1):=fun h=>by rw [oneM,if_pos h]
 have hnone:(oneX rest).2.2=false→oneM rest=none:=fun h=>by rw [oneM,if_neg (by rw [h];decide)]
 refine⟨by omega,fun h=> ?_,fun h=> ?_⟩
 · rw [zeG (hnone h)] at h1 h2
   refine⟨by omega,?_,by simpa using h1⟩
   rw [← hd2,zam,← h2]
 · have hx:=zeF (hone h)
   have hlt:=zoP h
   refine⟨by simp only [jh,ji];omega,hA (out++[(oneX rest).1],(oneX rest).2.1) ⟨?_,?_,?_⟩ hlt⟩
   · rw [← h1,hx,jo];rfl
   · rw [← h2,hx]
   · simp only [jk,jh,ji];omega
def zhh:Know Tryz.prog:=⟨108,Uo,zhi⟩
def zhg:Know Tryz.prog:=⟨108,fun I=>zy I (Uo I),zf zhi⟩
end Go.Proofs.YtkjepecoodjbmaaGreatDoor
namespace Go.Proofs.YtkjepecoodjbmaaGreatDoor
open Go Go.Sep Go.Ab
set_option maxRecDepth 100000
def cfgL:Cfg:= { sl:=[⟨156,0,.byte,some 5⟩]}
def UY (b:Str) (n:Int):Bool:=decide (0≤n∧n≤100000 - (b.length:Int))
def wrC (b x:Str):Int:=if b.length+x.length≤100000 then 0 else 16
def wrB (b x:Str):Str:=if b.length+x.length≤100000 then b++x else b
def crB (b:Str) (s n:Int):Str:=b.take (s+min (max n 0) (b.length - s)).toNat
def cuB (b:Str) (n:Int):Str:=if 0≤n∧n<b.length then b.take n.toNat else b
def cuS (b:Str) (s n:Int):Int:=if 0≤n∧n<b.length then min s n else s
def zem (I:Alg) (args:List D) (hp:List HO):Option CT:=match args,hp with
 |[],[]=>(fun(_:Unit)=>(some (.one ⟨I.hid (True),(.ret (.v (.one (.ptr 0 0)))),[.pack [.obj 156 [(.row 1),(.p (.int .i64 0))],.row .byte 5 (I.hid ([]))]]⟩):Option CT)) ()
 |_,_=>none
theorem zpd:zx Tryz.prog 43 (zem alg):=by
 intro args hp r h;unfold zem at h;split at h<;>cases h
 simp only [CT.Good,zi];intro _
 refine spcG zh mixed Tryz.func43 (by kernel_rfl) { cfgL with keep:=some [0]} [] (by kernel_rfl) ?_
 intro I X hI hX
 refine orcL ?_;go_invoke;refine orcS (by kernel_rfl) ?_
 simp only [zq,Nat.reduceAdd];trivial
def zuJ:Know Tryz.prog:=⟨43,zem,zpd⟩
def zuI:Know Tryz.prog:=⟨43,fun I=>zy I (zem I),zf zpd⟩
def zae (I:Alg) (args:List D) (hp:List HO):Option CT:=match args,hp with
 |[.v (.one (.ptr 0 0))],[.pack [.obj 156 [(.row 1),(.p (.int .i64 s))],.row .byte 5 b]]=>(fun(b:Str) (s:Int)=>(some (.one ⟨I.hid (b.length≤100000000),(.ret (.v (.one (.row 1)))),[.pack [.obj 156 [(.row 1),(.p (.int .i64 s))],.row .byte 5 b],.row .byte 5 b]⟩):Option CT)) b s
 |_,_=>none
theorem zlG:zx Tryz.prog 55 (zae alg):=by
 intro args hp r h;unfold zae at h;split at h<;>cases h
 rename_i s b;simp only [CT.Good,zi];intro hneed
 refine spcG zh mixed Tryz.func55 (by kernel_rfl) { cfgL with keep:=some [0,2]} [ZO,qN] (by kernel_rfl) ?_
 intro I X hI hX
 refine orcL ?_;go_invoke;refine orcS (by kernel_rfl) ?_
 simp only [zq,Nat.reduceAdd];subst hI;simp only [nrmA,nrmB];exact hneed
def zlF:Know Tryz.prog:=⟨55,zae,zlG⟩
def zlE:Know Tryz.prog:=⟨55,fun I=>zy I (zae I),zf zlG⟩
def zdI (I:Alg) (args:List D) (hp:List HO):Option CT:=match args,hp with
 |[.v (.one (.ptr 0 0))],[.pack [.obj 156 [(.row 1),(.p (.int .i64 s))],.row .byte 5 b]]=>(fun(b:Str) (s:Int)=>(some (.one ⟨I.hid (True),(.ret (.tup [])),[.pack [.obj 156 [(.row 1),(.p (.int .i64 (I.hid ((b.length:Int)))))],.row .byte 5 b]]⟩):Option CT)) b s
 |_,_=>none
theorem zns:zx Tryz.prog 106 (zdI alg):=by
 intro args hp r h;unfold zdI at h;split at h<;>cases h
 rename_i s b;simp only [CT.Good,zi];intro _
 refine spcG zh mixed Tryz.func106 (by kernel_rfl) { cfgL with keep:=some [0]} [] (by kernel_rfl) ?_
 intro I X hI hX
 refine orcL ?_;go_invoke;refine orcS (by kernel_rfl) ?_
 simp only [zq,Nat.reduceAdd];subst hI;simp only [nrmA,nrmB,nrlB,reduceCtorEq,HO.pack.injEq,HO.obj.injEq]
def znr:Know Tryz.prog:=⟨106,zdI,zns⟩
def znq:Know Tryz.prog:=⟨106,fun I=>zy I (zdI I),zf zns⟩
def zdY (I:Alg) (args:List D) (hp:List HO):Option CT:=match args,hp with
 |[.v (.one (.ptr 0 0)),.v (.one (.p (.int .i64 n)))],[.pack [.obj 156 [(.row 1),(.p (.int .i64 s))],.row .byte 5 b]]=>(fun(b:Str) (s n:Int)=>(some (.one ⟨I.hid (b.length≤100000000),(.ret (.v (.one (.p (.bool (I.hid ((UY b n)))))))),[.pack [.obj 156 [(.row 1),(.p (.int .i64 s))],.row .byte 5 b]]⟩):Option CT)) b s n
 |_,_=>none
theorem zor:zx Tryz.prog 199 (zdY alg):=by
 intro args hp r h;unfold zdY at h;split at h<;>cases h
 rename_i n s b;simp only [CT.Good,zi];intro hneed
 refine spcG zh mixed Tryz.func199 (by kernel_rfl) { cfgL with keep:=some [0,1,4]} [] (by kernel_rfl) ?_
 intro I X hI hX
 refine orcL ?_;go_invoke;refine orcS (by kernel_rfl) ?_
 simp only [zq,Nat.reduceAdd];subst hI;simp only [nrmA,nrmB,nrlB,reduceCtorEq];unfold UY
 exact⟨fun h=>⟨by omega,decide_eq_decide.2 (by omega)⟩,fun h=>(decide_eq_false (by omega)).symm⟩
def zoq:Know Tryz.prog:=⟨199,zdY,zor⟩
def zop:Know Tryz.prog:=⟨199,fun I=>zy I (zdY I),zf zor⟩
def Rl (I:Alg) (args:List D) (hp:List HO):Option CT:=match args,hp with
 |[.v (.one (.ptr 0 0)),.v (.one (.p (.list .byte x)))],[.pack [.obj 156 [(.row 1),(.p (.int .i64 s))],.row .byte 5 b]]=>(fun(b x:Str) (s:Int)=>(some (.one ⟨I.hid (b.length≤100000∧x.length≤100000000),(.ret (.v (.one (.p (.int .i64 (I.hid ((wrC b x)))))))),[.pack [.obj 156 [(.row 1),(.p (.int .i64 s))],.row .byte 5 (I.hid ((wrB b x)))]]⟩):Option CT)) b x s
 |_,_=>none
theorem zja:zx Tryz.prog 150 (Rl alg):=by
 intro args hp r h;unfold Rl at h;split at h<;>cases h
 rename_i x s b;simp only [CT.Good,zi];intro hneed
 refine spcG zh mixed Tryz.func150 (by kernel_rfl) { cfgL with keep:=some [0,1,4]} [zoq,zop] (by kernel_rfl) ?_
 intro I X hI hX
 refine orcL ?_;go_invoke;refine orcS (by kernel_rfl) ?_
 simp only [zq,Nat.reduceAdd];subst hI
 have hr:UY b (x.length:Int)=decide (b.length+x.length≤100000):=by unfold UY;exact decide_eq_decide.2 (by omega)
 simp only [nrmA,nrmB,nrlB,reduceCtorEq,HO.pack.injEq,HO.obj.injEq];rw [hr]
 by_cases hc:b.length+x.length≤100000
 · simp only [wrC,wrB,if_pos hc,decide_eq_true hc]
   simp only [nrmA,nrmB,nrlB,reduceCtorEq]
   exact⟨by omega,fun h=>h.elim,fun _=>by omega⟩
 · simp only [wrC,wrB,if_neg hc,decide_eq_false hc]
   simp only [nrmA,nrmB,nrlB,reduceCtorEq]
   exact⟨by omega,fun _=>trivial,fun h=>h.elim⟩
def zqZ:Know Tryz.prog:=⟨150,Rl,zja⟩
def zqY:Know Tryz.prog:=⟨150,fun I=>zy I (Rl I),zf zja⟩
def Q5 (I:Alg) (args:List D) (hp:List HO):Option CT:=match args,hp with
 |[.v (.one (.ptr 0 0)),.v (.one (.p (.int .i64 n)))],[.pack [.obj 156 [(.row 1),(.p (.int .i64 s))],.row .byte 5 b]]=>(fun(b:Str) (s n:Int)=>(some (.one ⟨I.hid (b.length≤100000∧0≤s∧s≤b.length),(.ret (.tup [])),[.pack [.obj 156 [(.row 1),(.p (.int .i64 (I.hid (((crB b s n).length:Int)))))],.row .byte 5 (I.hid ((crB b s n)))]]⟩):Option CT)) b s n
 |_,_=>none
theorem zlt:zx Tryz.prog 107 (Q5 alg):=by
 intro args hp r h;unfold Q5 at h;split at h<;>cases h
 rename_i n s b;simp only [CT.Good,zi];intro hneed
 refine spcG zh mixed Tryz.func107 (by kernel_rfl) { cfgL with cut:=[35],keep:=some [0,1,4]} [znr,znq] (by kernel_rfl) ?_
 intro I X hI hX
 refine orcL ?_;go_invoke;refine orcS (by kernel_rfl) ?_
 simp only [zq,Nat.reduceAdd];subst hI;simp only [nrmA,nrmB,nrlB,reduceCtorEq,HO.pack.injEq,HO.obj.injEq]
 obtain⟨K,hK,h0,hle⟩: ∃ K:Int,s+(if(if n≤0 then 0 else n)≤(b.length:Int) - s then(if n≤0 then 0 else n) else(b.length:Int) - s)=K∧s≤K∧K≤b.length:=⟨_,rfl,by omega,by omega⟩
 have hcr:crB b s n=b.take K.toNat:=by
  unfold crB;rw [← hK]
  congr 2
 rw [hK,hcr]
 exact⟨by omega,by omega,by omega,by omega,rfl,rfl⟩
def zls:Know Tryz.prog:=⟨107,Q5,zlt⟩
def zlr:Know Tryz.prog:=⟨107,fun I=>zy I (Q5 I),zf zlt⟩
def zeK (I:Alg) (args:List D) (hp:List HO):Option CT:=match args,hp with
 |[.v (.one (.ptr 0 0)),.v (.one (.p (.int .i64 n)))],[.pack [.obj 156 [(.row 1),(.p (.int .i64 s))],.row .byte 5 b]]=>(fun(b:Str) (s n:Int)=>(some (.one ⟨I.hid (b.length≤100000∧0≤s∧s≤b.length),(.ret (.tup [])),[.pack [.obj 156 [(.row 1),(.p (.int .i64 (I.hid ((cuS b s n)))))],.row .byte 5 (I.hid ((cuB b n)))]]⟩):Option CT)) b s n
 |_,_=>none
theorem zqn:zx Tryz.prog 109 (zeK alg):=by
 intro args hp r h;unfold zeK at h;split at h<;>cases h
 rename_i n s b;simp only [CT.Good,zi];intro hneed
 refine spcG zh mixed Tryz.func109 (by kernel_rfl) { cfgL with cut:=[22],keep:=some [0,1]} [] (by kernel_rfl) ?_
 intro I X hI hX
 refine orcL ?_;go_invoke;refine orcS (by kernel_rfl) ?_
 simp only [zq,Nat.reduceAdd];subst hI;simp only [nrmA,nrmB,nrlB,reduceCtorEq,HO.pack.injEq,HO.obj.injEq]
 refine⟨fun h1=>⟨fun h2=>⟨by omega,?_,?_⟩,fun h2=> ?_⟩,fun h1=> ?_⟩
 · unfold cuS;rw [if_pos (show 0≤n∧n<(b.length:Int) from⟨h1,h2⟩)];omega
 · unfold cuB;rw [if_pos (show 0≤n∧n<(b.length:Int) from⟨h1,h2⟩)]
 · unfold cuS cuB;rw [if_neg (show ¬ (0≤n∧n<(b.length:Int)) from fun h=>by omega),if_neg (show ¬ (0≤n∧n<(b.length:Int)) from fun h=>by omega)];exact⟨rfl,rfl⟩
 · unfold cuS cuB;rw [if_neg (show ¬ (0≤n∧n<(b.length:Int)) from fun h=>by omega),if_neg (show ¬ (0≤n∧n<(b.length:Int)) from fun h=>by omega)];exact⟨rfl,rfl⟩
def zqm:Know Tryz.prog:=⟨109,zeK,zqn⟩
def zql:Know Tryz.prog:=⟨109,fun I=>zy I (zeK I),zf zqn⟩
end Go.Proofs.YtkjepecoodjbmaaGreatDoor
namespace Go.Jrn
open Go Go.Ab
theorem pow5 {i:Nat} (h:i<5):128 ^ (5 - i)=128 * 128 ^ (5 - (i+1)):=by
 rw [show 5 - i=(5 - (i+1))+1 by omega,Nat.pow_succ,Nat.mul_comm]
theorem zfY: ∀ (s:Str) (i u:Nat) (v:Int) (r:Str),numF i u s=(v,r,true)→∃ x,v=((u+x * 128 ^ i:Nat):Int) - 1∧s=sev x++r∧(0<i→0<x)∧x<128 ^ (5 - i)
 |[],i,u,v,r,h=>by simp [numF] at h
 | c :: l,i,u,v,r,h=>by
   rw [numF] at h
   split at h
   · simp at h
   · rename_i h5
     have hp:=pow5 (i:=i) (by omega)
     have hpos:0<128 ^ (5 - (i+1)):=Nat.pow_pos (by omega)
     split at h
     · rename_i hc
       simp only [Prod.mk.injEq,decide_eq_true_eq] at h;obtain⟨rfl,rfl,h3⟩:=h
       refine⟨c.toNat,rfl,?_,by omega,by omega⟩
       rw [Yi hc,UInt8.ofNat_toNat];rfl
     · rename_i hc
       obtain⟨y,h1,h2,h3,h4⟩:=zfY l (i+1) _ v r h
       have hy:=h3 (by omega)
       have hc2:c.toNat<256:=UInt8.toNat_lt c
       have h45:128 ^ (5 - (i+1))≤128 ^ 4:=Nat.pow_le_pow_right (by omega) (by omega)
       refine⟨c.toNat % 128+128 * y,?_,?_,by omega,?_⟩
       · rw [h1,Nat.pow_succ,Nat.add_mul]
         congr 2
         rw [Nat.add_assoc]
         congr 1
         rw [Nat.mul_comm (128 ^ i) 128,Nat.mul_comm 128 y,Nat.mul_assoc]
       · rw [zdP (by omega) (by omega),h2,show(c.toNat % 128+128 * y) % 128+128=c.toNat by omega,show(c.toNat % 128+128 * y) / 128=y by omega,UInt8.ofNat_toNat];rfl
       · rw [hp];omega
theorem Qw {s r:Str} {v:Int} (h:num s=(v,r,true)): -1≤v∧v<34359738367∧s=sev (v+1).toNat++r:=by
 obtain⟨x,h1,h2,_,h4⟩:=zfY s 0 0 v r h;simp only [Nat.pow_zero,Nat.mul_one,Nat.zero_add,Nat.sub_zero] at h1 h4
 have:(v+1).toNat=x:=by omega
 rw [this]
 exact⟨by omega,by omega,h2⟩
theorem zmj: ∀ (x i u:Nat) (r:Str),i<5→x<128 ^ (5 - i)→(0<i→0<x)→numF i u (sev x++r)=(((u+x * 128 ^ i:Nat):Int) - 1,r,true):=by
 intro x
 induction x using Nat.strongRecOn with
 | _ x ih=>
   intro i u r h5 hx hi;have hp:=pow5 h5
   have h55:128 ^ (5 - i)≤128 ^ 5:=Nat.pow_le_pow_right (by omega) (by omega)
   rcases Nat.lt_or_ge x 128 with hs|hb
   · have e:(UInt8.ofNat x).toNat=x:=by rw [UInt8.toNat_ofNat'];omega
     rw [Yi hs,List.cons_append,numF,if_neg (by omega),e,if_pos hs]
     simp only [List.nil_append,Prod.mk.injEq,true_and,decide_eq_true_eq];omega
   · have e:(UInt8.ofNat (x % 128+128)).toNat=x % 128+128:=by rw [UInt8.toNat_ofNat'];omega
     have hi4:i+1<5:=by
      rcases Nat.lt_or_ge (i+1) 5 with h|h
      · exact h
      · have:i=4:=by omega
        subst this;simp at hx;omega
     rw [zdP hb (by omega),List.cons_append,numF,if_neg (by omega),e,if_neg (by omega),ih (x / 128) (by omega) (i+1) _ r hi4 (by rw [Nat.div_lt_iff_lt_mul (by omega),Nat.mul_comm];omega) (by omega)]
     simp only [Prod.mk.injEq,and_true]
     congr 2
     rw [show(x % 128+128) % 128=x % 128 by omega,Nat.pow_succ,Nat.add_assoc]
     congr 1
     rw [Nat.mul_comm (128 ^ i) 128,← Nat.mul_assoc,← Nat.add_mul]
     congr 1
     omega
theorem Yq {v:Int} {r:Str} (h1: -1≤v) (h2:v<34359738367):num (sev (v+1).toNat++r)=(v,r,true):=by
 rw [num,zmj (v+1).toNat 0 0 r (by omega) (by simp;omega) (by omega)]
 simp only [Nat.pow_zero,Nat.mul_one,Nat.zero_add,Prod.mk.injEq,and_true];omega
theorem zoU: ∀ (x i u:Nat) (p:Str),x<128 ^ 9→p.length<(sev x).length→p<+:sev x→(numF i u p).2.2=false:=by
 intro x
 induction x using Nat.strongRecOn with
 | _ x ih=>
   intro i u p hx hl hp
   cases p with
   |nil=>rfl
   | cons c p=>
     rcases Nat.lt_or_ge x 128 with hs|hb
     · rw [Yi hs] at hl;simp at hl
     · rw [zdP hb hx] at hl hp
       obtain⟨rfl,hp2⟩:=List.cons_prefix_cons.1 hp
       have e:(UInt8.ofNat (x % 128+128)).toNat=x % 128+128:=by rw [UInt8.toNat_ofNat'];omega
       rw [numF]
       split
       · rfl
       · rw [e,if_neg (by omega)]
         exact ih (x / 128) (by omega) (i+1) _ p (Nat.lt_of_le_of_lt (Nat.div_le_self _ _) hx) (by simpa using hl) hp2
theorem zlT {s t:Str} {k i n:Int} (h:three s=some (k,i,n,t)):s=sev (k+1).toNat++sev (i+1).toNat++sev (n+1).toNat++t:=by
 unfold three at h
 split at h
 · rename_i k' r1 h1
   split at h
   · rename_i i' r2 h2
     split at h
     · rename_i n' r3 h3
       simp only [jw,Prod.mk.injEq] at h;obtain⟨rfl,rfl,rfl,rfl⟩:=h;obtain⟨_,_,e1⟩:=Qw h1;obtain⟨_,_,e2⟩:=Qw h2;obtain⟨_,_,e3⟩:=Qw h3;rw [e1,e2,e3];simp only [jo]
     · cases h
   · cases h
 · cases h
theorem zhI {k i n:Int} {t:Str} (hk: -1≤k∧k<34359738367) (hi: -1≤i∧i<34359738367) (hn: -1≤n∧n<34359738367):three (sev (k+1).toNat++sev (i+1).toNat++sev (n+1).toNat++t)=some (k,i,n,t):=by
 unfold three;rw [jo,jo,Yq hk.1 hk.2];simp only;rw [Yq hi.1 hi.2];simp only;rw [Yq hn.1 hn.2]
theorem zoS {s r:Str} {e:Ent} (h:oneM s=some (e,r)):mayM e=true∧s=encB e++r:=by
 unfold oneM at h
 split at h
 · rename_i hx
   simp only [jw,Prod.mk.injEq] at h;obtain⟨rfl,rfl⟩:=h;unfold oneX at hx ⊢
   split at hx
   · rename_i n q hn
     split at hx
     · cases hx
     · rename_i hc
       rw [if_neg hc]
       split at hx
       · rename_i k i m t ht
         simp only [ht];refine⟨hx,?_⟩;obtain⟨_,_,e1⟩:=Qw hn;have e2:=zlT ht
         have hl:(q.take n.toNat).length=n.toNat:=by rw [jv];omega
         have e3:enc3 ⟨k,i,m,t⟩=q.take n.toNat:=by rw [e2];rfl
         rw [encB,e3,hl,show n.toNat+1=(n+1).toNat by omega,jo,List.take_append_drop]
         exact e1
       · cases hx
   · cases hx
 · cases h
theorem zf0 {e:Ent} (h:mayM e=true):(-1≤e.kind∧e.kind<34359738367)∧(-1≤e.id∧e.id<34359738367)∧(-1≤e.n∧e.n<34359738367)∧e.text.length<1048576:=by
 simp only [mayM,few,jK,decide_eq_true_eq] at h;omega
theorem zlj {e:Ent} (h:mayM e=true):(enc3 e).length<1048606:=by
 have:=zf0 h;have h1:=xJ (e.kind+1).toNat;have h2:=xJ (e.id+1).toNat;have h3:=xJ (e.n+1).toNat;simp only [enc3,jk];omega
theorem zmi {e:Ent} (r:Str) (h:mayM e=true):oneM (encB e++r)=some (e,r):=by
 have hl:=zlj h;obtain⟨h1,h2,h3,_⟩:=zf0 h
 have hn:num (encB e++r)=(((enc3 e).length:Int),enc3 e++r,true):=by
  have:=Yq (v:=((enc3 e).length:Int)) (r:=enc3 e++r) (by omega) (by omega)
  rw [show(((enc3 e).length:Int)+1).toNat=(enc3 e).length+1 by omega] at this
  rw [encB,jo];exact this
 have hx:oneX (encB e++r)=(e,r,true):=by
  unfold oneX;rw [hn];simp only
  rw [if_neg (by rw [jk];omega),jJ,List.take_left' rfl,List.drop_left' rfl]
  have ht:three (enc3 e)=some (e.kind,e.id,e.n,e.text):=zhI h1 h2 h3;rw [ht];simp only;have:mayM ⟨e.kind,e.id,e.n,e.text⟩=true:=h;rw [this]
 rw [oneM,hx];rfl
theorem zoQ {e:Ent} {p:Str} (h:mayM e=true) (hp:p<+:encB e) (hl:p.length<(encB e).length):oneM p=none:=by
 have hlen:=zlj h;rw [encB] at hp hl;rw [jk] at hl
 rcases Nat.lt_or_ge p.length (sev ((enc3 e).length+1)).length with h1|h1
 · refine zoR ?_
   have hp2:p<+:sev ((enc3 e).length+1):=by
    obtain⟨t,ht⟩:=hp;have:=congrArg (List.take p.length) ht
    rw [List.take_left' rfl,List.take_append_of_le_length (by omega)] at this
    rw [this];exact List.take_prefix _ _
   exact zoU _ 0 0 p (by omega) h1 hp2
 · obtain⟨t,ht⟩:=hp
   have e1:p=sev ((enc3 e).length+1)++p.drop (sev ((enc3 e).length+1)).length:=by
    have:=congrArg (List.take (sev ((enc3 e).length+1)).length) ht;rw [List.take_left' rfl,List.take_append_of_le_length h1] at this;rw [← this];rw [jv,Nat.min_eq_left h1,List.take_append_drop]
   have hn:=Yq (v:=((enc3 e).length:Int)) (r:=p.drop (sev ((enc3 e).length+1)).length) (by omega) (by omega)
   rw [show(((enc3 e).length:Int)+1).toNat=(enc3 e).length+1 by omega,← e1] at hn
   refine zr4 (.inr ?_);rw [hn];simp only [jC];omega
def zJ:List Ent→Str
 |[]=>[]
 |e::l=>encB e++zJ l
theorem ZL (a b:List Ent):zJ (a++b)=zJ a++zJ b:=by
 induction a with
 |nil=>rfl
 |cons e l ih=>simp [zJ,ih,jo]
theorem zeI: ∀ (f:Nat) (b:Str),b.length≤f→b=zJ (dec b).1++(dec b).2∧∀ e ∈ (dec b).1,mayM e=true
 | f, b, hf=>by
   cases ho:oneM b with
   |none=>rw [zeG ho];exact⟨rfl,fun e h=>by cases h⟩
   | some p=>
     obtain⟨e,r⟩:=p;obtain⟨h1,h2⟩:=zoS ho;have hlt:=zef ho
     cases f with
     |zero=>omega
     | succ f=>
       obtain⟨h3,h4⟩:=zeI f r (by omega)
       rw [zeF ho];refine⟨?_,fun x hx=> ?_⟩
       · simp only [zJ]
         rw [jo,← h3];exact h2
       · cases hx with
         |head=>exact h1
         |tail _ h=>exact h4 x h
theorem torn: ∀ (l:List Ent) (k:Nat),(∀ e ∈ l,mayM e=true)→k≤(zJ l).length→∃ W,W≤l.length∧(zJ (l.take W)).length≤k∧(∀ j,j<l.length→((zJ (l.take (j+1))).length≤k↔j<W))∧
  (dec ((zJ l).take k)).1=l.take W∧(dec ((zJ l).take k)).2.length+(zJ (l.take W)).length=k
 | [],k,_,hk=>by
   have:k=0:=by simpa [zJ] using hk
   subst this
   exact⟨0,jL _,jL _,fun j hj=>by simp at hj,rfl,rfl⟩
 | e :: l,k,hm,hk=>by
   have he:=hm e (List.mem_cons_self ..);simp only [zJ,jk] at hk
   rcases Nat.lt_or_ge k (encB e).length with h1|h1
   · have ht:(zJ (e::l)).take k=(encB e).take k:=by rw [zJ,List.take_append_of_le_length (by omega)]
     have hl:((encB e).take k).length=k:=by rw [jv];omega
     have hn:=zoQ he (List.take_prefix k (encB e)) (by omega)
     rw [ht,zeG hn]
     refine⟨0,jM _,jM _,fun j _=>⟨fun h=> ?_,fun h=>by omega⟩,rfl,by simp [zJ,hl]⟩
     rw [List.take_succ_cons,zJ,jk] at h;omega
   · obtain⟨W,a1,a2,a3,a4,a5⟩:=torn l (k - (encB e).length) (fun x hx=>hm x (List.mem_cons_of_mem _ hx)) (by omega)
     have ht:(zJ (e::l)).take k=encB e++(zJ l).take (k - (encB e).length):=by
      rw [zJ,List.take_append,jq h1]
     rw [ht,zeF (zmi _ he)]
     refine⟨W+1,by simp;omega,?_,fun j hj=> ?_,by simp [a4],?_⟩
     · rw [List.take_succ_cons,zJ,jk];omega
     · rw [List.take_succ_cons,zJ,jk]
       cases j with
       |zero=>simp [zJ];omega
       | succ j=>
         have:=a3 j (by simpa using hj)
         omega
     · rw [List.take_succ_cons,zJ,jk];simp only;omega
theorem zsW {e:Ent} (h:mayM e=true):(encB e).length≤e.text.length+50:=by
 have h0:=xJ ((enc3 e).length+1);have h1:=xJ (e.kind+1).toNat;have h2:=xJ (e.id+1).toNat;have h3:=xJ (e.n+1).toNat;simp only [encB,enc3,jk] at h0 ⊢;omega
end Go.Jrn
namespace Go.Proofs.YtkjepecoodjbmaaGreatDoor
open Go Go.Sep Go.Ab Go.Jrn
def zfK (l:List Upl) (n:Int) (e:Ent):Int:=
 if e.kind=1 then(if creC l e.n e.text=0∧¬ n+1=e.id then 20 else creC l e.n e.text)
 else if e.kind=2 then appC l e.id (getU l e.id).bytes.length e.text
 else if e.kind=3 then decC l e.id e.n
 else if e.kind=4 then droC l e.id
 else if e.kind=5 then begC l e.id
 else endC l e.id
def zaO (l:List Upl) (n:Int) (e:Ent):List Upl:=
 if e.kind=1 then creL l n e.n e.text
 else if e.kind=2 then appL l e.id (getU l e.id).bytes.length e.text
 else if e.kind=3 then decL l e.id e.n
 else if e.kind=4 then droL l e.id
 else if e.kind=5 then begL l e.id
 else endL l e.id
def U4 (l:List Upl) (n:Int) (e:Ent):Int:=if e.kind=1 then creN l n e.n e.text else n
theorem zoB {l:List Upl} {n:Int} (h:zK l n) (e:Ent):zK (zaO l n e) (U4 l n e):=by
 unfold zaO U4
 split
 · exact zwQ h _ _
 split
 · exact zw2 h _ _ _
 split
 · exact zwN h _ _
 split
 · exact zwL h _
 split
 · exact zwY h _
 · exact zwJ h _
theorem zkc (l:List Upl) (n:Int) (e:Ent):n≤U4 l n e∧U4 l n e≤n+1:=by
 unfold U4 creN
 split
 · split<;>omega
 · omega
def replay:List Upl × Int→List Ent→List Upl × Int
 |p,[]=>p
 |p,e::es=>replay (zaO p.1 p.2 e,U4 p.1 p.2 e) es
theorem UZ: ∀ (a b:List Ent) (p:List Upl × Int),replay p (a++b)=replay (replay p a) b
 |[],_,_=>rfl
 |_::a,b,_=>UZ a b _
theorem Vg: ∀ (es:List Ent) (p:List Upl × Int),zK p.1 p.2→zK (replay p es).1 (replay p es).2
 |[],_,h=>h
 |e::es,_,h=>Vg es _ (zoB h e)
theorem Qn: ∀ (es:List Ent) (p:List Upl × Int),(replay p es).2≤p.2+es.length
 |[],_=>by simp [replay]
 | e::es,p=>by
   have:=Qn es (zaO p.1 p.2 e,U4 p.1 p.2 e);have:=zkc p.1 p.2 e;simp only [replay,jh] at *;omega
theorem zh2 {es:List Ent} {i:Nat} (p:List Upl × Int) (h:i<es.length):replay p (es.take (i+1))=(zaO (replay p (es.take i)).1 (replay p (es.take i)).2 es[i],U4 (replay p (es.take i)).1 (replay p (es.take i)).2 es[i]):=by
 rw [jB h,UZ];rfl
def wrtC (l:List Upl) (n:Int) (b:Str) (e:Ent):Int:=
 if ¬ zfK l n e=0 then zfK l n e else if ¬ encC e=0 then encC e else wrC b (encM e)
def wrtL (l:List Upl) (n:Int) (b:Str) (e:Ent):List Upl:=if wrtC l n b e=0 then zaO l n e else l
def wrtN (l:List Upl) (n:Int) (b:Str) (e:Ent):Int:=if wrtC l n b e=0 then U4 l n e else n
def wrtB (l:List Upl) (n:Int) (b:Str) (e:Ent):Str:=if wrtC l n b e=0 then b++encB e else b
theorem zah {l:List Upl} {n:Int} (h:zK l n) (b:Str) (e:Ent):zK (wrtL l n b e) (wrtN l n b e):=by
 unfold wrtL wrtN
 split
 · exact zoB h e
 · exact h
theorem zm0 (l:List Upl) (n:Int) (b:Str) (e:Ent):n≤wrtN l n b e∧wrtN l n b e≤n+1:=by
 have:=zkc l n e;unfold wrtN
 split<;>omega
theorem zds {l:List Upl} {n:Int} {b:Str} {e:Ent} (h:wrtC l n b e=0):zfK l n e=0∧mayM e=true∧b.length+(encB e).length≤100000:=by
 unfold wrtC at h
 split at h
 · rename_i h1;exact absurd h h1
 rename_i h1
 split at h
 · rename_i h2;exact absurd h h2
 rename_i h2
 have hm:mayM e=true:=by
  unfold encC at h2
  cases hm:mayM e with
  |true=>rfl
  |false=>rw [hm] at h2;simp at h2
 unfold wrC at h
 split at h
 · rename_i h3
   refine⟨Decidable.not_not.1 h1,hm,?_⟩;unfold encM at h3;rw [if_pos hm] at h3;exact h3
 · cases h
theorem Zm {l:List Upl} {n:Int} {b:Str} (e:Ent) (h:b.length≤100000):(wrtB l n b e).length≤100000:=by
 unfold wrtB
 split
 · rename_i h1
   rw [jk];exact(zds h1).2.2
 · exact h
def crsB (b:Str) (s k:Int):Str:=cuB (crB b s k) (zam (crB b s k))
def crsE (b:Str) (s k:Int):List Ent:=(Jrn.dec (crB b s k)).1
def crsP (b:Str) (s k:Int):List Upl × Int:=replay ([],0) (crsE b s k)
theorem zjd (b:Str):0≤zam b∧zam b≤b.length:=by
 have:=Jrn.zqj b;unfold zam;omega
theorem zsY (b:Str) (s k:Int):cuS (crB b s k) (crB b s k).length (zam (crB b s k))=(crsB b s k).length:=by
 have:=zjd (crB b s k);unfold crsB cuS cuB
 split
 · rw [jv];omega
 · rfl
theorem zeM (b:Str) (s k:Int):(crB b s k).length≤b.length:=by unfold crB;rw [jv];omega
theorem zlq (b:Str) (s k:Int):(crsB b s k).length≤b.length:=by
 have:=zeM b s k;unfold crsB cuB
 split
 · rw [jv];omega
 · exact this
theorem zdk: ∀ {es:List Ent} {e:Ent},e ∈ es→(encB e).length≤(zJ es).length
 | f::es,e,h=>by
   simp only [zJ,jk]
   rcases List.mem_cons.1 h with rfl|h
   · omega
   · have:=zdk h;omega
theorem zsR (e:Ent):e.text.length≤(encB e).length:=by unfold encB enc3;simp only [jk];omega
theorem zmR {b:Str} {s k:Int} (h:b.length≤100000):(crsE b s k).length≤100000∧∀ e ∈ crsE b s k,e.text.length≤100000:=by
 have h1:=zeM b s k;have h2:=Jrn.zqj (crB b s k);have h3:=Jrn.zeI _ (crB b s k) (jL _);have h4:=congrArg List.length h3.1;rw [jk] at h4;unfold crsE
 refine⟨by omega,fun e he=> ?_⟩
 have:=zdk he;have:=zsR e;omega
end Go.Proofs.YtkjepecoodjbmaaGreatDoor
namespace Go.Proofs.YtkjepecoodjbmaaGreatDoor
open Go Go.Sep Go.Ab Go.Jrn
set_option maxRecDepth 100000
def UA:Cfg:= { sl:=[⟨124,0,.upl,some 81⟩,⟨156,0,.byte,some 5⟩]}
def WA (I:Alg) (args:List D) (hp:List HO):Option CT:=match args,hp with
 |[],[]=>(fun(_:Unit)=>(some (.one ⟨I.hid (True),(.ret (.v (.one (.ptr 0 0)))),[.pack [.obj 54 [(.ptr 1 0),(.ptr 2 0)],.pack [.obj 124 [(.row 1),(.p (.int .i64 0))],.row .upl 81 (I.hid ([]))],.pack [.obj 156 [(.row 1),(.p (.int .i64 0))],.row .byte 5 (I.hid ([]))]]]⟩):Option CT)) ()
 |_,_=>none
theorem zfh:zx Tryz.prog 12 (WA alg):=by
 intro args hp r h;unfold WA at h;split at h<;>cases h
 simp only [CT.Good,zi];intro _
 refine spcG zh mixed Tryz.func12 (by kernel_rfl) { UA with keep:=some [0]} [zhU,zhT,zuJ,zuI] (by kernel_rfl) ?_
 intro I X hI hX
 refine orcL ?_;go_invoke;refine orcS (by kernel_rfl) ?_
 simp only [zq,Nat.reduceAdd];subst hI;exact⟨trivial,trivial,trivial,rfl⟩
def znw:Know Tryz.prog:=⟨12,WA,zfh⟩
def znv:Know Tryz.prog:=⟨12,fun I=>zy I (WA I),zf zfh⟩
def Rz (I:Alg) (args:List D) (hp:List HO):Option CT:=match args,hp with
 |[.v (.one (.ptr 0 0)),.v (.agg [(.p (.int .i64 k)),(.p (.int .i64 i)),(.p (.int .i64 m)),(.p (.list .byte t))])],[.pack [.obj 124 [(.row 1),(.p (.int .i64 n))],.row .upl 81 l]]=>(fun(l:List Upl) (n k i m:Int) (t:Str)=>(some (.one ⟨I.hid (zK l n∧n≤1000000∧t.length≤1000000),(.ret (.v (.one (.p (.int .i64 (I.hid ((zfK l n ⟨k,i,m,t⟩)))))))),[.pack [.obj 124 [(.row 1),(.p (.int .i64 (I.hid ((U4 l n ⟨k,i,m,t⟩)))))],.row .upl 81 (I.hid ((zaO l n ⟨k,i,m,t⟩)))]]⟩):Option CT)) l n k i m t
 |_,_=>none
set_option maxHeartbeats 4000000 in
theorem zjq:zx Tryz.prog 110 (Rz alg):=by
 intro args hp r h;unfold Rz at h;split at h<;>cases h
 rename_i k i m t n l
 revert l;intro(l:List Upl)
 simp only [CT.Good,zi];intro hneed;obtain⟨hs,hn,ht⟩:=hneed;generalize hc:zfK l n ⟨k,i,m,t⟩=c;generalize hl:zaO l n ⟨k,i,m,t⟩=l';generalize hN:U4 l n ⟨k,i,m,t⟩=n'
 refine spcG zh mixed Tryz.func110 (by kernel_rfl) { UA with keep:=some [0,1,3,4,5,6,7,10]} [zl1,zl0,zl3,zl2,zhW,zhV,znV,znU,zum,zul,Zv,Zu,XU,XT,zry,zrx] (by kernel_rfl) ?_
 intro I X hI hX
 refine orcL ?_;go_invoke;refine orcS (by kernel_rfl) ?_
 simp only [zq,Nat.reduceAdd];subst hI;simp only [nrmA,nrmB,nrlB,reduceCtorEq,HO.pack.injEq,HO.obj.injEq];unfold zfK at hc;unfold zaO at hl;unfold U4 at hN;simp only at hc hl hN
 have hci:creC l m t=0→creI l n m t=n+1:=fun h=>by unfold creI;rw [if_pos h]
 (repeat' (first|refine ja ?_ ?_|intro _))<;>first|omega|exact jb|exact jc ‹False›|skip
 all_goals first
  |exact hs
  |exact hn
  |exact ht
  |exact⟨hs,hn,ht⟩
  |exact⟨hs,ht⟩
  |(have:=hci (by assumption);((repeat(first|rewrite [if_pos (by first|omega|assumption|(simp only [*,or_self,or_true,true_or,or_false,false_or,jf,jg,jd,je,and_self,and_true,true_and];done)|(simp only [*];omega)|(simp [*];done)|(simp [*];omega))] at hc|rewrite [if_neg (by first|omega|assumption|(simp only [*,or_self,or_true,true_or,or_false,false_or,jf,jg,jd,je,and_self,and_true,true_and];done)|(simp only [*];omega)|(simp [*];done)|(simp [*];omega))] at hc)));subst hc;((repeat(first|rewrite [if_pos (by first|omega|assumption|(simp only [*,or_self,or_true,true_or,or_false,false_or,jf,jg,jd,je,and_self,and_true,true_and];done)|(simp only [*];omega)|(simp [*];done)|(simp [*];omega))] at hl|rewrite [if_neg (by first|omega|assumption|(simp only [*,or_self,or_true,true_or,or_false,false_or,jf,jg,jd,je,and_self,and_true,true_and];done)|(simp only [*];omega)|(simp [*];done)|(simp [*];omega))] at hl)));subst hl;((repeat(first|rewrite [if_pos (by first|omega|assumption|(simp only [*,or_self,or_true,true_or,or_false,false_or,jf,jg,jd,je,and_self,and_true,true_and];done)|(simp only [*];omega)|(simp [*];done)|(simp [*];omega))] at hN|rewrite [if_neg (by first|omega|assumption|(simp only [*,or_self,or_true,true_or,or_false,false_or,jf,jg,jd,je,and_self,and_true,true_and];done)|(simp only [*];omega)|(simp [*];done)|(simp [*];omega))] at hN)));subst hN;first|rfl|omega)
  |(((repeat(first|rewrite [if_pos (by first|omega|assumption|(simp only [*,or_self,or_true,true_or,or_false,false_or,jf,jg,jd,je,and_self,and_true,true_and];done)|(simp only [*];omega)|(simp [*];done)|(simp [*];omega))] at hc|rewrite [if_neg (by first|omega|assumption|(simp only [*,or_self,or_true,true_or,or_false,false_or,jf,jg,jd,je,and_self,and_true,true_and];done)|(simp only [*];omega)|(simp [*];done)|(simp [*];omega))] at hc)));subst hc;((repeat(first|rewrite [if_pos (by first|omega|assumption|(simp only [*,or_self,or_true,true_or,or_false,false_or,jf,jg,jd,je,and_self,and_true,true_and];done)|(simp only [*];omega)|(simp [*];done)|(simp [*];omega))] at hl|rewrite [if_neg (by first|omega|assumption|(simp only [*,or_self,or_true,true_or,or_false,false_or,jf,jg,jd,je,and_self,and_true,true_and];done)|(simp only [*];omega)|(simp [*];done)|(simp [*];omega))] at hl)));subst hl;((repeat(first|rewrite [if_pos (by first|omega|assumption|(simp only [*,or_self,or_true,true_or,or_false,false_or,jf,jg,jd,je,and_self,and_true,true_and];done)|(simp only [*];omega)|(simp [*];done)|(simp [*];omega))] at hN|rewrite [if_neg (by first|omega|assumption|(simp only [*,or_self,or_true,true_or,or_false,false_or,jf,jg,jd,je,and_self,and_true,true_and];done)|(simp only [*];omega)|(simp [*];done)|(simp [*];omega))] at hN)));subst hN;first|rfl|omega)
def zdK:Know Tryz.prog:=⟨110,Rz,zjq⟩
def zdJ:Know Tryz.prog:=⟨110,fun I=>zy I (Rz I),zf zjq⟩
def Zp (I:Alg) (args:List D) (hp:List HO):Option CT:=match args,hp with
 |[.v (.one (.ptr 0 0)),.v (.agg [(.p (.int .i64 k)),(.p (.int .i64 i)),(.p (.int .i64 m)),(.p (.list .byte t))])],[.pack [.obj 54 [(.ptr 1 0),(.ptr 2 0)],.pack [.obj 124 [(.row 1),(.p (.int .i64 n))],.row .upl 81 l],.pack [.obj 156 [(.row 1),(.p (.int .i64 s))],.row .byte 5 b]]]=>(fun(l:List Upl) (n:Int) (b:Str) (s k i m:Int) (t:Str)=>(some (.one ⟨I.hid (zK l n∧n≤200000∧t.length≤1000000∧b.length≤100000),(.ret (.v (.one (.p (.int .i64 (I.hid ((wrtC l n b ⟨k,i,m,t⟩)))))))),[.pack [.obj 54 [(.ptr 1 0),(.ptr 2 0)],.pack [.obj 124 [(.row 1),(.p (.int .i64 (I.hid ((wrtN l n b ⟨k,i,m,t⟩)))))],.row .upl 81 (I.hid ((wrtL l n b ⟨k,i,m,t⟩)))],.pack [.obj 156 [(.row 1),(.p (.int .i64 s))],.row .byte 5 (I.hid ((wrtB l n b ⟨k,i,m,t⟩)))]]]⟩):Option CT)) l n b s k i m t
 |_,_=>none
set_option maxHeartbeats 4000000 in
theorem zav:zx Tryz.prog 105 (Zp alg):=by
 intro args hp r h;unfold Zp at h;split at h<;>cases h
 rename_i k i m t n l s b
 revert l;intro(l:List Upl)
 simp only [CT.Good,zi];intro hneed;obtain⟨hs,hn,ht,hb⟩:=hneed;generalize hc:wrtC l n b ⟨k,i,m,t⟩=c;generalize hl:wrtL l n b ⟨k,i,m,t⟩=l';generalize hN:wrtN l n b ⟨k,i,m,t⟩=n';generalize hB:wrtB l n b ⟨k,i,m,t⟩=b'
 refine spcG zh mixed Tryz.func105 (by kernel_rfl) { UA with keep:=some [0,1,3,4,5,6,7,8]} [zrA,zrz,zqc,zqb,zqZ,zqY,zdK,zdJ] (by kernel_rfl) ?_
 intro I X hI hX
 refine orcL ?_;go_invoke;refine orcS (by kernel_rfl) ?_
 simp only [zq,Nat.reduceAdd];subst hI;simp only [nrmA,nrmB,nrlB,reduceCtorEq,HO.pack.injEq,HO.obj.injEq]
 have hel:(encM ⟨k,i,m,t⟩).length≤2000000:=by
  unfold encM
  split
  · rename_i h
    have:=zsW h;simp only at this;omega
  · simp
 generalize he:(⟨k,i,m,t⟩:Ent)=e at *
 have hem:encC e=0→encM e=encB e:=fun h=>by
  unfold encC at h;unfold encM
  split at h
  · rename_i h2;rw [if_pos h2]
  · cases h
 have hw0: ∀ x:Str,wrC b x=0→wrB b x=b++x:=fun x h=>by
  unfold wrC at h;unfold wrB
  split at h
  · rename_i h2;rw [if_pos h2]
  · cases h
 have hw1: ∀ x:Str,¬ wrC b x=0→wrB b x=b:=fun x h=>by
  unfold wrC at h;unfold wrB
  split at h
  · exact absurd rfl h
  · rename_i h2;rw [if_neg h2]
 unfold wrtL at hl;unfold wrtN at hN;unfold wrtB at hB;rw [hc] at hl hN hB;unfold wrtC at hc
 (repeat' (first|refine ja ?_ ?_|intro _))<;>first|omega|exact jb|exact jc ‹False›|skip
 all_goals first
  |exact hs
  |(((repeat(first|rewrite [if_pos (by first|omega|assumption|(simp only [*,or_self,or_true,true_or,or_false,false_or,jf,jg,jd,je,and_self,and_true,true_and];done)|(simp only [*];omega)|(simp [*];done)|(simp [*];omega))] at hc|rewrite [if_neg (by first|omega|assumption|(simp only [*,or_self,or_true,true_or,or_false,false_or,jf,jg,jd,je,and_self,and_true,true_and];done)|(simp only [*];omega)|(simp [*];done)|(simp [*];omega))] at hc)));subst hc;((repeat(first|rewrite [if_pos (by first|omega|assumption|(simp only [*,or_self,or_true,true_or,or_false,false_or,jf,jg,jd,je,and_self,and_true,true_and];done)|(simp only [*];omega)|(simp [*];done)|(simp [*];omega))] at hl|rewrite [if_neg (by first|omega|assumption|(simp only [*,or_self,or_true,true_or,or_false,false_or,jf,jg,jd,je,and_self,and_true,true_and];done)|(simp only [*];omega)|(simp [*];done)|(simp [*];omega))] at hl)));subst hl;((repeat(first|rewrite [if_pos (by first|omega|assumption|(simp only [*,or_self,or_true,true_or,or_false,false_or,jf,jg,jd,je,and_self,and_true,true_and];done)|(simp only [*];omega)|(simp [*];done)|(simp [*];omega))] at hN|rewrite [if_neg (by first|omega|assumption|(simp only [*,or_self,or_true,true_or,or_false,false_or,jf,jg,jd,je,and_self,and_true,true_and];done)|(simp only [*];omega)|(simp [*];done)|(simp [*];omega))] at hN)));subst hN;((repeat(first|rewrite [if_pos (by first|omega|assumption|(simp only [*,or_self,or_true,true_or,or_false,false_or,jf,jg,jd,je,and_self,and_true,true_and];done)|(simp only [*];omega)|(simp [*];done)|(simp [*];omega))] at hB|rewrite [if_neg (by first|omega|assumption|(simp only [*,or_self,or_true,true_or,or_false,false_or,jf,jg,jd,je,and_self,and_true,true_and];done)|(simp only [*];omega)|(simp [*];done)|(simp [*];omega))] at hB)));subst hB;first|rfl|omega|exact hw1 _ (by assumption)|(rw [hw0 _ (by assumption),hem (by assumption)]))
def uw:Know Tryz.prog:=⟨105,Zp,zav⟩
def uq:Know Tryz.prog:=⟨105,fun I=>zy I (Zp I),zf zav⟩
def ql (I:Alg) (args:List D) (hp:List HO):Option CT:=match args,hp with
 |[.v (.one (.ptr 0 0)),.v (.one (.p (.int .i64 size))),.v (.one (.p (.str t)))],[.pack [.obj 54 [(.ptr 1 0),(.ptr 2 0)],.pack [.obj 124 [(.row 1),(.p (.int .i64 n))],.row .upl 81 l],.pack [.obj 156 [(.row 1),(.p (.int .i64 s))],.row .byte 5 b]]]=>(fun(l:List Upl) (n:Int) (b:Str) (s size:Int) (t:Str)=>(some (.one ⟨I.hid (zK l n∧n≤200000∧t.length≤1000000∧b.length≤100000),(.ret (.tup [(.one (.p (.int .i64 (I.hid ((if wrtC l n b ⟨1,n+1,size,t⟩=0 then n+1 else 0)))))),(.one (.p (.int .i64 (I.hid ((wrtC l n b ⟨1,n+1,size,t⟩))))))])),[.pack [.obj 54 [(.ptr 1 0),(.ptr 2 0)],.pack [.obj 124 [(.row 1),(.p (.int .i64 (I.hid ((wrtN l n b ⟨1,n+1,size,t⟩)))))],.row .upl 81 (I.hid ((wrtL l n b ⟨1,n+1,size,t⟩)))],.pack [.obj 156 [(.row 1),(.p (.int .i64 s))],.row .byte 5 (I.hid ((wrtB l n b ⟨1,n+1,size,t⟩)))]]]⟩):Option CT)) l n b s size t
 |_,_=>none
theorem TP:zx Tryz.prog 180 (ql alg):=by
 intro args hp r h;unfold ql at h;split at h<;>cases h
 rename_i size t n l s b
 revert l;intro(l:List Upl)
 simp only [CT.Good,zi];intro hneed;have hn0:=hneed.1.n0
 refine spcG zh mixed Tryz.func180 (by kernel_rfl) { UA with keep:=some [0,1,2,6,7,8,9]} [zrv,zru,uw,uq] (by kernel_rfl) ?_
 intro I X hI hX
 refine orcL ?_;go_invoke;refine orcS (by kernel_rfl) ?_
 simp only [zq,Nat.reduceAdd];subst hI;simp only [nrmA,nrmB,nrlB,reduceCtorEq,HO.pack.injEq,HO.obj.injEq]
 exact⟨⟨hn0,by omega⟩,hneed,fun h=>(if_neg h).symm,fun h=>⟨(if_pos h).symm,h.symm⟩⟩
def TN:Know Tryz.prog:=⟨180,ql,TP⟩
def TM:Know Tryz.prog:=⟨180,fun I=>zy I (ql I),zf TP⟩
def apG (l:List Upl) (id off:Int):Bool:=getB l id&&(decide ((getU l id).sent=0)&& !decide (off=(getU l id).bytes.length))
def apE (id:Int) (x:Str):Ent:=⟨2,id,0,x⟩
def qm (I:Alg) (args:List D) (hp:List HO):Option CT:=match args,hp with
 |[.v (.one (.ptr 0 0)),.v (.one (.p (.int .i64 id))),.v (.one (.p (.int .i64 off))),.v (.one (.p (.list .byte x)))],[.pack [.obj 54 [(.ptr 1 0),(.ptr 2 0)],.pack [.obj 124 [(.row 1),(.p (.int .i64 n))],.row .upl 81 l],.pack [.obj 156 [(.row 1),(.p (.int .i64 s))],.row .byte 5 b]]]=>(fun(l:List Upl) (n:Int) (b:Str) (s id off:Int) (x:Str)=>(some (.one ⟨I.hid (zK l n∧n≤200000∧x.length≤1000000∧b.length≤100000),(.ret (.v (.one (.p (.int .i64 (I.hid ((if apG l id off then 17 else wrtC l n b ⟨2,id,0,x⟩)))))))),[.pack [.obj 54 [(.ptr 1 0),(.ptr 2 0)],.pack [.obj 124 [(.row 1),(.p (.int .i64 (I.hid ((if apG l id off then n else wrtN l n b ⟨2,id,0,x⟩)))))],.row .upl 81 (I.hid ((if apG l id off then l else wrtL l n b ⟨2,id,0,x⟩)))],.pack [.obj 156 [(.row 1),(.p (.int .i64 s))],.row .byte 5 (I.hid ((if apG l id off then b else wrtB l n b ⟨2,id,0,x⟩)))]]]⟩):Option CT)) l n b s id off x
 |_,_=>none
theorem TQ:zx Tryz.prog 185 (qm alg):=by
 intro args hp r h;unfold qm at h;split at h<;>cases h
 rename_i id off x n l s b
 revert l;intro(l:List Upl)
 simp only [CT.Good,zi];intro hneed;generalize hg:apG l id off=g
 refine spcG zh mixed Tryz.func185 (by kernel_rfl) { UA with keep:=some [0,1,2,3,8,9,10]} [Zv,Zu,XU,XT,uw,uq] (by kernel_rfl) ?_
 intro I X hI hX
 refine orcL ?_;go_invoke;refine orcS (by kernel_rfl) ?_
 simp only [zq,Nat.reduceAdd];subst hI;simp only [nrmA,nrmB,nrlB,reduceCtorEq,HO.pack.injEq,HO.obj.injEq]
 (repeat' (first|refine ja ?_ ?_|intro _))<;>first|omega|exact jb|exact jc ‹False›|skip
 all_goals first
  |exact hneed.1
  |exact hneed
  |exact hneed.2.1
  |exact hneed.2.2.1
  |exact hneed.2.2.2
  |(have h:g=true:=(by rw [← hg];unfold apG;simp [*]);subst h;rfl)
  |(have h:g=false:=(by rw [← hg];unfold apG;simp [*]);subst h;rfl)
def xB:Know Tryz.prog:=⟨185,qm,TQ⟩
def xA:Know Tryz.prog:=⟨185,fun I=>zy I (qm I),zf TQ⟩
def sG (I:Alg) (args:List D) (hp:List HO):Option CT:=match args,hp with
 |[.v (.one (.ptr 0 0)),.v (.one (.p (.int .i64 id))),.v (.one (.p (.int .i64 size)))],[.pack [.obj 54 [(.ptr 1 0),(.ptr 2 0)],.pack [.obj 124 [(.row 1),(.p (.int .i64 n))],.row .upl 81 l],.pack [.obj 156 [(.row 1),(.p (.int .i64 s))],.row .byte 5 b]]]=>(fun(l:List Upl) (n:Int) (b:Str) (s id size:Int)=>(some (.one ⟨I.hid (zK l n∧n≤200000∧b.length≤100000),(.ret (.v (.one (.p (.int .i64 (I.hid ((wrtC l n b ⟨3,id,size,[]⟩)))))))),[.pack [.obj 54 [(.ptr 1 0),(.ptr 2 0)],.pack [.obj 124 [(.row 1),(.p (.int .i64 (I.hid ((wrtN l n b ⟨3,id,size,[]⟩)))))],.row .upl 81 (I.hid ((wrtL l n b ⟨3,id,size,[]⟩)))],.pack [.obj 156 [(.row 1),(.p (.int .i64 s))],.row .byte 5 (I.hid ((wrtB l n b ⟨3,id,size,[]⟩)))]]]⟩):Option CT)) l n b s id size
 |_,_=>none
theorem WC:zx Tryz.prog 186 (sG alg):=by
 intro args hp r h;unfold sG at h;split at h<;>cases h
 rename_i id size n l s b
 revert l;intro(l:List Upl)
 simp only [CT.Good,zi];intro hneed
 refine spcG zh mixed Tryz.func186 (by kernel_rfl) { UA with keep:=some [0,1,2,6]} [uw,uq] (by kernel_rfl) ?_
 intro I X hI hX
 refine orcL ?_;go_invoke;refine orcS (by kernel_rfl) ?_
 simp only [zq,Nat.reduceAdd];subst hI;simp only [nrmA,nrmB,nrlB,reduceCtorEq,HO.pack.injEq,HO.obj.injEq]
 exact⟨hneed.1,hneed.2.1,by decide,hneed.2.2⟩
def xw:Know Tryz.prog:=⟨186,sG,WC⟩
def xu:Know Tryz.prog:=⟨186,fun I=>zy I (sG I),zf WC⟩
def YT (I:Alg) (args:List D) (hp:List HO):Option CT:=match args,hp with
 |[.v (.one (.ptr 0 0)),.v (.one (.p (.int .i64 id)))],[.pack [.obj 54 [(.ptr 1 0),(.ptr 2 0)],.pack [.obj 124 [(.row 1),(.p (.int .i64 n))],.row .upl 81 l],.pack [.obj 156 [(.row 1),(.p (.int .i64 s))],.row .byte 5 b]]]=>(fun(l:List Upl) (n:Int) (b:Str) (s id:Int)=>(some (.one ⟨I.hid (zK l n∧n≤200000∧b.length≤100000),(.ret (.v (.one (.p (.int .i64 (I.hid ((wrtC l n b ⟨4,id,0,[]⟩)))))))),[.pack [.obj 54 [(.ptr 1 0),(.ptr 2 0)],.pack [.obj 124 [(.row 1),(.p (.int .i64 (I.hid ((wrtN l n b ⟨4,id,0,[]⟩)))))],.row .upl 81 (I.hid ((wrtL l n b ⟨4,id,0,[]⟩)))],.pack [.obj 156 [(.row 1),(.p (.int .i64 s))],.row .byte 5 (I.hid ((wrtB l n b ⟨4,id,0,[]⟩)))]]]⟩):Option CT)) l n b s id
 |_,_=>none
theorem zca:zx Tryz.prog 134 (YT alg):=by
 intro args hp r h;unfold YT at h;split at h<;>cases h
 rename_i id n l s b
 revert l;intro(l:List Upl)
 simp only [CT.Good,zi];intro hneed
 refine spcG zh mixed Tryz.func134 (by kernel_rfl) { UA with keep:=some [0,1,4]} [uw,uq] (by kernel_rfl) ?_
 intro I X hI hX
 refine orcL ?_;go_invoke;refine orcS (by kernel_rfl) ?_
 simp only [zq,Nat.reduceAdd];subst hI;simp only [nrmA,nrmB,nrlB,reduceCtorEq,HO.pack.injEq,HO.obj.injEq]
 exact⟨hneed.1,hneed.2.1,by decide,hneed.2.2⟩
def wF:Know Tryz.prog:=⟨134,YT,zca⟩
def wE:Know Tryz.prog:=⟨134,fun I=>zy I (YT I),zf zca⟩
def Zr (I:Alg) (args:List D) (hp:List HO):Option CT:=match args,hp with
 |[.v (.one (.ptr 0 0)),.v (.one (.p (.int .i64 id)))],[.pack [.obj 54 [(.ptr 1 0),(.ptr 2 0)],.pack [.obj 124 [(.row 1),(.p (.int .i64 n))],.row .upl 81 l],.pack [.obj 156 [(.row 1),(.p (.int .i64 s))],.row .byte 5 b]]]=>(fun(l:List Upl) (n:Int) (b:Str) (s id:Int)=>(some (.one ⟨I.hid (zK l n∧n≤200000∧b.length≤100000),(.ret (.v (.one (.p (.int .i64 (I.hid ((wrtC l n b ⟨5,id,0,[]⟩)))))))),[.pack [.obj 54 [(.ptr 1 0),(.ptr 2 0)],.pack [.obj 124 [(.row 1),(.p (.int .i64 (I.hid ((wrtN l n b ⟨5,id,0,[]⟩)))))],.row .upl 81 (I.hid ((wrtL l n b ⟨5,id,0,[]⟩)))],.pack [.obj 156 [(.row 1),(.p (.int .i64 s))],.row .byte 5 (I.hid ((wrtB l n b ⟨5,id,0,[]⟩)))]]]⟩):Option CT)) l n b s id
 |_,_=>none
theorem zax:zx Tryz.prog 102 (Zr alg):=by
 intro args hp r h;unfold Zr at h;split at h<;>cases h
 rename_i id n l s b
 revert l;intro(l:List Upl)
 simp only [CT.Good,zi];intro hneed
 refine spcG zh mixed Tryz.func102 (by kernel_rfl) { UA with keep:=some [0,1,4]} [uw,uq] (by kernel_rfl) ?_
 intro I X hI hX
 refine orcL ?_;go_invoke;refine orcS (by kernel_rfl) ?_
 simp only [zq,Nat.reduceAdd];subst hI;simp only [nrmA,nrmB,nrlB,reduceCtorEq,HO.pack.injEq,HO.obj.injEq]
 exact⟨hneed.1,hneed.2.1,by decide,hneed.2.2⟩
def zhO:Know Tryz.prog:=⟨102,Zr,zax⟩
def zhN:Know Tryz.prog:=⟨102,fun I=>zy I (Zr I),zf zax⟩
def WB (I:Alg) (args:List D) (hp:List HO):Option CT:=match args,hp with
 |[.v (.one (.ptr 0 0)),.v (.one (.p (.int .i64 id)))],[.pack [.obj 54 [(.ptr 1 0),(.ptr 2 0)],.pack [.obj 124 [(.row 1),(.p (.int .i64 n))],.row .upl 81 l],.pack [.obj 156 [(.row 1),(.p (.int .i64 s))],.row .byte 5 b]]]=>(fun(l:List Upl) (n:Int) (b:Str) (s id:Int)=>(some (.one ⟨I.hid (zK l n∧n≤200000∧b.length≤100000),(.ret (.v (.one (.p (.int .i64 (I.hid ((wrtC l n b ⟨6,id,0,[]⟩)))))))),[.pack [.obj 54 [(.ptr 1 0),(.ptr 2 0)],.pack [.obj 124 [(.row 1),(.p (.int .i64 (I.hid ((wrtN l n b ⟨6,id,0,[]⟩)))))],.row .upl 81 (I.hid ((wrtL l n b ⟨6,id,0,[]⟩)))],.pack [.obj 156 [(.row 1),(.p (.int .i64 s))],.row .byte 5 (I.hid ((wrtB l n b ⟨6,id,0,[]⟩)))]]]⟩):Option CT)) l n b s id
 |_,_=>none
theorem zfi:zx Tryz.prog 61 (WB alg):=by
 intro args hp r h;unfold WB at h;split at h<;>cases h
 rename_i id n l s b
 revert l;intro(l:List Upl)
 simp only [CT.Good,zi];intro hneed
 refine spcG zh mixed Tryz.func61 (by kernel_rfl) { UA with keep:=some [0,1,4]} [uw,uq] (by kernel_rfl) ?_
 intro I X hI hX
 refine orcL ?_;go_invoke;refine orcS (by kernel_rfl) ?_
 simp only [zq,Nat.reduceAdd];subst hI;simp only [nrmA,nrmB,nrlB,reduceCtorEq,HO.pack.injEq,HO.obj.injEq]
 exact⟨hneed.1,hneed.2.1,by decide,hneed.2.2⟩
def zny:Know Tryz.prog:=⟨61,WB,zfi⟩
def znx:Know Tryz.prog:=⟨61,fun I=>zy I (WB I),zf zfi⟩
def YR (I:Alg) (args:List D) (hp:List HO):Option CT:=match args,hp with
 |[.v (.one (.ptr 0 0))],[.pack [.obj 54 [(.ptr 1 0),(.ptr 2 0)],.pack [.obj 124 [(.row 1),(.p (.int .i64 n))],.row .upl 81 l],.pack [.obj 156 [(.row 1),(.p (.int .i64 s))],.row .byte 5 b]]]=>(fun(l:List Upl) (n:Int) (b:Str) (s:Int)=>(some (.one ⟨I.hid (True),(.ret (.tup [])),[.pack [.obj 54 [(.ptr 1 0),(.ptr 2 0)],.pack [.obj 124 [(.row 1),(.p (.int .i64 n))],.row .upl 81 l],.pack [.obj 156 [(.row 1),(.p (.int .i64 (I.hid ((b.length:Int)))))],.row .byte 5 b]]]⟩):Option CT)) l n b s
 |_,_=>none
theorem zb8:zx Tryz.prog 62 (YR alg):=by
 intro args hp r h;unfold YR at h;split at h<;>cases h
 rename_i n l s b
 revert l;intro(l:List Upl)
 simp only [CT.Good,zi];intro _
 refine spcG zh mixed Tryz.func62 (by kernel_rfl) { UA with keep:=some [0]} [znr,znq] (by kernel_rfl) ?_
 intro I X hI hX
 refine orcL ?_;go_invoke;refine orcS (by kernel_rfl) ?_
 simp only [zq,Nat.reduceAdd];subst hI;simp only [nrmA,nrmB,nrlB,reduceCtorEq,HO.pack.injEq,HO.obj.injEq]
 try trivial
def zO:Know Tryz.prog:=⟨62,YR,zb8⟩
def zN:Know Tryz.prog:=⟨62,fun I=>zy I (YR I),zf zb8⟩
def Zq (I:Alg) (args:List D) (hp:List HO):Option CT:=match args,hp with
 |[.v (.one (.ptr 0 0)),.v (.one (.p (.int .i64 keep)))],[.pack [.obj 54 [(.ptr 1 0),(.ptr 2 0)],.pack [.obj 124 [(.row 1),(.p (.int .i64 n))],.row .upl 81 l],.pack [.obj 156 [(.row 1),(.p (.int .i64 s))],.row .byte 5 b]]]=>(fun(l:List Upl) (n:Int) (b:Str) (s keep:Int)=>(some (.one ⟨I.hid (b.length≤100000∧0≤s∧s≤b.length),(.ret (.tup [])),[.pack [.obj 54 [(.ptr 1 0),(.ptr 2 0)],.pack [.obj 124 [(.row 1),(.p (.int .i64 (I.hid ((crsP b s keep).2))))],.row .upl 81 (I.hid ((crsP b s keep).1))],.pack [.obj 156 [(.row 1),(.p (.int .i64 (I.hid (((crsB b s keep).length:Int)))))],.row .byte 5 (I.hid ((crsB b s keep)))]]]⟩):Option CT)) l n b s keep
 |_,_=>none
set_option maxHeartbeats 4000000 in
theorem zaw:zx Tryz.prog 63 (Zq alg):=by
 intro args hp r h;unfold Zq at h;split at h<;>cases h
 rename_i keep n l s b
 revert l;intro(l:List Upl)
 simp only [CT.Good,zi];intro hneed;obtain⟨hb,hs0,hs1⟩:=hneed;have h1:=zsY b s keep;have h2:=zeM b s keep;have h3:=zmR (s:=s) (k:=keep) hb;have h4:=zjd (crB b s keep);unfold crsP;generalize hP:replay ([],0) (crsE b s keep)=pq;generalize hB:((crsB b s keep).length:Int)=bl at *
 refine spcG zh mixed Tryz.func63 (by kernel_rfl) { UA with fz:=[108],keep:=some [0,1,4,5,7,33,34,35]} [zhU,zhT,zhh,zhg,zlF,zlE,zls,zlr,zqm,zql,zdK,zdJ] (by kernel_rfl) ?_
 intro I X hI hX
 refine orcL ?_;go_invoke;refine orcS (by kernel_rfl) ?_
 simp only [zq,Nat.reduceAdd]
 have hh: ∀ {α:Type} (x:α),I.hid x=x:=by subst hI;intros;rfl
 simp only [hh];unfold crsB at *;unfold crsE at *;rw [h1];generalize hb1:crB b s keep=b1 at *;generalize hu:zam b1=u at *;generalize hb2:cuB b1 u=b2 at *;generalize hes:(Jrn.dec b1).1=es at *
 refine⟨⟨hb,hs0,hs1⟩,by omega,by omega,⟨by omega,by omega,by omega⟩,trivial,?_⟩
 refine zB hI zh mixed [zhU,zhT,zhh,zhg,zlF,zlE,zls,zlr,zqm,zql,zdK,zdJ] hX [0,33,34,35] (fun(k:Nat)=>k≤es.length) (fun(k:Nat)=>⟨[(0,.v (.one (.ptr 0 0))),(33,.v (.one (.row 1))),(34,.v (.one (.p (.int .i64 ((I.len (α:=Ent) es)))))),(35,.v (.one (.p (.int .i64 k))))],[.pack [.obj 54 [(.ptr 1 0),(.ptr 2 0)],.pack [.obj 124 [(.row 1),(.p (.int .i64 ((replay ([],0) (es.take k)).2)))],.row .upl 81 ((replay ([],0) (es.take k)).1)],.pack [.obj 156 [(.row 1),(.p (.int .i64 bl))],.row .byte 5 b2]],.row .ent 182 es],46,none⟩) (fun(k:Nat)=>es.length - k) 0 (by kernel_rfl) (by kernel_rfl) ?_ ?_
 · exact jM _
 rintro k hk A hA;have ho:=Vg (es.take k) ([],0) zdM;have hn:=Qn (es.take k) ([],0);generalize hp:replay ([],0) (es.take k)=p at *
 refine orcL ?_;go_invoke;refine orcS (by kernel_rfl) ?_
 simp only [zq,Nat.reduceAdd];subst hI;simp only [nrmA,nrmB,nrlB,reduceCtorEq]
 have hnk:p.2≤200000:=by
  have:(es.take k).length≤es.length:=by rw [jv];omega
  have h30:=h3.1;simp only at hn;omega
 refine⟨fun c=>⟨⟨by omega,by omega⟩,⟨by omega,by omega⟩,⟨ho,by omega,?_⟩,⟨by omega,by omega⟩,?_⟩,fun c=> ?_⟩
 · rw [show es.getD k ⟨0,0,0,[]⟩=es[k]'(by omega) by simp [show k<es.length by omega]]
   have:=h3.2 _ (List.getElem_mem (l:=es) (n:=k) (by omega))
   omega
 · have hA:=hA (k+1) (by omega) (by omega)
   rw [zh2 _ (by omega),hp] at hA
   have hx:es.getD k ⟨0,0,0,[]⟩=es[k]'(by omega):=by simp [show k<es.length by omega]
   rw [hx];exact hA
 · rw [jq (by omega)] at hp
   rw [← hp,hP]
def zhM:Know Tryz.prog:=⟨63,Zq,zaw⟩
def zhL:Know Tryz.prog:=⟨63,fun I=>zy I (Zq I),zf zaw⟩
end Go.Proofs.YtkjepecoodjbmaaGreatDoor
namespace Go.Proofs.YtkjepecoodjbmaaGreatDoor
open Go Go.Sep Go.Ab
set_option maxRecDepth 100000
end Go.Proofs.YtkjepecoodjbmaaGreatDoor
namespace Go.Proofs.YtkjepecoodjbmaaGreatDoor
open Go Go.Sep Go.Ab
set_option maxRecDepth 100000
theorem zm6 {a b:Upl} (h1:a.id=b.id) (h2:a.size=b.size) (h3:a.note=b.note) (h4:a.sent=b.sent) (h5:a.bytes=b.bytes):a=b:=by
 cases a;cases b;simp_all
theorem Vz {l m:List Upl} {i:Nat} (h1:i<l.length) (h2:i<m.length):(decide (l.drop i=m.drop i))=(decide (l.getD i ⟨0,0,[],[],0⟩=m.getD i ⟨0,0,[],[],0⟩)&&decide (l.drop (i+1)=m.drop (i+1))):=by
 have e1:l.getD i ⟨0,0,[],[],0⟩=l[i]:=by simp [h1]
 have e2:m.getD i ⟨0,0,[],[],0⟩=m[i]:=by simp [h2]
 rw [e1,e2,Bool.eq_iff_iff,jK,decide_eq_true_iff,decide_eq_true_iff,decide_eq_true_iff,jE h1,jE h2,List.cons.injEq]
def RX (I:Alg) (args:List D) (hp:List HO):Option CT:=match args,hp with
 |[.v (.one (.row 0)),.v (.one (.row 1))],[.row .upl 81 l,.row .upl 81 m]=>(fun(l m:List Upl)=>(some (.one ⟨I.hid (l.length≤1000000∧m.length≤1000000),(.ret (.v (.one (.p (.bool (I.hid ((decide (l=m))))))))),[.row .upl 81 l,.row .upl 81 m]⟩):Option CT)) l m
 |_,_=>none
set_option maxHeartbeats 4000000 in
theorem zjI:zx Tryz.prog 16 (RX alg):=by
 intro args hp r h;unfold RX at h;split at h<;>cases h
 rename_i l m
 revert l m;intro(l:List Upl) (m:List Upl)
 simp only [CT.Good,zi];intro hneed;obtain⟨hl,hm⟩:=hneed;generalize hr:decide (l=m)=r
 refine spcG zh mixed Tryz.func16 (by kernel_rfl) { keep:=some [0,1,4,5]} [qw,qp] (by kernel_rfl) ?_
 intro I X hI hX
 refine orcL ?_;go_invoke;refine orcS (by kernel_rfl) ?_
 simp only [zq,Nat.reduceAdd];refine⟨fun c1=> ?_,fun c1=> ?_⟩
 · subst hI
   simp only [nrmA,nrmB] at c1;simp only [nrmA,nrmB];rw [← hr]
   exact(decide_eq_false fun e=>c1 (by rw [e])).symm
 have hlm:l.length=m.length:=by
  subst hI;simp only [nrmA,nrmB] at c1;omega
 refine zB hI zh mixed [qw,qp] hX [0,1,5] (fun(i:Nat)=>i≤l.length∧r=decide (l.drop i=m.drop i)) (fun(i:Nat)=>⟨[(0,.v (.one (.row 0))),(1,.v (.one (.row 1))),(5,.v (.one (.p (.int .i64 i))))],[.row .upl 81 l,.row .upl 81 m],81,none⟩) (fun(i:Nat)=>l.length - i) 0 (by kernel_rfl) (by kernel_rfl) ?_ ?_
 · exact⟨jM _,hr.symm⟩
 rintro i ⟨h1,h2⟩ A hA
 refine orcL ?_;go_invoke;refine orcS (by kernel_rfl) ?_
 simp only [zq,Nat.reduceAdd];subst hI;simp only [nrmA,nrmB,nrlB,reduceCtorEq]
 have hd:i<l.length→_:=fun h=>Vz (l:=l) (m:=m) (i:=i) h (by omega)
 have hend: ¬ i<l.length→r=true:=fun h=>by
  rw [h2,jF (by omega),jF (by omega)];simp
 generalize l.getD i ⟨0,0,[],[],0⟩=x at *;generalize m.getD i ⟨0,0,[],[],0⟩=y at *
 have hx: ¬ x=y→i<l.length→r=false:=fun h hi=>by rw [h2,hd hi,decide_eq_false h,Bool.false_and]
 have hy:x=y→i<l.length→r=decide (l.drop (i+1)=m.drop (i+1)):=fun h hi=>by rw [h2,hd hi,decide_eq_true h,Bool.true_and]
 (repeat' (first|refine ja ?_ ?_|intro _))<;>first|omega|exact jb|exact jc ‹False›|skip
 all_goals first
  |(exact(hx (by rintro rfl;simp_all) (by omega)).symm)
  |(rw [hx (by rintro rfl;simp_all) (by omega)])
  |exact hA (i+1) ⟨by omega,hy (zm6 (by assumption) (by assumption) (by assumption) (by assumption) (by assumption)) (by omega)⟩ (by omega)
  |(rw [hend (by omega)])
  |omega
def WL:Know Tryz.prog:=⟨16,RX,zjI⟩
def WJ:Know Tryz.prog:=⟨16,fun I=>zy I (RX I),zf zjI⟩
def WI (I:Alg) (args:List D) (hp:List HO):Option CT:=match args,hp with
 |[.v (.one (.row 0)),.v (.one (.sub .upl 1 a b))],[.row .upl 81 l,.row .upl 81 m]=>(fun(l m:List Upl) (a b:Int)=>(some (.one ⟨I.hid (l.length≤1000000∧m.length≤1000000∧0≤a∧a≤b∧b≤m.length),(.ret (.v (.one (.p (.bool (I.hid ((decide (l=(m.drop a.toNat).take (b.toNat - a.toNat)))))))))),[.row .upl 81 l,.row .upl 81 m]⟩):Option CT)) l m a b
 |_,_=>none
set_option maxHeartbeats 4000000 in
theorem zfs:zx Tryz.prog 16 (WI alg):=by
 intro args hp r h;unfold WI at h;split at h<;>cases h
 rename_i a b l m
 revert l m;intro(l:List Upl) (m:List Upl)
 simp only [CT.Good,zi];intro hneed;obtain⟨hl,hml,ha,hab,hb⟩:=hneed
 obtain⟨a,rfl⟩: ∃ x:Nat,a=x:=⟨a.toNat,by omega⟩
 obtain⟨b,rfl⟩: ∃ x:Nat,b=x:=⟨b.toNat,by omega⟩
 have hq:((m.drop a).take (b - a)).length=b - a:=by rw [jv,jC];omega
 have hqg: ∀ i,i<b - a→((m.drop a).take (b - a)).getD i ⟨0,0,[],[],0⟩=m.getD (a+i) ⟨0,0,[],[],0⟩:=fun i hi=>by
  simp only [jH,jD,jG,if_pos hi]
 obtain⟨q,hqe⟩: ∃ q,q=(m.drop a).take (b - a):=⟨_,rfl⟩;rw [← hqe] at hq hqg;generalize hr0:decide (l=(m.drop (a:Int).toNat).take ((b:Int).toNat - (a:Int).toNat))=r
 have hr:decide (l=q)=r:=by rw [← hr0];exact decide_eq_decide.2 (by rw [hqe,jJ,jJ])
 refine spcG zh mixed Tryz.func16 (by kernel_rfl) { keep:=some [0,1,4,5]} [qw,qp,WL,WJ] (by kernel_rfl) ?_
 intro I X hI hX
 refine orcL ?_;go_invoke;refine orcS (by kernel_rfl) ?_
 simp only [zq,Nat.reduceAdd];refine⟨fun c1=> ?_,fun c1=> ?_⟩
 · subst hI
   simp only [nrmA,nrmB] at c1;simp only [nrmA,nrmB];rw [← hr]
   exact(decide_eq_false fun e=>c1 (by rw [e,hq];omega)).symm
 have hlm:l.length=q.length:=by
  subst hI;simp only [nrmA,nrmB] at c1;omega
 refine zB hI zh mixed [qw,qp,WL,WJ] hX [0,1,5] (fun(i:Nat)=>i≤l.length∧r=decide (l.drop i=q.drop i)) (fun(i:Nat)=>⟨[(0,.v (.one (.row 0))),(1,.v (.one (.sub .upl 1 (a:Int) (b:Int)))),(5,.v (.one (.p (.int .i64 i))))],[.row .upl 81 l,.row .upl 81 m],81,none⟩) (fun(i:Nat)=>l.length - i) 0 (by kernel_rfl) (by kernel_rfl) ?_ ?_
 · exact⟨jM _,hr.symm⟩
 rintro i ⟨h1,h2⟩ A hA
 refine orcL ?_;go_invoke;refine orcS (by kernel_rfl) ?_
 simp only [zq,Nat.reduceAdd];subst hI;simp only [nrmA,nrmB,nrlB,reduceCtorEq]
 have hd:i<l.length→_:=fun h=>Vz (l:=l) (m:=q) (i:=i) h (by omega)
 have hend: ¬ i<l.length→r=true:=fun h=>by
  rw [h2,jF (by omega),jF (by omega)];simp
 have hqi:i<l.length→q.getD i ⟨0,0,[],[],0⟩=m.getD (a+i) ⟨0,0,[],[],0⟩:=fun h=>hqg i (by omega)
 rw [show((a:Int)+(i:Int)).toNat=a+i by omega]
 generalize l.getD i ⟨0,0,[],[],0⟩=x at *;generalize q.getD i ⟨0,0,[],[],0⟩=y0 at *;generalize m.getD (a+i) ⟨0,0,[],[],0⟩=y at *
 have hx: ¬ x=y→i<l.length→r=false:=fun h hi=>by rw [h2,hd hi,hqi hi,decide_eq_false h,Bool.false_and]
 have hy:x=y→i<l.length→r=decide (l.drop (i+1)=q.drop (i+1)):=fun h hi=>by rw [h2,hd hi,hqi hi,decide_eq_true h,Bool.true_and]
 (repeat' (first|refine ja ?_ ?_|intro _))<;>first|omega|exact jb|exact jc ‹False›|skip
 all_goals first
  |(exact(hx (by rintro rfl;simp_all) (by omega)).symm)
  |(rw [hx (by rintro rfl;simp_all) (by omega)])
  |exact hA (i+1) ⟨by omega,hy (zm6 (by assumption) (by assumption) (by assumption) (by assumption) (by assumption)) (by omega)⟩ (by omega)
  |(rw [hend (by omega)])
  |omega
def zaG:Know Tryz.prog:=⟨16,WI,zfs⟩
def zaF:Know Tryz.prog:=⟨16,fun I=>zy I (WI I),zf zfs⟩
end Go.Proofs.YtkjepecoodjbmaaGreatDoor
namespace Go.Proofs.YtkjepecoodjbmaaGreatDoor
open Go Go.Sep Go.Ab
set_option maxRecDepth 100000
end Go.Proofs.YtkjepecoodjbmaaGreatDoor
namespace Go.Proofs.YtkjepecoodjbmaaGreatDoor
open Go Go.Sep Go.Ab Go.Jrn
set_option maxRecDepth 100000
structure Sto where
 l:List Upl
 n:Int
 b:Str
 s:Int
def zxa (n:Int) (x:Sst):Ent:=
 if x.op=0 then⟨1,n+1,x.n,x.text⟩ else if x.op=1 then⟨2,x.id,0,x.text⟩ else if x.op=2 then⟨3,x.id,x.n,[]⟩ else if x.op=3 then⟨4,x.id,0,[]⟩ else if x.op=4 then⟨5,x.id,0,[]⟩ else⟨6,x.id,0,[]⟩
structure zxF (q:Sto):Prop where
 spl:zK q.l q.n
 n:q.n≤150000
 b:q.b.length≤100000
 s0:0≤q.s
 s1:q.s≤q.b.length
end Go.Proofs.YtkjepecoodjbmaaGreatDoor
namespace Go.Proofs.YtkjepecoodjbmaaGreatDoor
open Go Go.Sep Go.Ab Go.Jrn
set_option maxRecDepth 100000
def YS (I:Alg) (args:List D) (hp:List HO):Option CT:=match args,hp with
 |[.v (.one (.ptr 0 0)),.v (.one (.p (.int .i64 m)))],[.pack [.obj 54 [(.ptr 1 0),(.ptr 2 0)],.pack [.obj 124 [(.row 1),(.p (.int .i64 n))],.row .upl 81 l],.pack [.obj 156 [(.row 1),(.p (.int .i64 s))],.row .byte 5 b]]]=>(fun(l:List Upl) (n:Int) (b:Str) (s m:Int)=>(some (.one ⟨I.hid (b.length≤100000),(.ret (.v (.one (.p (.bool (I.hid ((UY b m)))))))),[.pack [.obj 54 [(.ptr 1 0),(.ptr 2 0)],.pack [.obj 124 [(.row 1),(.p (.int .i64 n))],.row .upl 81 l],.pack [.obj 156 [(.row 1),(.p (.int .i64 s))],.row .byte 5 b]]]⟩):Option CT)) l n b s m
 |_,_=>none
theorem zb9:zx Tryz.prog 176 (YS alg):=by
 intro args hp r h;unfold YS at h;split at h<;>cases h
 rename_i m n l s b
 revert l;intro(l:List Upl)
 simp only [CT.Good,zi];intro hneed
 refine spcG zh mixed Tryz.func176 (by kernel_rfl) { UA with keep:=some [0,1,4]} [zoq,zop] (by kernel_rfl) ?_
 intro I X hI hX
 refine orcL ?_;go_invoke;refine orcS (by kernel_rfl) ?_
 simp only [zq,Nat.reduceAdd];subst hI;simp only [nrmA,nrmB,nrlB,reduceCtorEq,HO.pack.injEq,HO.obj.injEq]
 (repeat' (first|refine ja ?_ ?_|intro _))<;>first|omega|exact jb|exact jc ‹False›|skip
def xq:Know Tryz.prog:=⟨176,YS,zb9⟩
def xk:Know Tryz.prog:=⟨176,fun I=>zy I (YS I),zf zb9⟩
end Go.Proofs.YtkjepecoodjbmaaGreatDoor
