/- Texts of this proof, one behind the other: AbN AbP AbO Tab Laid InZ Shelf Lib ChrA ChrB ChrC ParL ParA ParC ParD Fnd FldA FldB FldG FldD FldE ChrD ChrN Base SplL SplA SplB JrnL JrnA JrnB JrnC. -/
import Derived.Deep.LoopGhost
import Derived.Recover
import Derived.Handy
import Derived.Test.YtcclfkakcgnacaaGreatDoorProg
import Derived.WalkKit
import Derived.Lib.ItoaNum
import Derived.Lib.LaidTab
import Derived.WideShapes
import Derived.ChangeArms
import Derived.SizedLaws
import Derived.Shelf.Strings.SlTrimAscii
import Derived.Shelf.Strings.Trim
import Derived.Shelf.Small.Utf8
import Derived.Shelf.Small.Strs
import Derived.Shelf.Small.Wraps
import Derived.Shelf.Strconv.Itoa0
import Derived.Shelf.Strconv.Itoa1
import Derived.Shelf.LaysM
import Derived.Shelf.Strconv.Itoa2
import Derived.Shelf.Strconv.Itoa3
import Derived.Shelf.Strings.Search1
import Derived.Shelf.Strings.Prefix
import Derived.Shelf.Strings.Runes
import Derived.Shelf.Strings.AsciiSet
import Derived.Shelf.Unicode.DecodeSlow
import Derived.Below
import Derived.Test.YtcclfkakcgnacaaGreatDoorMb
set_option linter.all false
namespace Go.Ab
open Go Go.Sep
variable [Facts]
def zku:U→Bool
 |.byte=>true
 |.int=>true
 |.str=>true
 |.fld=>true
 |_=>false
def noLP:P→Bool
 |.list _ _=>false
 |.nl _=>false
 |_=>true
def zfB:Cap→Bool
 |.p x=>noLP x
 |.ptr _ _=>true
def noLC:C→Bool
 |.p x=>noLP x
 |.fpt _ _ _ _=>false
 |.fn _ caps=>caps.all zfB
 |.ifc _ _ ps=>ps.all noLP
 |_=>true
def noLV:V0→Bool
 |.one c=>noLC c
 |.agg cs=>cs.all noLC
def noLD:D→Bool
 |.v x=>noLV x
 |.tup l=>l.all noLV
 |.bad=>true
def noLA:AOut→Bool
 |.ret d=>noLD d
 |.pan c=>noLC c
mutual
def noLO:HO→Bool
 |.obj _ cs=>cs.all noLC
 |.row u _ _=>zku u
 |.pack l=>Qk l
 |.abs _=>false
 |.rws _ _ _ _ _=>false
 |.gone=>true
def Qk:List HO→Bool
 |[]=>true
 |o::r=>noLO o&&Qk r
end
theorem WZ: ∀ {l:List HO} {i:Nat} {o:HO},Qk l=true→l[i]? =some o→noLO o=true
 |[],i,o,_,h=>by simp at h
 |x::l,0,o,hn,h=>by simp only [Qk,jJ] at hn;simp at h;subst h;exact hn.1
 |x::l,i+1,o,hn,h=>by simp only [Qk,jJ] at hn;exact WZ (l:=l) hn.2 (by simpa using h)
section
variable {S S':Frz} {bs:List Value}
theorem MP.noL {p:P} {v:Value} (h:MP S p v) (hn:noLP p=true):MP S' p v:=by
 cases h with
 |int k n=>exact .int k n
 |bool b=>exact .bool b
 |str l h=>exact .str l h
 |list=>cases hn
 |nl=>cases hn
 |val v h=>exact .val v h
theorem MPs.noL: ∀ {ps:List P} {vs:List Value},MPs S ps vs→ps.all noLP=true→MPs S' ps vs
 |[],[],_,_=>trivial
 |p::ps,v::vs,h,hn=>by simp only [List.all_cons,jJ] at hn;exact⟨h.1.noL hn.1,MPs.noL h.2 hn.2⟩
 |[],_::_,h,_=>h.elim
 |_::_,[],h,_=>h.elim
theorem MCap.noL {p:Cap} {v:Value} (h:MCap S bs p v) (hn:zfB p=true):MCap S' bs p v:=by
 cases p with
 |p x=>exact MP.noL h hn
 |ptr k off=>exact h
theorem tN.noL: ∀ {ps:List Cap} {vs:List Value},tN S bs ps vs→ps.all zfB=true→tN S' bs ps vs
 |[],[],_,_=>trivial
 |p::ps,v::vs,h,hn=>by simp only [List.all_cons,jJ] at hn;exact⟨h.1.noL hn.1,tN.noL h.2 hn.2⟩
 |[],_::_,h,_=>h.elim
 |_::_,[],h,_=>h.elim
theorem MC.noL {c:C} {v:Value} (h:MC S bs c v) (hn:noLC c=true):MC S' bs c v:=by
 cases c with
 |p x=>exact MP.noL h hn
 |fpt u l i off=>cases hn
 |fn f caps=>obtain⟨vs,h1,h2⟩:=h;exact⟨vs,h1.noL hn,h2⟩
 | ifc T agg ps=>
   cases agg with
   | false=>cases ps with
     |nil=>exact h.elim
     | cons p ps=>cases ps with
       |nil=>obtain⟨x,h1,h2⟩:=h;exact⟨x,h1.noL (by simpa [noLC] using hn),h2⟩
       |cons _ _=>exact h.elim
   |true=>obtain⟨vs,h1,h2⟩:=h;exact⟨vs,h1.noL hn,h2⟩
 |ptr k off=>exact h
 |ept u k i off=>exact h
 |row k=>exact h
 |sub u k lo hi=>exact h
 |nilS=>exact h
 |any=>exact h
theorem MCs.noL: ∀ {cs:List C} {vs:List Value},MCs S bs cs vs→cs.all noLC=true→MCs S' bs cs vs
 |[],[],_,_=>trivial
 |p::ps,v::vs,h,hn=>by simp only [List.all_cons,jJ] at hn;exact⟨h.1.noL hn.1,MCs.noL h.2 hn.2⟩
 |[],_::_,h,_=>h.elim
 |_::_,[],h,_=>h.elim
theorem MV.noL {x:V0} {v:Value} (h:MV S bs x v) (hn:noLV x=true):MV S' bs x v:=by
 cases x with
 |one c=>exact MC.noL h hn
 |agg cs=>obtain⟨vs,h1,h2⟩:=h;exact⟨vs,h1.noL hn,h2⟩
theorem MVs.noL: ∀ {cs:List V0} {vs:List Value},MVs S bs cs vs→cs.all noLV=true→MVs S' bs cs vs
 |[],[],_,_=>trivial
 |p::ps,v::vs,h,hn=>by simp only [List.all_cons,jJ] at hn;exact⟨h.1.noL hn.1,MVs.noL h.2 hn.2⟩
 |[],_::_,h,_=>h.elim
 |_::_,[],h,_=>h.elim
theorem MD.noL {d:D} {v:Value} (h:MD S bs d v) (hn:noLD d=true):MD S' bs d v:=by
 cases d with
 |v x=>exact MV.noL h hn
 |tup l=>obtain⟨vs,h1,h2⟩:=h;exact⟨vs,h1.noL hn,h2⟩
 |bad=>trivial
theorem EOut.noL {o:AOut} {e:Ending} (h:EOut S bs o e) (hn:noLA o=true):EOut S' bs o e:=by
 cases o with
 | ret d=>cases e with
   |returned v=>exact MD.noL h hn
   |panicked ch=>exact h.elim
   |outgrown=>exact h.elim
 | pan c=>cases e with
   |returned v=>exact h.elim
   |panicked ch=>obtain⟨v,h1,h2⟩:=h;exact⟨v,h1,h2.noL hn⟩
   |outgrown=>exact h.elim
theorem zhQ {u:U} (hu:zku u=true) (x:u.den) {j:Nat} {p:P} (h:(enc alg u x)[j]? =some p):noLP p=true:=by
 cases u<;>cases hu
 all_goals
  rcases j with _|_|j<;>simp [enc,zgi] at h<;>subst h<;>rfl
theorem Rel.noL {o:HO} {c:CO} (h:Rel S bs o c):noLO o=true→Rel S' bs o c:=by
 induction h with
 |obj h=>intro hn;exact .obj (h.noL hn)
 |row hlen hx=>intro hn;exact .row hlen fun i x j p v a b c=>(hx i x j p v a b c).noL (zhQ hn x b)
 |pack hl h ih=>intro hn;exact .pack hl fun i o c a b=>ih i o c a b (WZ hn a)
 |gone=>intro _;exact .gone
 |abs hl h ih=>intro hn;cases hn
 |rws=>intro hn;cases hn
end
theorem At.lend {w:World} {S:Frz} {E size:Nat} {ao:Option Addr} {n cap:Nat} {cs:List Value} {l:List Chunk} (H:At w (rowC E size (.slice ao n cap) n cs::frzC S::l)):
  ∃ S',S.le S'∧At w (frzC S'::l)∧RdS S' size (.slice ao n cap) n cs∧∀ (w':World) (S2:Frz) (m:List Chunk),S'.le S2→At w' (frzC S2::m)→∃ S3,S.le S3∧At w' (rowC E size (.slice ao n cap) n cs::frzC S3::m):=by
 obtain⟨F,A,B,e,dj,hrow,A',B',e',dj',hfrz,hl⟩:=H;obtain⟨hF,hlen,hv⟩:=hrow;obtain⟨hA',h1,h2,h3,h4⟩:=hfrz
 rcases hv with⟨hv,hn⟩|⟨g,cap',cur,fz,hv,hg,hfree,hnc,hcm,hcs,ht⟩
 · cases hv
   have hcs:cs=[]:=List.eq_nil_of_length_eq_zero (by simpa using hlen)
   subst hcs
   exact⟨S,Frz.le.refl S,⟨_,A',B',fun _=>Iff.rfl,dj',⟨hA',h1,h2,h3,h4⟩,hl⟩,fun w' _=>⟨_,0,rfl,jK _,jL _,fun _=>rfl,by simp,fun j u h=>by simp at h⟩,
    fun w' S2 m hle hat=>⟨S2,hle,hat.nilRow _ _⟩⟩
 · cases hv
   have hA: ∀ k,A k↔k=g:=fun k=>by rw [hF k];simp [Value.ownBlock,eq_comm]
   have hgn:S.blk g=none:=by
    cases hS:S.blk g with
    |none=>rfl
    | some o=>
      have:A' g:=(hA' g).2 (by rw [hS];rfl)
      exact(dj g ((hA g).2 rfl) ((e' g).2 (.inl this))).elim
   have hext: ∀ k o,S.blk k=some o→(if k=g then some (.cells cur E fz) else S.blk k)=some o:=fun k o ho=>by
    have:k≠g:=fun hk=>by subst hk;rw [hgn] at ho;cases ho
    simp only [this,if_false];exact ho
   refine⟨S.re S (fun k=>if k=g then some (.cells cur E fz) else S.blk k) rfl rfl rfl hext,⟨rfl,rfl,rfl,hext⟩,⟨F,fun k=>A k∨A' k,B',fun k=>by rw [e k,e' k,or_assoc],?_,⟨fun k=> ?_,h1,h2,h3,fun k o ho=> ?_⟩,hl⟩,fun w' hw'=> ?_,fun w' S2 m hle hat=> ?_⟩
   · rintro k (hk|hk) hB
     · exact dj k hk ((e' k).2 (.inr hB))
     · exact dj' k hk hB
   · show(A k∨A' k)↔(if k=g then some (.cells cur E fz) else S.blk k).isSome=true
     rw [hA k,hA' k]
     by_cases hk:k=g<;>simp [hk]
   · have ho:(if k=g then some (.cells cur E fz) else S.blk k)=some o:=ho
     by_cases hk:k=g
     · subst hk;simp only [if_true,jv] at ho;subst ho;exact hg
     · simp only [hk,if_false] at ho;exact h4 k o ho
   · have hgw:w'.heap[g]? =some (.cells cur E fz):=hw'.2.2.2 g _ (by simp [Frz.re])
     exact Owns.rd ⟨hlen,.inr ⟨g,cap,cur,fz,rfl,hgw,hfree,hnc,hcm,hcs,ht⟩⟩
   · obtain⟨F2,A2,B2,e2,d2,⟨hA2,i1,i2,i3,i4⟩,hm⟩:=hat
     have hS2:S2.blk g=some (.cells cur E fz):=hle.2.2.2 g _ (by simp [Frz.re])
     have hgw:w'.heap[g]? =some (.cells cur E fz):=i4 g _ hS2
     have hshr: ∀ k o,S.blk k=some o→(if k=g then none else S2.blk k)=some o:=fun k o ho=>by
      have hk:k≠g:=fun hk=>by subst hk;rw [hgn] at ho;cases ho
      have:=hle.2.2.2 k o (by simp only [Frz.re,hk,if_false];exact ho)
      simp only [hk,if_false];exact this
     refine⟨S.re S2 (fun k=>if k=g then none else S2.blk k) hle.1 hle.2.1 hle.2.2.1 hshr,⟨hle.1,hle.2.1,hle.2.2.1,hshr⟩,F2,A,fun k=>(A2 k∧k≠g)∨B2 k,fun k=> ?_,fun k hk=> ?_,⟨hF,hlen,.inr ⟨g,cap,cur,fz,rfl,hgw,hfree,hnc,hcm,hcs,ht⟩⟩,fun k=>A2 k∧k≠g,B2,fun _=>Iff.rfl,fun k hk=>d2 k hk.1,⟨fun k=> ?_,i1,i2,i3,fun k o ho=> ?_⟩,hm⟩
     · rw [e2 k,hA k]
       by_cases hk:k=g
       · subst hk
         have:A2 k:=(hA2 k).2 (by rw [hS2];rfl)
         simp [this]
       · simp [hk]
     · have hk:=(hA k).1 hk
       subst hk
       rintro(h|h)
       · exact h.2 rfl
       · exact d2 k ((hA2 k).2 (by rw [hS2];rfl)) h
     · show(A2 k∧k≠g)↔(if k=g then none else S2.blk k).isSome=true
       by_cases hk:k=g
       · simp [hk]
       · simp [hk,hA2 k]
     · have ho:(if k=g then none else S2.blk k)=some o:=ho
       by_cases hk:k=g
       · simp [hk] at ho
       · simp only [hk,if_false] at ho;exact i4 k o ho
theorem Spc.zkm {Pr:Program} {f:Nat} {args args1:List D} {hp hp1 hp':List HO} {out:AOut} {k:Nat} {u:U} {E:Nat} {l:List u.den} (h:Spc Pr f args1 hp1 out hp')
  (hk:hp[k]? =some (.row u E l)) (ha:args.map (D.frz alg k u l)=args1) (hh:setN (hp.map (HO.frz alg k u l)) k .gone=hp1) (ho:noLA out=true) (hp0:Qk hp'=true):
  Spc Pr f args hp out (setN hp' k (.row u E l)):=by
 refine⟨h.1,fun S K fr w vs hHR hargs hat=> ?_⟩;obtain⟨c,hc,hr⟩:=hHR.get hk
 cases hr with
 | @row _ _ _ _ ao cap ws hlen hx=>
   have hbk:=zy hc;obtain⟨p,r,hp1',hp2,hp3⟩:=yj hc;have H:=hat;rw [hp1',zo] at H;have H:=H.perm (zx _ _ _ _ _);obtain⟨S1,hle,hat1,hrd,hback⟩:=At.lend H
   have hf: ∀ c v,MC S (K.map CO.base) c v→MC S1 (K.map CO.base) (c.frz alg k u l) v:=fun c v hm=>
    C.xQ (by rw [hbk];rfl) hlen (fun i x j p v a b c=>(hx i x j p v a b c).mono hle) hrd (hm.mono hle (Ext.refl _))
   have hbs:(K.set k (.gone (.slice ao l.length cap))).map CO.base=K.map CO.base:=zO hc rfl
   have hHR1:HR S1 (K.map CO.base) hp1 (K.set k (.gone (.slice ao l.length cap))):=by
    rw [← hh,zV]
    refine HR.set ⟨by simp [hHR.1],fun i o' c' e1 e2=> ?_⟩ k .gone
    rw [List.getElem?_map,Option.map_eq_some_iff] at e1;obtain⟨o0,e3,rfl⟩:=e1;have:=hHR.2 i o0 c' e3 e2
    cases this with
    |obj hm=>exact .obj (hm.map hf)
    |row a b=>exact .row a fun i x j p v q1 q2 q3=>(b i x j p v q1 q2 q3).mono hle
    |pack a b=>exact .pack a fun i o c q1 q2=>(b i o c q1 q2).mono hle (Ext.refl _)
    |abs a b=>exact .abs a fun i o c q1 q2=>(b i o c q1 q2).mono hle (Ext.refl _)
    |rws a b c d e=>exact .rws a b c (fun i x j p v q1 q2 q3 q4=>(d i x j p v q1 q2 q3 q4).mono hle) e
    |gone=>exact .gone
   have hargs1:MDs S1 (K.map CO.base) args1 vs:=by
    rw [← ha];clear h hHR hHR1 hp2 hp3 ha
    induction args generalizing vs with
    |nil=>cases vs with|nil=>trivial|cons _ _=>exact hargs.elim
    |cons d ds ih=>cases vs with|nil=>exact hargs.elim|cons v vs=>exact⟨D.xQ hf hargs.1,ih vs hargs.2⟩
   have hat2:At w (frzC S1::(CO.zh (K.set k (.gone (.slice ao l.length cap)))++fr)):=by
    rw [hp3,zo];exact(At.void hat1).perm (zx _ _ _ _ _).symm
   refine(h.2 S1 _ fr w vs (by rw [hbs];exact hHR1) (by rw [hbs];exact hargs1) hat2).mono fun e w' he=> ?_
   obtain⟨S2,K2,hle2,hex,hHR2,hat3,heo⟩:=he;rw [hbs] at hex;obtain⟨S3,hle3,hat4⟩:=hback w' S2 _ hle2 hat3;have hb2:=hex k _ hbk
   have hk2:k<K2.length:=by simpa using (jl.1 hb2).1
   have hbs2:(K2.set k (.row E u.size ao l.length cap ws)).map CO.base=K2.map CO.base:=RN hb2
   refine⟨S3,K2.set k (.row E u.size ao l.length cap ws),hle3,by rw [hbs2];exact hex,?_,?_,by rw [hbs2];exact heo.noL ho⟩
   · rw [hbs2,zV]
     exact HR.set ⟨hHR2.1,fun i o c e1 e2=>(hHR2.2 i o c e1 e2).noL (WZ hp0 e1)⟩ k (.row hlen fun i x j p v a b c=>(hx i x j p v a b c).mono hle3)
   · refine At.put hk2 (fr:=fr) (hat4.perm ?_)
     exact(List.Perm.swap _ _ _).trans (List.Perm.cons _ List.perm_middle.symm)
theorem Spc.lend {Pr:Program} {f:Nat} {args args0:List D} {hp0 hp1:List HO} {out0:AOut} (h:Spc Pr f args0 hp0 out0 hp1) (u:U) (E:Nat) (l:List u.den) {os hpr:List HO}
  (hh:(hp0++[HO.row u E l]).map (HO.frz alg hp0.length u l)=hp0++[.row u E l]) (ht:wH (upto 0 hp0.length) (hp0++[.gone])=some (os,hpr)) (hos:os.map (HO.ren fun q=>idx q (upto 0 hp0.length) 0)=hp0)
  (ha:(args.map (D.frz alg hp0.length u l)).map (D.ren fun q=>idx q (upto 0 hp0.length) 0)=args0)
  (ho:noLA (out0.ren (Yv (upto 0 hp0.length) (hp0++[HO.gone]).length))=true) (hn:Qk (uI (Yv (upto 0 hp0.length) (hp0++[HO.gone]).length) (upto 0 hp0.length) hp1 hpr)=true):
  Spc Pr f args (hp0++[.row u E l]) (out0.ren (Yv (upto 0 hp0.length) (hp0++[HO.gone]).length)) (setN (uI (Yv (upto 0 hp0.length) (hp0++[HO.gone]).length) (upto 0 hp0.length) hp1 hpr) hp0.length (.row u E l)):=
 (h.frame (upto 0 hp0.length) ht hos ha).zkm (by simp) rfl (by rw [hh,zV];simp) ho hn
end Go.Ab
namespace Go.Ab
open Go Go.Sep
variable [Facts]
theorem zk {α:Type} (x:α):alg.hid x=x:=rfl
theorem zgI (k:IntKind) (x y:Int):alg.shl k x y=k.wrap (x * 2 ^ (min y.toNat k.bits)):=rfl
theorem zgH (x y:Int):alg.shr x y=x.fdiv (2 ^ (min y.toNat 64)):=rfl
theorem zdD (op:BinOp) (k:IntKind) (x y:Int):alg.bits op k x y=k.wrap (match op with
 |.and=>(BitVec.ofInt k.bits x&&& BitVec.ofInt k.bits y).toNat
 |.or=>(BitVec.ofInt k.bits x|||BitVec.ofInt k.bits y).toNat
 |_=>(BitVec.ofInt k.bits x ^^^ BitVec.ofInt k.bits y).toNat:Nat):=rfl
theorem TW:IntKind.i64.min= -9223372036854775808:=by decide
theorem TY:IntKind.i64.max=9223372036854775807:=by decide
theorem zh4:IntKind.u8.min=0:=by decide
theorem zh5:IntKind.u8.max=255:=by decide
theorem Qg (c:UInt8):UInt8.ofNat ((c.toNat:Int)).toNat=c:=by simp
theorem vN (c d:UInt8):((c.toNat:Int)=(d.toNat:Int))↔c=d:=by
 constructor
 · intro h;exact UInt8.toNat_inj.1 (by omega)
 · intro h;rw [h]
mutual
def Sr {α:Type}:HO→(HO→α)→α
 |.pack l,k=>Yo l fun l=>k (.pack l)
 |.obj t cs,k=>Yp cs fun cs=>k (.obj t cs)
 |.row u E l,k=>k (.row u E l)
 |.abs g,k=>k (.abs g)
 |.rws u E Eb l h,k=>(match h with|none=>k (.rws u E Eb l none)|some (i,m)=>k (.rws u E Eb l (some (i,m))))
 |.gone,k=>k .gone
def Yo {α:Type}:List HO→(List HO→α)→α
 |[],k=>k []
 |o::os,k=>Sr o fun o=>Yo os fun os=>k (o::os)
end
mutual
theorem zef {α:Type}: ∀ (o:HO) (k:HO→α),Sr o k=k o
 |.pack l,k=>by rw [Sr,Yn l]
 |.obj t cs,k=>by rw [Sr,qh]
 |.row u E l,k=>rfl
 |.abs g,k=>rfl
 |.rws u E Eb l h,k=>by cases h<;>rfl
 |.gone,k=>rfl
theorem Yn {α:Type}: ∀ (l:List HO) (k:List HO→α),Yo l k=k l
 |[],k=>rfl
 |o::os,k=>by rw [Yo,zef o,Yn os]
end
def XW {α:Type} (o:AOut) (k:AOut→α):α:=match o with
 |.ret d=>zc3 d fun d=>k (.ret d)
 |.pan c=>zc4 c fun c=>k (.pan c)
theorem zbl {α:Type} (o:AOut) (k:AOut→α):XW o k=k o:=by
 cases o<;>simp only [XW,QV,Vs]
def QS {α:Type} (st:St) (k:St→α):α:=QT st.env fun e=>Yo st.hp fun h=>UD st.n fun n=>match st.df with|none=>k ⟨e,h,n,none⟩|some (g,cs)=>k ⟨e,h,n,some (g,cs)⟩
theorem zfY {α:Type} (st:St) (k:St→α):QS st k=k st:=by
 unfold QS;rw [Vr,Yn];unfold UD;obtain⟨e,h,n,df⟩:=st
 cases n<;>(cases df<;>rfl)
structure CR where
 need:Prop
 out:AOut
 hp:List HO
inductive CT where
 |one (r:CR)
 |br (b:Bool) (t f:CT)
def CT.Good (Pr:Program) (f:Nat) (args:List D) (hp:List HO):CT→Prop
 |.one r=>r.need→Spc Pr f args hp r.out r.hp
 |.br b t e=>(b=true→t.Good Pr f args hp)∧(b=false→e.Good Pr f args hp)
def CT.map (g:CR→CR):CT→CT
 |.one r=>.one (g r)
 |.br b t e=>.br b (t.map g) (e.map g)
def CT.mapO (g:CR→Option CR):CT→Option CT
 |.one r=>match g r with|some r=>some (.one r)|none=>none
 |.br b t e=>match t.mapO g,e.mapO g with|some t,some e=>some (.br b t e)|_,_=>none
def CT.tree (k:CR→Tree):CT→Tree
 |.one r=>k r
 |.br b t e=>.br b (t.tree k) (e.tree k)
theorem CT.Good.map {Pr:Program} {f f':Nat} {args args':List D} {hp hp':List HO} {g:CR→CR} (h: ∀ r:CR,(r.need→Spc Pr f args hp r.out r.hp)→(g r).need→Spc Pr f' args' hp' (g r).out (g r).hp): ∀ {c:CT},c.Good Pr f args hp→(c.map g).Good Pr f' args' hp'
 |.one r,hc=>h r hc
 |.br _ _ _,hc=>⟨fun e=>CT.Good.map h (hc.1 e),fun e=>CT.Good.map h (hc.2 e)⟩
theorem CT.Good.mapO {Pr:Program} {f f':Nat} {args args':List D} {hp hp':List HO} {g:CR→Option CR} (h: ∀ r r':CR,g r=some r'→(r.need→Spc Pr f args hp r.out r.hp)→r'.need→Spc Pr f' args' hp' r'.out r'.hp): ∀ {c c':CT},c.mapO g=some c'→c.Good Pr f args hp→c'.Good Pr f' args' hp'
 | .one r,c',e,hc=>by
   simp only [CT.mapO] at e
   split at e
   · rename_i r' hr;cases e;exact h r r' hr hc
   · cases e
 | .br b t f,c',e,hc=>by
   simp only [CT.mapO] at e
   split at e
   · rename_i t' f' ht hf;cases e;exact⟨fun e=>CT.Good.mapO h ht (hc.1 e),fun e=>CT.Good.mapO h hf (hc.2 e)⟩
   · cases e
abbrev KU:=List D→List HO→Option CT
structure Know (Pr:Program) where
 f:Nat
 c:Alg→List D→List HO→Option CT
 ok: ∀ args hp r,c alg args hp=some r→r.Good Pr f args hp
def zia:List D→List Nat
 |[]=>[]
 |d::ds=>zhl d++zia ds
def U8 (hp:List HO) (args:List D):List Nat:=gather hp 60 (zia args) []
def frameC (c:List D→List HO→Option CT) (args:List D) (hp:List HO):Option CT:=
 match wH (U8 hp args) hp with
 |none=>none
 | some (os,hpr)=>match c (args.map (D.ren fun q=>idx q (U8 hp args) 0)) (os.map (HO.ren fun q=>idx q (U8 hp args) 0)) with
   |none=>none
   |some r=>some (r.map fun r=>match r with|⟨p,o,h⟩=>⟨p,o.ren (Yv (U8 hp args) hp.length),uI (Yv (U8 hp args) hp.length) (U8 hp args) h hpr⟩)
def Vd (I:Alg) (c:List D→List HO→Option CT):Nat→List D→List HO→Option CT
 |0,args,hp=>frameC c args hp
 | n + 1,args,hp=>match nth hp n with
   | some (.row u E l)=>(match Vd I c n (args.map (D.frz I n u l)) (setN (hp.map (HO.frz I n u l)) n .gone) with
     | some r=>r.mapO fun r=>(match noLA r.out,Qk r.hp with
       |true,true=>some ⟨r.need,r.out,setN r.hp n (.row u E l)⟩
       |_,_=>none)
     |none=>none)
   |_=>Vd I c n args hp
def zu (I:Alg) (c:List D→List HO→Option CT) (args:List D) (hp:List HO):Option CT:=Vd I c hp.length args hp
def ask {Pr:Program} (I:Alg):List (Know Pr)→Nat→List D→List HO→Option CT
 |[],_,_,_=>none
 | k::r,f,args,hp=>match Nat.beq k.f f with
   |true=>(match frameC (k.c I) args hp with|some x=>some x|none=>ask I r f args hp)
   |false=>ask I r f args hp
def drive (q:Nat→List D→List HO→Option CT):Tree→Tree
 |.need p t=>.need p (drive q t)
 |.br b t f=>.br b (drive q t) (drive q f)
 | .call f args hp k=>UF hp fun hp=>match q f args hp with
   |some r=>r.tree fun r=>match r with|⟨p,o,h⟩=>.need p (XW o fun o=>UF h fun h=>drive q (k o h))
   |none=>.call f args hp fun o h=>drive q (k o h)
 |.code c st k=>.code c st k
 |.fin o hp=>.fin o hp
 |.both t f=>.both (drive q t) (drive q f)
 |.qed=>.qed
 |.stop n=>.stop n
def zq (Pr:Program) (f:Nat) (c:List D→List HO→Option CT):Prop:=∀ args hp r,c args hp=some r→r.Good Pr f args hp
section
variable {Pr:Program} {T:Tab} {X:Ctx} {G:AOut→List HO→Prop} {a:Act} {w:World}
theorem Vo {f:Nat} {c:List D→List HO→Option CT} (h:zq Pr f c):zq Pr f (frameC c):=by
 intro args hp r hr;unfold frameC at hr
 split at hr
 · cases hr
 · rename_i os hpr ht
   split at hr
   · cases hr
   · rename_i r0 hc
     cases hr;exact CT.Good.map (g:=fun r=>⟨r.need,r.out.ren (Yv (U8 hp args) hp.length),uI (Yv (U8 hp args) hp.length) (U8 hp args) r.hp hpr⟩) (fun r hs hn=>(hs hn).frame _ ht rfl rfl) (h _ _ _ hc)
theorem sS {f:Nat} {c:List D→List HO→Option CT} (h:zq Pr f c): ∀ n,zq Pr f (Vd alg c n)
 |0=>Vo h
 | n + 1 =>by
   intro args hp r hr;unfold Vd at hr
   split at hr
   · rename_i u E l ho
     rw [zG] at ho
     split at hr
     · rename_i r0 hc
       refine CT.Good.mapO (fun r r' hrr hs hn=> ?_) hr (sS h n _ _ _ hc)
       split at hrr
       · rename_i h1 h2
         cases hrr;exact Spc.zkm (hs hn) ho rfl rfl h1 h2
       · cases hrr
     · cases hr
   · exact sS h n _ _ _ hr
theorem zf {f:Nat} {c:List D→List HO→Option CT} (h:zq Pr f c):zq Pr f (zu alg c):=fun args hp=>sS h hp.length args hp
theorem uZ: ∀ {kn:List (Know Pr)} {f:Nat},zq Pr f (ask alg kn f)
 |[],f=>fun args hp r hr=>by cases hr
 | k ::r,f=>fun args hp x hr=>by
   unfold ask at hr
   split at hr
   · rename_i hb
     obtain rfl:=jH hb
     split at hr
     · rename_i y hy;cases hr;exact Vo k.ok args hp _ hy
     · exact uZ args hp x hr
   · exact uZ args hp x hr
theorem CT.yX {f:Nat} {args:List D} {hp:List HO} {k:AOut→List HO→Tree} {k':AOut→List HO→Tree} (ih: ∀ o h,(k' o h).ok Pr X G→(k o h).ok Pr X G): ∀ {c:CT},c.Good Pr f args hp→(c.tree fun r=>.need r.need (k' r.out r.hp)).ok Pr X G→∃ out hp',Spc Pr f args hp out hp'∧(k out hp').ok Pr X G
 |.one r,hc,h=>⟨r.out,r.hp,hc h.1,ih _ _ h.2⟩
 | .br b t e,hc,h=>by
   cases b with
   |true=>exact CT.yX ih (hc.1 rfl) (h.1 rfl)
   |false=>exact CT.yX ih (hc.2 rfl) (h.2 rfl)
theorem ZR {q:Nat→List D→List HO→Option CT} (hq: ∀ f,zq Pr f (q f)): ∀ {t:Tree},(drive q t).ok Pr X G→t.ok Pr X G:=by
 intro t
 induction t with
 |need p t ih=>exact fun h=>⟨h.1,ih h.2⟩
 |br b t f ih1 ih2=>exact fun h=>⟨fun e=>ih1 (h.1 e),fun e=>ih2 (h.2 e)⟩
 | call f args hp k ih=>
   intro h;simp only [drive,Vq,zbl] at h
   split at h
   · rename_i r hr;exact CT.yX (k':=fun o h=>drive q (k o h)) (fun o h=>ih o h) (hq f args hp r hr) h
   · obtain⟨o,hp',h1,h2⟩:=h;exact⟨o,hp',h1,ih _ _ h2⟩
 |code c st k ih=>exact fun h=>h
 |fin o hp=>exact fun h=>h
 |both t f ih1 ih2=>exact fun h=>⟨ih1 h.1,ih2 h.2⟩
 |qed=>exact fun h=>h
 |stop n=>exact fun h=>h
structure Rt where
 B:Code
 K:AEx→St→Tree
def xX (fn:Func):Code:=match fn.body with|some c=>c|none=>.skip
def loopBody:Code→Code
 |.loop b=>b
 |c=>c
def cAt:List Nat→Code→Code
 |[],c=>c
 | n::p,c=>match c with
   |.seq a b=>(match n with|0=>cAt p a|_=>cAt p b)
   |.cond _ t e=>(match n with|0=>cAt p t|_=>cAt p e)
   |.block _ b=>cAt p b
   |c=>c
def kAt (I:Alg) (T:Tab) (cfg:Cfg):List Nat→Code→(AEx→St→Tree)→AEx→St→Tree
 |[],_,K=>K
 | n ::p,c,K=>match c with
   |.seq a b=>(match n with|0=>kAt I T cfg p a (fun e st=>match e with|.normal=>vc I T cfg b K st|e=>K e st)|_=>kAt I T cfg p b K)
   |.cond _ t e=>(match n with|0=>kAt I T cfg p t K|_=>kAt I T cfg p e K)
   | .block id b=>kAt I T cfg p b (fun e st=>match e with
     |.exit j=>(match Nat.beq j id with|true=>K .normal st|false=>K (.exit j) st)
     |e=>K e st)
   |_=>K
def rtAt:Nat→List Rt→Rt
 |_,[]=>⟨.skip,fun _ _=>.stop 50⟩
 |0,r::_=>r
 |n+1,_::l=>rtAt n l
def leaf (I:Alg) (T:Tab) (cfg:Cfg) (R:List Rt) (i:Nat) (p:List Nat) (st:St):Tree:=
 .code (cAt p (rtAt i R).B) st (kAt I T cfg p (rtAt i R).B (rtAt i R).K)
def zkt (I:Alg) (T:Tab) (cfg:Cfg) (c:Code) (K:AEx→St→Tree) (st:St):Tree:=
 match c with
 |.region _ ops draw=>regT I T cfg ops draw K (st.tidy cfg.keep)
 |c=>vc I T cfg c K st
def go (I:Alg) (T:Tab) (cfg:Cfg) (kn:List (Know Pr)) (R:List Rt) (i:Nat) (p:List Nat) (st:St):Tree:=
 drive (ask I kn) (zkt I T cfg (cAt p (rtAt i R).B) (kAt I T cfg p (rtAt i R).B (rtAt i R).K) st)
def cutM (cfg:Cfg) (k0:Nat) (dom:List Nat) (st:St):Option St:=St.cut cfg.fsl k0 dom (qU cfg.mv st)
def zjZ (cfg:Cfg) (k0:Nat) (dom:List Nat) (A:St→Prop) (k:AEx→St→Tree):AEx→St→Tree:=fun e st=>
 match e with
 |.normal=>(match cutM cfg k0 dom st with|some s=>QS s fun s=>.need (A s) .qed|none=>.stop 19)
 |e=>k e st
def round (I:Alg) (T:Tab) (cfg:Cfg) (k0:Nat) (dom:List Nat) (A:St→Prop) (R:List Rt) (i:Nat) (p:List Nat):Rt:=
 ⟨loopBody (cAt p (rtAt i R).B),zjZ cfg k0 dom A (kAt I T cfg p (rtAt i R).B (rtAt i R).K)⟩
inductive PT where
 |need (p:Prop) (t:PT)
 |br (b:Bool) (t f:PT)
 |code (i:Nat) (p:List Nat) (st:St)
 |fin (o:AOut) (hp:List HO)
 |both (t f:PT)
 |qed
 |stop (n:Nat)
def PT.inst (I:Alg) (T:Tab) (cfg:Cfg) (R:List Rt):PT→Tree
 |.need p t=>.need p (t.inst I T cfg R)
 |.br b t f=>.br b (t.inst I T cfg R) (f.inst I T cfg R)
 |.code i p st=>leaf I T cfg R i p st
 |.fin o hp=>.fin o hp
 |.both t f=>.both (t.inst I T cfg R) (f.inst I T cfg R)
 |.qed=>.qed
 |.stop n=>.stop n
theorem Qy {I:Alg} {cfg:Cfg} {R:List Rt} {p:Prop} {t:PT}:Ok Pr X G (PT.inst I T cfg R (.need p t))↔p∧Ok Pr X G (t.inst I T cfg R):=zi5
theorem zfP {I:Alg} {cfg:Cfg} {R:List Rt} {b:Bool} {t f:PT}:Ok Pr X G (PT.inst I T cfg R (.br b t f))↔(b=true→Ok Pr X G (t.inst I T cfg R))∧(b=false→Ok Pr X G (f.inst I T cfg R)):=zk4
theorem QA {I:Alg} {cfg:Cfg} {R:List Rt} {t f:PT}:Ok Pr X G (PT.inst I T cfg R (.both t f))↔Ok Pr X G (t.inst I T cfg R)∧Ok Pr X G (f.inst I T cfg R):=zi6
theorem zcJ {I:Alg} {cfg:Cfg} {R:List Rt} {o:AOut} {hp:List HO}:Ok Pr X G (PT.inst I T cfg R (.fin o hp))↔G o hp:=zki
theorem zcI {I:Alg} {cfg:Cfg} {R:List Rt}:Ok Pr X G (PT.inst I T cfg R .qed)↔True:=zkh
theorem Qx {I:Alg} {cfg:Cfg} {R:List Rt} {n:Nat}:Ok Pr X G (PT.inst I T cfg R (.stop n))↔False:=zi4
theorem Qz {I:Alg} {cfg:Cfg} {R:List Rt} {i:Nat} {p:List Nat} {st:St}:Ok Pr X G (PT.inst I T cfg R (.code i p st))↔Ok Pr X G (leaf I T cfg R i p st):=Iff.rfl
def ZN (cfg:Cfg):Code→Bool
 |.region id _ _=>memN id cfg.seam
 |_=>false
theorem spcG {P:Program} {T:Tab} (hT:T.fits P) (hm:P.follows .mixedOrders=true) {f:Nat} {fn:Func} (hf:P.funcs[f]? =some fn) (hn:(fn.name == "runtime.NumGoroutine")=false) (cfg:Cfg) (kn:List (Know P)) {args:List D} {hp:List HO} {out:AOut} {hp':List HO}
  (hb:(fn.body.isSome&& !ZN cfg (xX fn)&&Nat.ble args.length fn.ntmps)=true)
  (h: ∀ (I:Alg) (X:Ctx),I=alg→X.bs0.length=hp.length→Ok P X (fun o h=>o=out∧h=hp') (go I T cfg kn [⟨xX fn,finK I T cfg hp.length fn⟩] 0 [] { env:=VU 0 args,hp:=hp,n:=fn.ntmps})):Spc P f args hp out hp':=by
 simp only [jJ,Bool.not_eq_true'] at hb;refine zdJ hT hm hf hn (cfg:=cfg) hb.1.1 hb.2 fun I X hI hX=> ?_;subst hI;have h1:=(h alg X rfl hX).out;have h2:=ZR (fun f=>uZ) h1;have hs:=hb.1.2;unfold funT;unfold xX at h2 hs
 cases hbd:fn.body with
 |none=>rw [hbd] at hb;cases hb.1.1
 | some c=>
   rw [hbd] at h2 hs;simp only [rtAt,cAt,kAt] at h2;simp only at hs ⊢
   cases c<;>first|exact h2|skip
   simp only [ZN] at hs;simp only [vc,hs];exact h2
theorem uQ (hT:T.fits Pr) (hm:Pr.follows .mixedOrders=true) {cfg:Cfg} {c:Code} {K:AEx→St→Tree} {st:St} (h:(zkt alg T cfg c K st).ok Pr X G) (hn:Now X st a w):c.wp Pr (Post X fun e st'=>(K e st').ok Pr X G) a w:=by
 cases c with
 |region id ops draw=>exact Ue hT hm h (hn.tidy cfg.keep)
 |_=>exact zbI hT hm (cfg:=cfg) h hn
theorem Yt {cfg:Cfg} {k0:Nat} (hk:X.bs0.length=k0) {dom:List Nat} {st s:St} (hc:cutM cfg k0 dom st=some s) (hn:Now X st a w):Now X s a w:=by
 obtain⟨S,K,hH,hE⟩:=hn;obtain⟨K',h1,h2⟩:=uP cfg.mv hH hE;exact zgm hk hc ⟨S,K',h1,h2⟩
theorem zcD {I:Alg} (hI:I=alg) (hT:T.fits Pr) (hm:Pr.follows .mixedOrders=true) {cfg:Cfg} (kn:List (Know Pr)) {R:List Rt} {i:Nat} {p:List Nat} {st:St} {k0:Nat} (hk:X.bs0.length=k0) (dom:List Nat) {ι:Type} (Inv:ι→Prop) (Iv:ι→St) (μ:ι→Nat) (g0:ι)
  (hc:(match cAt p (rtAt i R).B with|.loop b=> !ZN cfg b|_=>false)=true) (h0:cutM cfg k0 dom st=some (Iv g0)) (hg0:Inv g0)
  (hr: ∀ (g:ι),Inv g→∀ (A:St→Prop),(∀ g',Inv g'→μ g'<μ g→A (Iv g'))→Ok Pr X G (go I T cfg kn (round I T cfg k0 dom A R i p::R) 0 [] (Iv g))):Ok Pr X G (leaf I T cfg R i p st):=by
 subst hI;constructor;unfold leaf;intro S K a w hH hE
 obtain⟨b,hb⟩: ∃ b,cAt p (rtAt i R).B=.loop b:=by
  cases h:cAt p (rtAt i R).B<;>rw [h] at hc<;>first|exact⟨_,rfl⟩|cases hc
 rw [hb];refine wp_loop_ghost (fun n a w=>∃ g,Inv g∧μ g=n∧Now X (Iv g) a w) (μ g0) ⟨g0,hg0,rfl,Yt hk h0 ⟨S,K,hH,hE⟩⟩ ?_;rintro n a w ⟨g,hg,rfl,hn⟩;have h1:=(hr g hg (fun s=>∃ g',Inv g'∧μ g'<μ g∧s=Iv g') (fun g' hi hl=>⟨g',hi,hl,rfl⟩)).out;have h2:=ZR (fun f=>uZ) h1;simp only [rtAt,cAt,kAt,round,hb,loopBody] at h2;refine wp_mono (uQ hT hm h2 hn) fun e a' w' hq=> ?_;obtain⟨e',st',h1,S',K',hH',hE',hem⟩:=hq;generalize kAt alg T cfg p (rtAt i R).B (rtAt i R).K=k at h1;have keep: ∀ {e:Exit} {e':AEx},(∀ (h:e'=.normal),False)→EM S' (K'.map CO.base) e e'→(k e' st').ok Pr X G→Post X (fun e st'=>(k e st').ok Pr X G) e a' w':=fun {e e'} _ hem h=>⟨e',st',h,S',K',hH',hE',hem⟩
 cases e' with
 | normal=>
   cases e with
   | normal=>
     have h1:((match cutM cfg k0 dom st' with|some s=>QS s fun s=>Tree.need (∃ g',Inv g'∧μ g'<μ g∧s=Iv g') .qed|none=>.stop 19):Tree).ok Pr X G:=h1
     split at h1
     · rename_i s hs
       rw [zfY] at h1;obtain⟨⟨g',hi,hlt,rfl⟩,_⟩:=h1;exact⟨μ g',hlt,g',hi,rfl,Yt hk hs ⟨S',K',hH',hE'⟩⟩
     · exact h1.elim
   |exit i=>exact hem.elim
   |goto l=>exact hem.elim
   |ret=>exact hem.elim
   |panic ch=>exact hem.elim
   |outgrown=>exact hem.elim
 | exit j=>cases e with
   |exit i=>exact keep (fun h=>by cases h) hem h1
   |normal=>exact hem.elim
   |goto l=>exact hem.elim
   |ret=>exact hem.elim
   |panic ch=>exact hem.elim
   |outgrown=>exact hem.elim
 | ret=>cases e with
   |ret=>exact keep (fun h=>by cases h) hem h1
   |normal=>exact hem.elim
   |goto l=>exact hem.elim
   |exit j=>exact hem.elim
   |panic ch=>exact hem.elim
   |outgrown=>exact hem.elim
 | pan c=>cases e with
   |panic ch=>exact keep (fun h=>by cases h) hem h1
   |normal=>exact hem.elim
   |goto l=>exact hem.elim
   |exit j=>exact hem.elim
   |ret=>exact hem.elim
   |outgrown=>exact hem.elim
theorem seam {I:Alg} (hI:I=alg) (hT:T.fits Pr) (hm:Pr.follows .mixedOrders=true) {cfg:Cfg} (kn:List (Know Pr)) {R:List Rt} {i:Nat} {p:List Nat} {st:St} {k0:Nat} (hk:X.bs0.length=k0) (dom:List Nat) (st1:St)
  (h0:cutM cfg k0 dom st=some st1) (hr:Ok Pr X G (go I T cfg kn R i p st1)):Ok Pr X G (leaf I T cfg R i p st):=by
 subst hI;constructor;intro S K a w hH hE;exact uQ hT hm (ZR (fun f=>uZ) hr.out) (Yt hk h0 ⟨S,K,hH,hE⟩)
end
section
def rgOf:Code→Option Nat
 |.region id _ _=>some id
 |.seq a b=>match rgOf a with|some r=>some r|none=>rgOf b
 |.cond _ a b=>match rgOf a with|some r=>some r|none=>rgOf b
 |.block _ b=>rgOf b
 |.loop b=>rgOf b
 |_=>none
def isLp:Code→Bool
 |.loop _=>true
 |_=>false
def fndC (lp:Bool) (r:Nat):Code→Option (List Nat)
 |.region id _ _=>match lp,Nat.beq id r with|false,true=>some []|_,_=>none
 |.seq a b=>match fndC lp r a with|some p=>some (0::p)|none=>match fndC lp r b with|some p=>some (1::p)|none=>none
 |.cond _ a b=>match fndC lp r a with|some p=>some (0::p)|none=>match fndC lp r b with|some p=>some (1::p)|none=>none
 |.block _ b=>match fndC lp r b with|some p=>some (0::p)|none=>none
 |.loop b=>match lp,rgOf b with|true,some s=>(match Nat.beq s r with|true=>some []|false=>none)|_,_=>none
 |_=>none
def fndR (lp:Bool) (r:Nat):Nat→List Rt→Option (Nat × List Nat)
 |_,[]=>none
 |i,x::l=>match fndC lp r x.B with|some p=>some (i,p)|none=>fndR lp r (i+1) l
def wrt (R:List Rt):Tree→(PT→Value)→Value
 |.need p t,k=>wrt R t fun t=>k (.need p t)
 |.br b t f,k=>wrt R t fun t=>wrt R f fun f=>k (.br b t f)
 |.call ..,k=>k (.stop 77)
 | .code c st _,k=>match rgOf c with
   | some r=>(match fndR (isLp c) r 0 R with
     |some (i,p)=>QS st fun st=>k (.code i p st)
     |none=>k (.stop 78))
   |none=>k (.stop 79)
 |.fin o hp,k=>XW o fun o=>Yo hp fun hp=>k (.fin o hp)
 |.both t f,k=>wrt R t fun t=>wrt R f fun f=>k (.both t f)
 |.qed,k=>k .qed
 |.stop n,k=>k (.stop n)
def sink (_:PT):Int:=0
def PQ:Program:= { (default:Program) with types:= #[{ (default:TypeInfo) with desc:=.pointer 0,methods:= #[{ name:= "",sig:=0,path:= #[],func:=some (0,true)}]}]}
def Look (_:Result (Nat × Value)):Prop:=True
variable {Pr:Program} {T:Tab} {X:Ctx} {G:AOut→List HO→Prop}
theorem orcL {I:Alg} {cfg:Cfg} {kn:List (Know Pr)} {R:List Rt} {i:Nat} {p:List Nat} {st:St}
 (h:Look (Sem.run PQ (Go.method 1 0 (wrt R (go I T cfg kn R i p st) fun t=>.int .i64 (sink t)) "") default)→Ok Pr X G (go I T cfg kn R i p st)):Ok Pr X G (go I T cfg kn R i p st):=h trivial
theorem orcS {I:Alg} {cfg:Cfg} {kn:List (Know Pr)} {R:List Rt} {i:Nat} {p:List Nat} {st:St} {pt:PT} {w:World}
 (h:go I T cfg kn R i p st=pt.inst I T cfg R) (k:Ok Pr X G (pt.inst I T cfg R)):Look (.ok (0,.int .i64 (sink pt)) w)→Ok Pr X G (go I T cfg kn R i p st):=fun _=>h▸k
end
inductive AM where
 |ret
 |pan (c:C)
def MAM (S:Frz) (bs:List Value):AM→FrameMode→Prop
 |.ret,u=>u=.returning
 |.pan c,u=>∃ v,u=.panicking [{ v:=v,recovered:=false}]∧MC S bs c v
def SpcD (Pr:Program) (g:Nat) (caps:List Cap) (m:AM) (hp:List HO) (m':AM) (hp':List HO):Prop:=
 (∃ fn,Pr.funcs[g]? =some fn∧(fn.name == "runtime.NumGoroutine")=false∧fn.body.isNone=false)∧
 ∀ (S:Frz) (K:List CO) (fr:List Chunk) (w:World) (vs:List Value) (u:FrameMode),HR S (K.map CO.base) hp K→tN S (K.map CO.base) caps vs→At w (frzC S::(CO.zh K++fr))→MAM S (K.map CO.base) m u→
   CallsD Pr g vs.toArray u w fun e u' w'=>(∃ v,e=.returned v)∧∃ S' K',S.le S'∧Ext (K.map CO.base) (K'.map CO.base)∧HR S' (K'.map CO.base) hp' K'∧At w' (frzC S'::(CO.zh K'++fr))∧MAM S' (K'.map CO.base) m' (settle u')
structure Door (Pr:Program) where
 g:Nat
 c:Alg→AM→List Cap→List HO→Option (Prop × AM × List HO)
 ok: ∀ m caps hp p m' hp',c alg m caps hp=some (p,m',hp')→p→SpcD Pr g caps m hp m' hp'
def AM.out:AM→AEx
 |.ret=>.ret
 |.pan c=>.pan c
def zkk:AEx→Option AM
 |.normal=>some .ret
 |.ret=>some .ret
 |.pan c=>some (.pan c)
 |.exit _=>none
def zkw {Pr:Program} (I:Alg) (T:Tab) (cfg:Cfg) (k0:Nat) (fn:Func) (dk:Door Pr) (e:AEx) (st:St):Tree:=
 match st.df with
 |none=>zhL I T cfg k0 fn e st
 | some (g,caps)=>match Nat.beq g dk.g,zkk e with
   | true,some m=>(match dk.c I m caps st.hp with
     |some (p,m',hp')=>.need p (zhL I T cfg k0 fn m'.out { st with hp:=hp',df:=none})
     |none=>.stop 91)
   |_,_=>.stop 92
section
variable {Pr:Program} {T:Tab} {a:Act} {w:World}
theorem zen {g:Nat} {fn:Func} (hfn:Pr.funcs[g]? =some fn) (hname:(fn.name == "runtime.NumGoroutine")=false) (hbody:fn.body.isNone=false) (args:Array Value):(callFunc g args).run Pr w=.ok (.enter g args) w:=by
 have hname': ¬ fn.name= "runtime.NumGoroutine" :=by simpa using hname
 have hbody': ¬ fn.body=none:=by cases hb:fn.body with|none=>rw [hb] at hbody;cases hbody|some c=>simp
 simp [callFunc,program,hfn,Sem.run]
 rw [if_neg hname',if_neg hbody']
theorem zjW {P:Program} {T:Tab} (hT:T.fits P) (hm:P.follows .mixedOrders=true) {f:Nat} {fn:Func} (hf:P.funcs[f]? =some fn) (hn:(fn.name == "runtime.NumGoroutine")=false) (cfg:Cfg) (kn:List (Know P)) (dk:Door P) {args:List D} {hp:List HO} {out:AOut} {hp':List HO}
  (hb:(fn.body.isSome&& !ZN cfg (xX fn)&&Nat.ble args.length fn.ntmps)=true)
  (h: ∀ (I:Alg) (X:Ctx),I=alg→X.bs0.length=hp.length→Ok P X (fun o h=>o=out∧h=hp') (go I T cfg kn [⟨xX fn,zkw I T cfg hp.length fn dk⟩] 0 [] { env:=VU 0 args,hp:=hp,n:=fn.ntmps})):Spc P f args hp out hp':=by
 simp only [jJ,Bool.not_eq_true'] at hb;obtain⟨⟨hb1,hb2⟩,hb3⟩:=hb;obtain⟨c,hc⟩:=Option.isSome_iff_exists.1 hb1
 have hbo:xX fn=c:=by unfold xX;rw [hc]
 refine⟨⟨fn,hf,hn,by rw [hc];rfl⟩,fun S K fr w vs hHR hargs hat=> ?_⟩
 have h1:=(h alg ⟨S,K.map CO.base,fr⟩ rfl (by simp [hHR.1])).out
 have h2:=ZR (fun f=>uZ) h1;simp only [rtAt,cAt,kAt,hbo] at h2;have hal:=hargs.length;have hle:=Nat.le_of_ble_eq_true hb3
 have hnow:Now ⟨S,K.map CO.base,fr⟩ { env:=VU 0 args,hp:=hp,n:=fn.ntmps} { tmps:=vs.toArray++Array.replicate (fn.ntmps - vs.toArray.size) undef,defers:=[]} w:=by
  refine⟨S,K,⟨Frz.le.refl S,Ext.refl _,hHR,hat⟩,⟨?_,rfl,fun t d hd=> ?_⟩⟩
  · simp [hal];omega
  · obtain⟨_,v,h1,h2⟩:=qf hargs hd
    simp only [Nat.sub_zero] at h1;have hlt:=(jl.1 h1).1
    have e:(vs.toArray++Array.replicate (fn.ntmps - vs.toArray.size) undef).getD t undef=v:=by
     rw [Array.getD_eq_getD_getElem?,Array.getElem?_append_left (by simpa using hlt)]
     simp [h1]
    rw [e];exact h2
 refine calls_of_wp_defers hf hc (wp_mono (uQ hT hm h2 hnow) fun e a w' hq=> ?_);obtain⟨e',st',hk,S',K',hH,hE,hem⟩:=hq
 have hlen:(K.map CO.base).length=hp.length:=by simp [hHR.1]
 unfold zkw at hk
 split at hk
 · rename_i hdf
   have hd:a.defers=[]:=by have:=hE.defers;rw [hdf] at this;exact this
   have hfin:=QY (X:=⟨S,K.map CO.base,fr⟩) hT hlen hk hH hE hem
   cases e with
   |normal=>show Leaves P fn a.tmps _ a.defers .returning w';rw [hd];exact hfin
   |ret=>show Leaves P fn a.tmps _ a.defers .returning w';rw [hd];exact hfin
   |panic ch=>show Leaves P fn a.tmps _ a.defers (.panicking ch) w';rw [hd];exact hfin
   |exit i=>exact hfin.elim
   |goto l=>exact hfin.elim
   |outgrown=>exact hfin.elim
 · rename_i g caps hdf
   split at hk
   · rename_i m hg hmo
     have hg:=jH hg
     split at hk
     · rename_i p m' hp2 hc2
       obtain⟨hpn,hk⟩:=hk;have hds:=hE.defers;rw [hdf] at hds;obtain⟨us,hcap,hds⟩:=hds;have hspec:=dk.ok _ _ _ _ _ _ hc2 hpn;rw [← hg] at hspec;obtain⟨⟨gn,hgn,hgname,hgbody⟩,hspec⟩:=hspec
       have key: ∀ u,MAM S' (K'.map CO.base) m u→u≠ .run→Leaves P fn a.tmps (fun e w'=>∃ S' K',S.le S'∧Ext (K.map CO.base) (K'.map CO.base)∧HR S' (K'.map CO.base) hp' K'∧At w' (frzC S'::(CO.zh K'++fr))∧EOut S' (K'.map CO.base) out e) a.defers u w':=by
        intro u hu hrun;rw [hds];refine⟨hrun,_,_,g,us.toArray,rfl,?_,CallsD.mono (hspec S' K' fr w' us u hH.2.2.1 hcap hH.2.2.2 hu) ?_⟩
        · simp only [invoke,Array.empty_append]
          exact zen hgn hgname hgbody _
        · rintro e2 u' w2 ⟨⟨v,rfl⟩,S2,K2,hle2,hex2,hHR2,hat2,hm2⟩
          simp only;have hH2:Heap ⟨S,K.map CO.base,fr⟩ hp2 S2 K2 w2:=⟨hH.1.trans hle2,hH.2.1.trans hex2,hHR2,hat2⟩
          have hE2:Env S2 (K2.map CO.base) { st' with hp:=hp2,df:=none} { a with defers:=[]}:=⟨hE.size,rfl,fun t d hd=>(hE.slots t d hd).mono hle2 hex2⟩
          cases m' with
          | ret=>
            have:settle u'=.returning:=hm2;rw [this];exact QY (X:=⟨S,K.map CO.base,fr⟩) (e:=.ret) hT hlen hk hH2 hE2 trivial
          | pan c=>
            obtain⟨v2,h5,h6⟩:=hm2;rw [h5];exact QY (X:=⟨S,K.map CO.base,fr⟩) (e:=.panic _) hT hlen hk hH2 hE2 ⟨v2,rfl,h6⟩
       cases e with
       |normal=>cases e'<;>first|exact hem.elim|(cases hmo;exact key .returning rfl (by simp))
       |ret=>cases e'<;>first|exact hem.elim|(cases hmo;exact key .returning rfl (by simp))
       |panic ch=>cases e'<;>first|exact hem.elim|(cases hmo;exact key (.panicking ch) (by obtain⟨v,h1,h2⟩:=hem;exact⟨v,by rw [h1],h2⟩) (by simp))
       |exit i=>cases e'<;>first|exact hem.elim|(cases hmo;done)
       |goto l=>cases e'<;>exact hem.elim
       |outgrown=>cases e'<;>exact hem.elim
     · exact hk.elim
   · exact hk.elim
def recC:AM→C
 |.ret=>.p (.val .nilIface)
 |.pan c=>c
theorem Ya {P:Program} {T:Tab} (hT:T.fits P) (hm:P.follows .mixedOrders=true) {f:Nat} {fn:Func} (hf:P.funcs[f]? =some fn) (hn:(fn.name == "runtime.NumGoroutine")=false) (cfg:Cfg) (kn:List (Know P))
  {id t t2 ty0 ty1:Nat} {pos0 pos1:String} {af0 af1:Array Edge} {rest:Code}
  (hb:fn.body=some (.seq (.region id #[⟨some t,.call ⟨.builtin .recover,#[],#[]⟩,ty0,pos0,af0,none⟩,⟨some t2,.assign (.tmp t),ty1,pos1,af1,none⟩] false) rest))
  {m:AM} {caps:List Cap} {hp hp':List HO}
  (hbb:(Nat.blt t fn.ntmps&&Nat.blt t2 fn.ntmps&& !Nat.beq t t2&&Nat.ble caps.length fn.ntmps&& !ZN cfg rest)=true)
  (h: ∀ (I:Alg) (X:Ctx),I=alg→X.bs0.length=hp.length→Ok P X (fun o h=>o=.ret (.tup [])∧h=hp') (go I T cfg kn [⟨xX fn,finK I T cfg hp.length fn⟩] 0 [1] (({ env:=VU 0 (caps.map dP),hp:=hp,n:=fn.ntmps}:St).put (some t) (.v (.one (recC m))) |>.put (some t2) (.v (.one (recC m)))))):SpcD P f caps m hp .ret hp':=by
 simp only [jJ,Bool.not_eq_true'] at hbb;obtain⟨⟨⟨⟨ht,ht2⟩,hne⟩,hle⟩,hseam⟩:=hbb
 have ht:t<fn.ntmps:=by simpa using ht
 have ht2:t2<fn.ntmps:=by simpa using ht2
 have hne:t≠t2:=Nat.ne_of_beq_eq_false hne;have hle:=Nat.le_of_ble_eq_true hle
 refine⟨⟨fn,hf,hn,by rw [hb];rfl⟩,fun S K fr w vs u hHR hcap hat hmode=> ?_⟩
 have h1:=(h alg ⟨S,K.map CO.base,fr⟩ rfl (by simp [hHR.1])).out
 have h2:=ZR (fun f=>uZ) h1
 have hbo:xX fn=.seq (.region id #[⟨some t,.call ⟨.builtin .recover,#[],#[]⟩,ty0,pos0,af0,none⟩,⟨some t2,.assign (.tmp t),ty1,pos1,af1,none⟩] false) rest:=by unfold xX;rw [hb]
 simp only [rtAt,hbo,cAt,kAt] at h2;have hal:=hcap.mds.length;rw [List.length_map] at hal
 have hlen:(K.map CO.base).length=hp.length:=by simp [hHR.1]
 refine callsD_of_wpS hf hb fun c₀ cs hu=> ?_
 obtain⟨x,u1,hrec,hx,hset⟩: ∃ x u1,(match recoverD (c₀::cs) with|some (v,cs')=>(v,cs')|none=>(.nilIface,c₀::cs))=(x,{ c₀ with mode:=u1}::cs)∧MC S (K.map CO.base) (recC m) x∧settle u1=.returning:=by
  cases m with
  | ret=>
    have hmode:u=.returning:=hmode;subst hmode;refine⟨.nilIface,.returning,?_,.val _ rfl,rfl⟩;simp only [recoverD,hu];cases c₀;simp at hu;subst hu;rfl
  | pan c=>
    obtain⟨v,rfl,hv⟩:=hmode;refine⟨v,.panicking [{ v:=v,recovered:=true}],?_,hv,rfl⟩
    simp [recoverD,hu]
 have hnow:Now ⟨S,K.map CO.base,fr⟩ (({ env:=VU 0 (caps.map dP),hp:=hp,n:=fn.ntmps}:St).put (some t) (.v (.one (recC m))) |>.put (some t2) (.v (.one (recC m)))) (({ tmps:=vs.toArray++Array.replicate (fn.ntmps - vs.toArray.size) undef,defers:=[]}:Act).put (some t) x |>.put (some t2) x) w:=by
  have hE0:Env S (K.map CO.base) { env:=VU 0 (caps.map dP),hp:=hp,n:=fn.ntmps} { tmps:=vs.toArray++Array.replicate (fn.ntmps - vs.toArray.size) undef,defers:=[]}:=by
   refine⟨?_,rfl,fun t d hd=> ?_⟩
   · simp [hal];omega
   · obtain⟨_,v,h1,h2⟩:=qf hcap.mds hd
     simp only [Nat.sub_zero] at h1;have hlt:=(jl.1 h1).1
     have e:(vs.toArray++Array.replicate (fn.ntmps - vs.toArray.size) undef).getD t undef=v:=by
      rw [Array.getD_eq_getD_getElem?,Array.getElem?_append_left (by simpa using hlt)]
      simp [h1]
     rw [e];exact h2
  exact⟨S,K,by rw [x9,x9];exact⟨Frz.le.refl S,Ext.refl _,hHR,hat⟩,(hE0.put (some t) (d:=.v (.one (recC m))) hx).put (some t2) (d:=.v (.one (recC m))) hx⟩
 have hw:=uQ hT hm h2 hnow;refine wpS_seq (wpS_region ?_)
 have hsz:t<(vs.toArray++Array.replicate (fn.ntmps - vs.toArray.size) undef).size:=by simp [hal];omega
 have hev:({ tmps:=(vs.toArray++Array.replicate (fn.ntmps - vs.toArray.size) undef).setIfInBounds t x,defers:=[]}:Act).eval (.tmp t)=x:=by
  simp only [Act.eval];rw [Array.getD_eq_getD_getElem?,Array.getElem?_setIfInBounds_self_of_lt hsz];rfl
 have hgoal:rest.wpS P (bodyPostS P fn c₀ cs fun e u' w'=>(∃ v,e=.returned v)∧∃ S' K',S.le S'∧Ext (K.map CO.base) (K'.map CO.base)∧HR S' (K'.map CO.base) hp' K'∧At w' (frzC S'::(CO.zh K'++fr))∧MAM S' (K'.map CO.base) .ret (settle u'))
   (({ tmps:=vs.toArray++Array.replicate (fn.ntmps - vs.toArray.size) undef,defers:=[]}:Act).put (some t) x |>.put (some t2) x) ({ c₀ with mode:=u1}::cs) w:=by
  refine wpS_of_wp (wp_mono hw fun e a' w' hq=> ?_);obtain⟨e',st',hk,S',K',hH,hE,hem⟩:=hq;unfold finK at hk
  split at hk
  case h_2=>exact hk.elim
  rename_i hdf
  have hd:a'.defers=[]:=by have:=hE.defers;rw [hdf] at this;exact this
  have hfin:=QY (X:=⟨S,K.map CO.base,fr⟩) hT hlen hk hH hE hem
  cases e with
  |normal=>obtain⟨v,hv,S2,K2,h5,h6,h7,h8,_⟩:=hfin;exact⟨hd,u1,rfl,v,hv,⟨v,rfl⟩,S2,K2,h5,h6,h7,h8,hset⟩
  |ret=>obtain⟨v,hv,S2,K2,h5,h6,h7,h8,_⟩:=hfin;exact⟨hd,u1,rfl,v,hv,⟨v,rfl⟩,S2,K2,h5,h6,h7,h8,hset⟩
  |panic ch=>obtain⟨S2,K2,h5,h6,h7,h8,h9⟩:=hfin;exact h9.elim
  |exit i=>exact hfin.elim
  |goto l=>exact hfin.elim
  |outgrown=>exact hfin.elim
 clear hnow hw;generalize vs.toArray++Array.replicate (fn.ntmps - vs.toArray.size) undef=tm at hev hgoal hsz ⊢
 have hr0: ∀ (a:Act),(execOp a.eval ⟨some t,.call ⟨.builtin .recover,#[],#[]⟩,ty0,pos0,af0,none⟩).run P w=.ok .recover w:=by
  intro a;simp [execOp,Go.resolve,invoke,builtin]
 simp only [List.size_toArray,jh,ji,Nat.zero_add,Nat.reduceAdd,List.range_succ_eq_map,List.range_zero,List.map_cons,List.map_nil];simp only [wpOpsS,List.getElem?_toArray,List.getElem?_cons_zero,List.getElem?_cons_succ,Region.wanted,if_true,hr0]
 cases hq:recoverD (c₀::cs) with
 | none=>
   rw [hq] at hrec;simp only [Prod.mk.injEq] at hrec;obtain⟨rfl,hcs⟩:=hrec;simp only [Act.put,execOp,Sem.run_pure,hev,Oper.upon,Exit.thenS];rw [hcs];exact hgoal
 | some y=>
   obtain⟨y,cs'⟩:=y;rw [hq] at hrec;simp only [Prod.mk.injEq] at hrec;obtain⟨rfl,rfl⟩:=hrec;simp only [Act.put,execOp,Sem.run_pure,hev,Oper.upon,Exit.thenS];exact hgoal
end
theorem nrmA:type_of% (ja @zbE <| ja @zgK <| ja @xK <| ja @tq <| ja @zbC <| ja @zbB <| ja @zgJ <| ja @zdC <| ja @S9 <| ja @Rf <| ja @VK <| ja @Rh <| ja @Yy <| ja @tu <| ja @VL <| ja @zbD <| ja @VJ <| ja @zI <| ja @Yz <| ja @xJ <| ja @Zb <| ja @VI <| ja @Yw <| ja @Yx <| ja @xZ <| ja @Z8 <| ja @xN <| ja @vO <| ja @SY <| ja @Za <| ja @zk <| ja @zgI <| ja @zgH <| @zdD):=ja @zbE <| ja @zgK <| ja @xK <| ja @tq <| ja @zbC <| ja @zbB <| ja @zgJ <| ja @zdC <| ja @S9 <| ja @Rf <| ja @VK <| ja @Rh <| ja @Yy <| ja @tu <| ja @VL <| ja @zbD <| ja @VJ <| ja @zI <| ja @Yz <| ja @xJ <| ja @Zb <| ja @VI <| ja @Yw <| ja @Yx <| ja @xZ <| ja @Z8 <| ja @xN <| ja @vO <| ja @SY <| ja @Za <| ja @zk <| ja @zgI <| ja @zgH <| @zdD
theorem nrmB:type_of% (ja @decide_eq_true_eq <| ja @decide_eq_false_iff_not <| ja @beq_iff_eq.{0} <| ja @beq_eq_false_iff_ne.{0} <| ja @Bool.not_eq_true' <| ja @Bool.not_eq_false' <| ja @Bool.and_eq_true <| ja @Bool.and_true <| ja @Bool.true_and <| ja @and_true <| ja @true_and <| ja @ne_eq.{1} <| ja @Int.toNat_zero <| ja @Nat.sub_zero <| ja @List.drop_zero.{0} <| ja @TW <| ja @TY <| ja @zh4 <| ja @zh5 <| ja @Qg <| ja @vN <| ja @Int.toNat_natCast <| ja @Int.ofNat_eq_natCast <| ja @UInt8.ofNat_toNat <| ja @AOut.ret.injEq <| ja @AOut.pan.injEq <| ja @C.ifc.injEq <| ja @D.v.injEq <| ja @D.tup.injEq <| ja @V0.one.injEq <| ja @C.p.injEq <| ja @P.bool.injEq <| ja @P.int.injEq <| ja @P.str.injEq <| ja @Bool.false_eq_true <| ja @Bool.true_eq_false <| ja @imp_false <| ja @Decidable.not_not <| ja @not_true_eq_false <| @not_false_eq_true):=ja @decide_eq_true_eq <| ja @decide_eq_false_iff_not <| ja @beq_iff_eq.{0} <| ja @beq_eq_false_iff_ne.{0} <| ja @Bool.not_eq_true' <| ja @Bool.not_eq_false' <| ja @Bool.and_eq_true <| ja @Bool.and_true <| ja @Bool.true_and <| ja @and_true <| ja @true_and <| ja @ne_eq.{1} <| ja @Int.toNat_zero <| ja @Nat.sub_zero <| ja @List.drop_zero.{0} <| ja @TW <| ja @TY <| ja @zh4 <| ja @zh5 <| ja @Qg <| ja @vN <| ja @Int.toNat_natCast <| ja @Int.ofNat_eq_natCast <| ja @UInt8.ofNat_toNat <| ja @AOut.ret.injEq <| ja @AOut.pan.injEq <| ja @C.ifc.injEq <| ja @D.v.injEq <| ja @D.tup.injEq <| ja @V0.one.injEq <| ja @C.p.injEq <| ja @P.bool.injEq <| ja @P.int.injEq <| ja @P.str.injEq <| ja @Bool.false_eq_true <| ja @Bool.true_eq_false <| ja @imp_false <| ja @Decidable.not_not <| ja @not_true_eq_false <| @not_false_eq_true
theorem nrlB:type_of% (ja @List.cons.injEq.{0} <| ja @P.list.injEq <| ja @HO.row.injEq <| ja @heq_eq_eq.{1} <| ja @false_and <| @and_false):=ja @List.cons.injEq.{0} <| ja @P.list.injEq <| ja @HO.row.injEq <| ja @heq_eq_eq.{1} <| ja @false_and <| @and_false
theorem zkD:dflt .byte=(0:UInt8)∧dflt .int=(0:Int)∧dflt .str=([]:Str)∧dflt .fld=(⟨[],[]⟩:Fld)∧dflt .bytes=([]:Str)∧dflt .hd=(⟨[],[],0,[],0⟩:Hd)∧dflt .prt=(⟨[],[],[],[]⟩:Prt)∧dflt .evt=(⟨0,⟨[],[],0,[],0⟩,[],⟨[],[],[],[]⟩,0⟩:Evt)∧dflt .upl=(⟨0,0,[],[],0⟩:Upl)∧dflt .ent=(⟨0,0,0,[]⟩:Ent)∧dflt .stp=(⟨0,0,0,[]⟩:Stp)∧dflt .ask=(⟨⟨[],[],0,[],0⟩,[]⟩:Ask)∧dflt .cal=(⟨0,false,[]⟩:Cal)∧dflt .tri=(⟨0,[],[]⟩:Tri)∧dflt .lst=(⟨0,0,[]⟩:Lst)∧dflt .sst=(⟨0,0,0,[]⟩:Sst)∧dflt .upls=([]:List Upl)∧dflt .strs=([]:List Str)∧dflt .rpl=(⟨0,[],[]⟩:Rpl)∧dflt .med=(⟨[],[]⟩:Med)∧dflt .prw=(⟨[],[],[],[]⟩:Prt):=by repeat' constructor
theorem zl:type_of% (ja @Qy <| ja @zfP <| ja @QA <| ja @zcJ <| ja @zcI <| ja @Qx <| ja @Qz <| ja @Option.getD_some.{0} <| ja @Option.getD_none.{0} <| zkD):=ja @Qy <| ja @zfP <| ja @QA <| ja @zcJ <| ja @zcI <| ja @Qx <| ja @Qz <| ja @Option.getD_some.{0} <| ja @Option.getD_none.{0} <| zkD
end Go.Ab
namespace Go.Ab
open Go Go.Sep Go.RowKit
variable [Facts]
def Holds (W:World):Prop:=∀ w:World,(∀ (k:Nat) (o:Obj),W.heap[k]? =some o→w.heap[k]? =some o)→Facts.p w
def frzW (W:World) (hF:Holds W):Frz:=⟨fun k=>W.heap[k]?,W.os,W.tape,W.output,fun w hw=>hF w hw.2.2.2⟩
theorem tabIs_of {Pr:Program} {W w:World} (h: ∀ (k:Nat) (o:Obj),W.heap[k]? =some o→w.heap[k]? =some o) {name:String} {cs:Array Value} (hv:W.var? Pr name=some cs):w.var? Pr name=some cs:=by
 unfold World.var? at hv ⊢
 cases hg:Pr.globalNamed name with
 |none=>rw [hg] at hv;cases hv
 | some g=>
   rw [hg] at hv;simp only [Option.bind_some] at hv ⊢
   split at hv
   · rename_i cs' t f hc;rw [h _ _ hc];exact hv
   · cases hv
theorem zjt (W:World) (hF:Holds W):At W [frzC (frzW W hF)]:=
 ⟨fun k=>(W.heap[k]?).isSome=true,fun k=>(W.heap[k]?).isSome=true,fun _=>False,fun k=>by simp,fun _ _ h=>h,⟨fun _=>Iff.rfl,rfl,rfl,rfl,fun _ _ h=>h⟩,fun _ h=>h⟩
theorem UA {W w:World} {hF:Holds W} (h:(frzW W hF).on w):Below W.heap.size W w:=by
 obtain⟨h1,h2,h3,h4⟩:=h
 have hb: ∀ k,k<W.heap.size→w.heap[k]? =W.heap[k]? :=fun k hk=>by
  have:W.heap[k]? =some W.heap[k]:=by simp [hk]
  rw [h4 k _ this,this]
 refine⟨h1,h2,h3,?_,hb⟩
 rcases Nat.lt_or_ge w.heap.size W.heap.size with hlt|hge
 · have:=hb w.heap.size hlt
   simp at this
   omega
 · exact hge
theorem zjs {W:World} {hF:Holds W} {size:Nat} {v:Value} {n:Nat} {cs:List Value} (h:Rd W size v n cs):RdS (frzW W hF) size v n cs:=by
 intro w hw;obtain⟨ao,cap,e,h1,h2,h4,h3,hc⟩:=h;refine⟨ao,cap,e,h1,h2,h4,h3,fun j u hu=> ?_⟩;obtain⟨hs,hcell⟩:=hc j u hu;exact⟨hs,((UA hw).cell (block_lt hcell)).trans hcell⟩
theorem Spc.law {Pr:Program} {f:Nat} {args:List D} {hp':List HO} {W:World} {hF:Holds W} {vs:List Value} (h:Spc Pr f args [] (.ret (.v (.one (.p (.bool true))))) hp') (ha:MDs (frzW W hF) [] args vs):
  Calls Pr f vs.toArray W fun e w'=>e=.returned (.bool true)∧Below W.heap.size W w':=by
 refine(h.2 (frzW W hF) [] [] W vs ⟨rfl,fun i o c h=>by simp at h⟩ ha (zjt W hF)).mono fun e w' he=> ?_
 obtain⟨S',K',hle,_,_,hat,ho⟩:=he;refine⟨?_,UA ((At.frz hat).mono hle)⟩
 cases e with
 |returned v=>cases ho;rfl
 |panicked ch=>exact ho.elim
 |outgrown=>exact ho.elim
theorem zji {W:World} {hF:Holds W} {v:Value} {u:U} {R:Sep.Rel u.den} (hR: ∀ cs x,R W cs x→MPs (frzW W hF) (enc alg u x) cs) {xs:List u.den} (h:RSl u.size R W [v] xs):MD (frzW W hF) [] (.v (.one (.p (.list u xs)))) v:=by
 obtain⟨v',vs,e,hr,hx⟩:=h;cases e;have hlen:=hr.len;obtain⟨ao,cap,rfl,_⟩:=id hr;refine MP.list u xs ao cap vs hlen (zjs hr) fun i x j p v hi hj hv=> ?_;have hm:=hR _ _ (hx i x hi);obtain⟨v',h1,h2⟩:=hm.get hj;rw [jC] at h1
 split at h1
 · rw [jF,hv] at h1
   cases h1;exact h2
 · cases h1
theorem zjj {W:World} {hF:Holds W} {cs:List Value} {x:UInt8} (h:zh2 W cs x):MPs (frzW W hF) (enc alg .byte x) cs:=by
 rw [show cs=[bv x] from h];exact⟨.int _ _,trivial⟩
end Go.Ab
namespace Go.Proofs.YtcclfkakcgnacaaGreatDoor
open Go Go.Ab
instance facts:Facts:= { p:=fun w=>Lib.TabIs Tryz.prog w "internal/strconv.uint64pow10" .u64 Lib.pow10Tab,sh:=fun _=>[],ab:=fun _=>none,abok:=fun _ _ h=>by cases h}
def tabT:TT:=
 (.node (.node (.node (.node (.node (.node .nil 2 ⟨.int .i64,1,8,(some [.int .i64 0]),none⟩
 .nil) 3 ⟨.int .i64,1,8,(some [.int .i64 0]),none⟩
 (.node .nil 4 ⟨.bool,1,1,(some [.bool false]),none⟩
 .nil)) 5 ⟨.int .u8,1,1,(some [.int .u8 0]),none⟩
 (.node (.node .nil 9 ⟨.str,1,16,(some [.str []]),none⟩
 .nil) 20 ⟨.iface,1,16,(some [.val .nilIface]),none⟩
 .nil)) 21 ⟨.int .i32,1,4,(some [.int .i32 0]),none⟩
 (.node (.node (.node .nil 22 ⟨.slice 37,1,24,(some [.list .ask []]),(some .ask)⟩
 .nil) 25 ⟨.ptr,1,8,(some [.val (.pointer none)]),none⟩
 (.node .nil 29 ⟨.slice 58,1,24,(some [.list .fld []]),(some .fld)⟩
 .nil)) 30 ⟨.slice 5,1,24,(some [.list .byte []]),(some .byte)⟩
 (.node (.node .nil 32 ⟨.struct [(0,3),(1,29),(2,30)],3,56,(some [.int .i64 0,.list .fld [],.list .byte []]),none⟩
 .nil) 35 ⟨.struct [(0,9),(1,9),(2,3),(3,29),(4,3)],5,72,(some [.str [],.str [],.int .i64 0,.list .fld [],.int .i64 0]),none⟩
 .nil))) 37 ⟨.struct [(0,35),(5,30)],6,96,(some [.str [],.str [],.int .i64 0,.list .fld [],.int .i64 0,.list .byte []]),none⟩
 (.node (.node (.node (.node .nil 43 ⟨.slice 67,1,24,(some [.list .upl []]),(some .upl)⟩
 .nil) 45 ⟨.ptr,1,8,(some [.val (.pointer none)]),none⟩
 (.node .nil 46 ⟨.ptr,1,8,(some [.val (.pointer none)]),none⟩
 .nil)) 48 ⟨.struct [(0,45),(1,46)],2,16,(some [.val (.pointer none),.val (.pointer none)]),none⟩
 (.node (.node .nil 58 ⟨.struct [(0,9),(1,9)],2,32,(some [.str [],.str []]),none⟩
 .nil) 59 ⟨.slice 30,1,24,(some [.list .bytes []]),(some .bytes)⟩
 .nil)) 67 ⟨.struct [(0,3),(1,3),(2,9),(3,30),(4,3)],5,64,(some [.int .i64 0,.int .i64 0,.str [],.list .byte [],.int .i64 0]),none⟩
 (.node (.node (.node .nil 73 ⟨.struct [(0,3),(1,29),(2,30)],3,56,(some [.int .i64 0,.list .fld [],.list .byte []]),none⟩
 .nil) 76 ⟨.ptr,1,8,(some [.val (.pointer none)]),none⟩
 (.node .nil 78 ⟨.struct [(0,25),(1,35)],6,80,(some [.val (.pointer none),.str [],.str [],.int .i64 0,.list .fld [],.int .i64 0]),none⟩
 .nil)) 85 ⟨.slice 9,1,24,(some [.list .str []]),(some .str)⟩
 (.node (.node .nil 90 ⟨.struct [(0,43),(1,3)],2,32,(some [.list .upl [],.int .i64 0]),none⟩
 .nil) 97 ⟨.slice 101,1,24,(some [.list .ent []]),(some .ent)⟩
 .nil)))) 101 ⟨.struct [(0,3),(1,3),(2,3),(3,30)],4,48,(some [.int .i64 0,.int .i64 0,.int .i64 0,.list .byte []]),none⟩
 (.node (.node (.node (.node (.node .nil 104 ⟨.struct [(0,30),(1,3)],2,32,(some [.list .byte [],.int .i64 0]),none⟩
 .nil) 113 ⟨.slice 135,1,24,(some [.list .fld []]),(some .fld)⟩
 (.node .nil 115 ⟨.struct [(0,9),(1,113)],2,40,(some [.str [],.list .fld []]),none⟩
 .nil)) 122 ⟨.ptr,1,8,(some [.val (.pointer none)]),none⟩
 (.node (.node .nil 135 ⟨.struct [(0,9),(1,9)],2,32,(some [.str [],.str []]),none⟩
 .nil) 137 ⟨.other,1,8,(some [.val .nilFunc]),none⟩
 .nil)) 140 ⟨.array 3 3,3,24,(some [.int .i64 0,.int .i64 0,.int .i64 0]),none⟩
 (.node (.node (.node .nil 145 ⟨.int .i64,1,8,(some [.int .i64 0]),none⟩
 .nil) 147 ⟨.ptr,1,8,(some [.val (.pointer none)]),none⟩
 (.node .nil 149 ⟨.struct [(0,9)],1,16,(some [.str []]),none⟩
 .nil)) 155 ⟨.other,1,8,(some [.val .nilFunc]),none⟩
 (.node (.node .nil 164 ⟨.slice 3,1,24,(some [.list .int []]),(some .int)⟩
 .nil) 167 ⟨.array 256 4,256,256,none,none⟩
 .nil))) 171 ⟨.ptr,1,8,(some [.val (.pointer none)]),none⟩
 (.node (.node (.node (.node .nil 172 ⟨.array 24 5,24,24,(some [.int .u8 0,.int .u8 0,.int .u8 0,.int .u8 0,.int .u8 0,.int .u8 0,.int .u8 0,.int .u8 0,.int .u8 0,.int .u8 0,.int .u8 0,.int .u8 0,.int .u8 0,.int .u8 0,.int .u8 0,.int .u8 0,.int .u8 0,.int .u8 0,.int .u8 0,.int .u8 0,.int .u8 0,.int .u8 0,.int .u8 0,.int .u8 0]),none⟩
 .nil) 173 ⟨.int .u64,1,8,(some [.int .u64 0]),none⟩
 (.node .nil 180 ⟨.other,1,8,(some [.val .nilFunc]),none⟩
 .nil)) 181 ⟨.int .u64,1,8,(some [.int .u64 0]),none⟩
 (.node (.node .nil 186 ⟨.array 20 173,20,160,(some [.int .u64 0,.int .u64 0,.int .u64 0,.int .u64 0,.int .u64 0,.int .u64 0,.int .u64 0,.int .u64 0,.int .u64 0,.int .u64 0,.int .u64 0,.int .u64 0,.int .u64 0,.int .u64 0,.int .u64 0,.int .u64 0,.int .u64 0,.int .u64 0,.int .u64 0,.int .u64 0]),none⟩
 .nil) 187 ⟨.int .u32,1,4,(some [.int .u32 0]),none⟩
 .nil)) 188 ⟨.array 65 5,65,65,(some [.int .u8 0,.int .u8 0,.int .u8 0,.int .u8 0,.int .u8 0,.int .u8 0,.int .u8 0,.int .u8 0,.int .u8 0,.int .u8 0,.int .u8 0,.int .u8 0,.int .u8 0,.int .u8 0,.int .u8 0,.int .u8 0,.int .u8 0,.int .u8 0,.int .u8 0,.int .u8 0,.int .u8 0,.int .u8 0,.int .u8 0,.int .u8 0,.int .u8 0,.int .u8 0,.int .u8 0,.int .u8 0,.int .u8 0,.int .u8 0,.int .u8 0,.int .u8 0,.int .u8 0,.int .u8 0,.int .u8 0,.int .u8 0,.int .u8 0,.int .u8 0,.int .u8 0,.int .u8 0,.int .u8 0,.int .u8 0,.int .u8 0,.int .u8 0,.int .u8 0,.int .u8 0,.int .u8 0,.int .u8 0,.int .u8 0,.int .u8 0,.int .u8 0,.int .u8 0,.int .u8 0,.int .u8 0,.int .u8 0,.int .u8 0,.int .u8 0,.int .u8 0,.int .u8 0,.int .u8 0,.int .u8 0,.int .u8 0,.int .u8 0,.int .u8 0,.int .u8 0]),none⟩
 (.node (.node (.node .nil 193 ⟨.array 256 5,256,256,none,none⟩
 .nil) 195 ⟨.struct [(0,5),(1,5)],2,2,(some [.int .u8 0,.int .u8 0]),none⟩
 .nil) 196 ⟨.array 16 195,32,32,(some [.int .u8 0,.int .u8 0,.int .u8 0,.int .u8 0,.int .u8 0,.int .u8 0,.int .u8 0,.int .u8 0,.int .u8 0,.int .u8 0,.int .u8 0,.int .u8 0,.int .u8 0,.int .u8 0,.int .u8 0,.int .u8 0,.int .u8 0,.int .u8 0,.int .u8 0,.int .u8 0,.int .u8 0,.int .u8 0,.int .u8 0,.int .u8 0,.int .u8 0,.int .u8 0,.int .u8 0,.int .u8 0,.int .u8 0,.int .u8 0,.int .u8 0,.int .u8 0]),none⟩
 (.node (.node .nil 199 ⟨.array 32 5,32,32,(some [.int .u8 0,.int .u8 0,.int .u8 0,.int .u8 0,.int .u8 0,.int .u8 0,.int .u8 0,.int .u8 0,.int .u8 0,.int .u8 0,.int .u8 0,.int .u8 0,.int .u8 0,.int .u8 0,.int .u8 0,.int .u8 0,.int .u8 0,.int .u8 0,.int .u8 0,.int .u8 0,.int .u8 0,.int .u8 0,.int .u8 0,.int .u8 0,.int .u8 0,.int .u8 0,.int .u8 0,.int .u8 0,.int .u8 0,.int .u8 0,.int .u8 0,.int .u8 0]),none⟩
 .nil) 200 ⟨.array 64 5,64,64,(some [.int .u8 0,.int .u8 0,.int .u8 0,.int .u8 0,.int .u8 0,.int .u8 0,.int .u8 0,.int .u8 0,.int .u8 0,.int .u8 0,.int .u8 0,.int .u8 0,.int .u8 0,.int .u8 0,.int .u8 0,.int .u8 0,.int .u8 0,.int .u8 0,.int .u8 0,.int .u8 0,.int .u8 0,.int .u8 0,.int .u8 0,.int .u8 0,.int .u8 0,.int .u8 0,.int .u8 0,.int .u8 0,.int .u8 0,.int .u8 0,.int .u8 0,.int .u8 0,.int .u8 0,.int .u8 0,.int .u8 0,.int .u8 0,.int .u8 0,.int .u8 0,.int .u8 0,.int .u8 0,.int .u8 0,.int .u8 0,.int .u8 0,.int .u8 0,.int .u8 0,.int .u8 0,.int .u8 0,.int .u8 0,.int .u8 0,.int .u8 0,.int .u8 0,.int .u8 0,.int .u8 0,.int .u8 0,.int .u8 0,.int .u8 0,.int .u8 0,.int .u8 0,.int .u8 0,.int .u8 0,.int .u8 0,.int .u8 0,.int .u8 0,.int .u8 0]),none⟩
 .nil)))))
def tab:Tab:=tabT.get
theorem wI:tab.fits Tryz.prog:=Tab.zju (by kernel_rfl)
theorem mixed:Tryz.prog.follows .mixedOrders=true:=by kernel_rfl
theorem spH:type_of% (@spcG facts Tryz.prog tab wI mixed):= @spcG facts Tryz.prog tab wI mixed
theorem lpH {X:Ctx} {G:AOut→List HO→Prop} {I:Alg} (hI:I=alg):type_of% (@zcD facts Tryz.prog tab X G I hI wI mixed):= @zcD facts Tryz.prog tab X G I hI wI mixed
end Go.Proofs.YtcclfkakcgnacaaGreatDoor
namespace Go.Ab
open Go
theorem laid_tail {P:Program} {x:String × DataW Unit} {rest:List (String × DataW Unit)} {w:World} (h:laidMet P (x::rest) w):laidMet P rest w:=by
 obtain⟨ps,⟨g,t,cs,fuel,p,q,h1,h2,h3,h4,h5,rfl⟩,hn,hc⟩:=h;exact⟨q,h5,(List.nodup_append.1 hn).2.1,fun b off hm=>hc b off (List.mem_append_right _ hm)⟩
theorem pow10_of {P:Program} {W:World} {d:DataW Unit} {rest:List (String × DataW Unit)} (g t e:Nat) (hd:d=Lib.tabData .u64 Lib.pow10Tab)
  (hg:P.globalNamed "internal/strconv.uint64pow10" =some g) (hty:(P.globals[g]?).map (·.type)=some t) (ht:P.underlying t=some (.array 20 e)) (he:P.underlying e=some (.int .u64)) (hce:P.cellsOf e=1) (hct:P.cellsOf t=20)
  (h:laidMet P (("internal/strconv.uint64pow10",d)::rest) W):Lib.TabIs P W "internal/strconv.uint64pow10" .u64 Lib.pow10Tab:=by
 subst hd;exact Lib.tabIs_of_head hg hty ht he hce hct h
end Go.Ab
namespace Go.Ab
open Go Go.Sep
variable [Facts]
def wfI (n:Int):Prop:= -9223372036854775808≤n∧n≤9223372036854775807
theorem zjI {n:Int} (h:(Lit.int .i64 n).wf=true):wfI n:=by
 simp only [Lit.wf,jJ,decide_eq_true_eq] at h
 have h1:IntKind.i64.min= -9223372036854775808:=by decide
 have h2:IntKind.i64.max=9223372036854775807:=by decide
 rw [h1,h2] at h;exact h
def wfS {α:Type} (s:List α):Prop:=s.length≤140737488355328
def zgY (f:Fld):Prop:=wfS f.name∧wfS f.value
def wfHd (h:Hd):Prop:=wfS h.method∧wfS h.target∧wfI h.minor∧(wfS h.fields∧∀ f ∈ h.fields,zgY f)∧wfI h.length
def ziE (p:Prt):Prop:=wfS p.name∧wfS p.file∧wfS p.type∧wfS p.bytes
def wfZ:(u:U)→u.den→Prop
 |.byte,_=>True
 |.int,n=>wfI n
 |.str,(s:Str)=>wfS s
 |.fld,f=>zgY f
 |.bytes,(b:Str)=>wfS b
 |.hd,h=>wfHd h
 |.prt,p=>ziE p
 |.evt,(e:Evt)=>wfI e.kind∧wfHd e.head∧wfS e.bytes∧ziE e.part∧wfI e.code
 |.upl,(x:Upl)=>wfI x.id∧wfI x.size∧wfS x.note∧wfS x.bytes∧wfI x.sent
 |.ent,(e:Ent)=>wfI e.kind∧wfI e.id∧wfI e.n∧wfS e.text
 |.stp,(e:Stp)=>wfI e.kind∧wfI e.conn∧wfI e.n∧wfS e.bytes
 |.ask,(a:Ask)=>wfHd a.h∧wfS a.body
 |.cal,(c:Cal)=>wfI c.conn∧wfS c.b
 |.lst,(e:Lst)=>wfI e.op∧wfI e.n∧wfS e.b
 |.sst,(e:Sst)=>wfI e.op∧wfI e.id∧wfI e.n∧wfS e.text
 |.rpl,(r:Rpl)=>wfI r.status∧(wfS r.fields∧∀ f ∈ r.fields,zgY f)∧wfS r.body
 |.prw,p=>ziE p
 |.med,(m:Med)=>wfS m.word∧(wfS m.params∧∀ f ∈ m.params,zgY f)
 |_,_=>True
abbrev Small {H:Type} (Pr:Program) (t:TypeId) (d:DataW H):Prop:=(d.weights Pr t).all (· ≤reachBytes)=true
section
variable {H:Type} {hsh:TypeId × Value→H} {Pr:Program} {w:World} {hF:Holds w} {base:Nat} {spare:Nat→Bool} {held:Bool}
def tK (hsh:TypeId × Value→H) (Pr:Program) (w:World) (hF:Holds w) (base:Nat) (spare:Nat→Bool) (held:Bool) (t:TypeId) (Q:List P→Prop):Prop:=
 ∀ fuel cs y,DataW.trod hsh Pr w base spare held fuel t cs=some y→Small Pr t y.1→∃ ps,MPs (frzW w hF) ps cs∧Q ps
theorem tK.mono {t:TypeId} {Q Q':List P→Prop} (h:tK hsh Pr w hF base spare held t Q) (hq: ∀ ps,Q ps→Q' ps):tK hsh Pr w hF base spare held t Q':=by
 intro fuel cs y hy hs;obtain⟨ps,h1,h2⟩:=h fuel cs y hy hs;exact⟨ps,h1,hq _ h2⟩
def QU (u:U) (ps:List P):Prop:=∃ x:u.den,ps=enc alg u x∧wfZ u x
def QL (u:U) (ps:List P):Prop:=∃ l:List u.den,ps=[.list u l]∧wfS l∧∀ x ∈ l,wfZ u x
theorem op_int {t:TypeId} (ht:Pr.underlying t=some (.int .i64)):tK hsh Pr w hF base spare held t (QU .int):=by
 intro fuel cs y h _;obtain⟨n,rfl,hn⟩:=zfn ht fuel cs y h;exact⟨[.int .i64 n],⟨.int _ _,trivial⟩,n,rfl,zjI hn⟩
theorem op_byte {t:TypeId} (ht:Pr.underlying t=some (.int .u8)):tK hsh Pr w hF base spare held t (QU .byte):=by
 intro fuel cs y h _;obtain⟨c,hc⟩:=zdV ht fuel cs y h;exact⟨enc alg .byte c,zjj hc,c,rfl,trivial⟩
theorem zcg {n:Nat} (h:n≤reachBytes):n≤140737488355328:=Nat.le_trans h (by decide)
theorem op_str {t:TypeId} (ht:Pr.underlying t=some .string):tK hsh Pr w hF base spare held t (QU .str):=by
 intro fuel cs y h hs;obtain⟨s,rfl,hy,hl⟩:=DataW.trod_string ht h
 have e:Sep.S s.data.toList=s:=by cases s;rfl
 refine⟨[.str s.data.toList],⟨by rw [← e];exact .str _ (by simpa using hl),trivial⟩,s.data.toList,rfl,?_⟩
 rw [hy] at hs;simp only [Small,DataW.weights,List.all_cons,List.all_nil,Bool.and_true,decide_eq_true_eq] at hs;exact zcg hs
def elemsOf:DataW H→List (DataW H)
 |.slice es _=>es
 |_=>[]
theorem zaI {α:Type} {t e:TypeId} {size:Nat} {R:Sep.Rel α} (ht:Pr.underlying t=some (.slice e)) (hs:Pr.cellsOf e=size) {fuel:Nat} {cs:List Value} {y:DataW H × List MemPlace}
  (h:DataW.trod hsh Pr w base spare held fuel t cs=some y) (he: ∀ n ci z,z.1 ∈ elemsOf y.1→DataW.trod hsh Pr w base spare held n e ci=some z→∃ x,R w ci x):
  ∃ xs,RSl size R w cs xs∧xs.length=(elemsOf y.1).length:=by
 rcases DataW.trod_slice ht h with⟨rfl,rfl⟩|⟨a,len,cap,elems,rest,n,_,rfl,rfl,_,hl,hm,hlen,hel,_,_⟩
 · exact⟨[],⟨_,[],rfl,⟨none,0,rfl,jK _,jL _,fun _=>rfl,by simp,fun j u h=>by simp at h⟩,fun i x h=>by simp at h⟩,rfl⟩
 · subst hs
   have each: ∀ i,i<len→∃ ci:List Value,ci.length=Pr.cellsOf e∧(∀ j u,ci[j]? =some u→w.cell? ((a.add (i * Pr.cellsOf e)).add j)=some u)∧∃ x,R w ci x:=by
    intro i hi;have h1:=hel i hi
    rw [jm (by omega),Option.bind_eq_some_iff] at h1
    obtain⟨ci,hci,hy⟩:=h1;obtain⟨h2,h3⟩:=cells?_get hci;exact⟨ci,h2,h3,he n ci _ (List.mem_map_of_mem (List.getElem_mem _)) hy⟩
   have all: ∀ m,m≤len→∃ (vs:List Value) (xs:List α),xs.length=m∧vs.length=m * Pr.cellsOf e∧(∀ j u,vs[j]? =some u→w.cell? (a.add j)=some u)∧∀ i x,xs[i]? =some x→R w ((vs.drop (i * Pr.cellsOf e)).take (Pr.cellsOf e)) x:=by
    intro m
    induction m with
    |zero=>intro _;exact⟨[],[],rfl,by simp,fun j u h=>by simp at h,fun i x h=>by simp at h⟩
    | succ m ih=>
      intro hm'
      obtain⟨vs,xs,h1,h2,h3,h4⟩:=ih (by omega)
      obtain⟨ci,c1,c2,x,c3⟩:=each m (by omega)
      refine⟨vs++ci,xs++[x],by simp [h1],by simp [h2,c1,Nat.succ_mul],fun j u hj=> ?_,fun i z hi=> ?_⟩
      · rcases Nat.lt_or_ge j vs.length with hj1|hj1
        · rw [jw hj1] at hj;exact h3 j u hj
        · rw [jy hj1] at hj
          have h5:=c2 _ _ hj
          rw [Addr.add_add,h2,show m * Pr.cellsOf e+(j - m * Pr.cellsOf e)=j by omega] at h5
          exact h5
      · rcases Nat.lt_or_ge i xs.length with hi1|hi1
        · rw [jw hi1] at hi
          have h5:=h4 i z hi
          have h6:i * Pr.cellsOf e+Pr.cellsOf e≤vs.length:=by rw [h2,← Nat.succ_mul];exact Nat.mul_le_mul_right _ (by omega)
          rw [List.drop_append_of_le_length (by omega),List.take_append_of_le_length (by simp;omega)]
          exact h5
        · rw [jy hi1] at hi
          have hi2:i=m:=by
           have:=(jl.1 hi).1
           simp at this;omega
          subst hi2;rw [h1,Nat.sub_self] at hi
          simp at hi
          subst hi
          rw [← h2,List.drop_left,jq (by omega)]
          exact c3
   obtain⟨vs,xs,h1,h2,h3,h4⟩:=all len (jK _)
   refine⟨xs,⟨_,vs,rfl,⟨some a,cap,by rw [h1],by omega,hm,(fun h=>by cases h),by rw [h1];exact h2,fun j u hj=> ?_⟩,h4⟩,by simp [elemsOf,h1,hlen]⟩
   have hsp:a.spot=none:=by
    cases hv:vs with
    |nil=>rw [hv] at hj;simp at hj
    | cons u0 r=>
      have:=h3 0 u0 (by rw [hv];rfl)
      rw [show a.add 0=a by simp [Addr.add]] at this
      exact ziP this
   exact⟨⟨a,rfl,hsp⟩,by rw [← YA hsp];exact h3 j u hj⟩
theorem weightsAll_mem {e:TypeId}: ∀ {es:List (DataW H)} {d:DataW H},d ∈ es→∀ n ∈ d.weights Pr e,n ∈ DataW.weightsAll Pr e es
 | x::es,d,hd,n,hn=>by
   simp only [DataW.weightsAll,List.mem_append]
   rcases List.mem_cons.1 hd with rfl|hd
   · exact .inl hn
   · exact .inr (weightsAll_mem hd n hn)
theorem zdK {t e:TypeId} (ht:Pr.underlying t=some (.slice e)) {d z:DataW H} (h:Small Pr t d) (hz:z ∈ elemsOf d):Small Pr e z:=by
 cases d<;>simp only [elemsOf,List.not_mem_nil] at hz
 refine List.all_eq_true.2 fun n hn=>List.all_eq_true.1 h n ?_;simp only [DataW.weights,ht,List.mem_cons,List.mem_append];exact .inr (.inl (weightsAll_mem hz n hn))
theorem zeS {t e:TypeId} (ht:Pr.underlying t=some (.slice e)) (hb:Nat.blt 0 (Pr.bytesOf e)=true) {d:DataW H} (h:Small Pr t d):(elemsOf d).length≤140737488355328:=by
 cases d<;>simp only [elemsOf]<;>try exact jL _
 rename_i es ss
 have h1:=List.all_eq_true.1 h ((es.length+ss.length) * Pr.bytesOf e) (by simp [DataW.weights,ht])
 have hb:0<Pr.bytesOf e:=by simpa [Nat.blt_eq] using hb
 refine zcg (Nat.le_trans (Nat.le_trans (Nat.le_add_right _ ss.length) (Nat.le_mul_of_pos_right _ hb)) (by simpa using h1))
theorem op_list {t e:TypeId} {u:U} (ht:Pr.underlying t=some (.slice e)) (hc:Pr.cellsOf e=u.size) (hb:Nat.blt 0 (Pr.bytesOf e)=true) (he:tK hsh Pr w hF base spare held e (QU u)):
  tK hsh Pr w hF base spare held t (QL u):=by
 intro fuel cs y h hs
 obtain⟨l,hl,hlen⟩:=zaI (R:=fun _ cs (x:u.den)=>MPs (frzW w hF) (enc alg u x) cs∧wfZ u x) ht hc h (fun n ci z hz ht'=>by
  obtain⟨ps,h1,x,rfl,hx⟩:=he n ci z ht' (zdK ht hs hz)
  exact⟨x,h1,hx⟩)
 have hl':=hl;obtain⟨v,vs,rfl,_,hx⟩:=hl
 refine⟨[.list u l],⟨zji (fun _ _ h=>h.1) hl',trivial⟩,l,rfl,by unfold wfS;rw [hlen];exact zeS ht hb hs,fun x hm=> ?_⟩
 obtain⟨i,hi⟩:=List.getElem?_of_mem hm;exact(hx i x hi).2
def QAll:List (List P→Prop)→List P→Prop
 |[],ps=>ps=[]
 |Q::Qs,ps=>∃ a b,ps=a++b∧Q a∧QAll Qs b
def lays (Pr:Program):Nat→List Field→Nat→Bool
 |o,[],n=>Nat.beq o n
 |o,f::fs,n=>Nat.beq f.offset o&&lays Pr (o+Pr.cellsOf f.type) fs n
def zaw (hsh:TypeId × Value→H) (Pr:Program) (w:World) (hF:Holds w) (base:Nat) (spare:Nat→Bool) (held:Bool):List Field→List (List P→Prop)→Prop
 |[],[]=>True
 |f::fs,Q::Qs=>tK hsh Pr w hF base spare held f.type Q∧zaw hsh Pr w hF base spare held fs Qs
 |_,_=>False
theorem zaw.nil:zaw hsh Pr w hF base spare held [] []:=trivial
theorem zaw.cons {f:Field} {fs:List Field} {Q:List P→Prop} {Qs:List (List P→Prop)} (h:tK hsh Pr w hF base spare held f.type Q) (k:zaw hsh Pr w hF base spare held fs Qs):zaw hsh Pr w hF base spare held (f::fs) (Q::Qs):=⟨h,k⟩
theorem MPs.append {S:Frz}: ∀ {a b:List P} {x y:List Value},MPs S a x→MPs S b y→MPs S (a++b) (x++y)
 |[],_,[],_,_,h=>h
 |_::_,_,_::_,_,h,k=>⟨h.1,MPs.append h.2 k⟩
theorem Qe {cs:List Value}: ∀ (fs:List Field) (Qs:List (List P→Prop)) (o:Nat),lays Pr o fs cs.length=true→zaw hsh Pr w hF base spare held fs Qs→
  (∀ f ∈ fs,∃ n z,DataW.trod hsh Pr w base spare held n f.type ((cs.drop f.offset).take (Pr.cellsOf f.type))=some z∧Small Pr f.type z.1)→∃ ps,MPs (frzW w hF) ps (cs.drop o)∧QAll Qs ps
 | [],[],o,hl,_,_=>by
   have:=jH hl
   exact⟨[],by rw [jE (by omega)];trivial,rfl⟩
 | f::fs,Q::Qs,o,hl,hq,hz=>by
   simp only [lays,jJ] at hl;have ho:=jH hl.1
   obtain⟨n,z,h1,h2⟩:=hz f (by simp)
   rw [ho] at h1;obtain⟨p1,m1,q1⟩:=hq.1 n _ z h1 h2
   obtain⟨p2,m2,q2⟩:=Qe fs Qs _ hl.2 hq.2 (fun g hg=>hz g (by simp [hg]))
   refine⟨p1++p2,?_,p1,p2,rfl,q1,q2⟩;have:=m1.append m2
   rwa [← List.drop_drop,List.take_append_drop] at this
 |[],_::_,_,_,h,_=>h.elim
 |_::_,[],_,_,h,_=>h.elim
theorem op_struct {t:TypeId} {fs:Array Field} {Qs:List (List P→Prop)} (ht:Pr.underlying t=some (.struct fs)) (hl:lays Pr 0 fs.toList (Pr.cellsOf t)=true) (hq:zaw hsh Pr w hF base spare held fs.toList Qs):
  tK hsh Pr w hF base spare held t (QAll Qs):=by
 intro fuel cs y h hs;obtain⟨xs,n,_,rfl,hcl,hxl,hf⟩:=DataW.trod_struct ht h
 have:=Qe fs.toList Qs 0 (by rw [hcl];exact hl) hq (fun f hfm=>by
  obtain⟨i,hi⟩:=List.getElem?_of_mem hfm
  have hi':fs[i]? =some f:=by simpa using hi
  have hlt:i<xs.length:=by rw [hxl];exact(Array.getElem?_eq_some_iff.1 hi').1
  refine⟨n,xs[i],by rw [hf i f hi',jm hlt],List.all_eq_true.2 fun k hk=>List.all_eq_true.1 hs k ?_⟩
  simp only [DataW.weights,ht]
  exact DataW.weights_mem_each (j:=i) (t:=f.type) (by simp [hi']) (by simp [hlt]) k hk)
 simpa using this
theorem q_fld (ps:List P) (h:QAll [QU .str,QU .str] ps):QU .fld ps:=by
 obtain⟨_,_,rfl,⟨a,rfl,ha⟩,_,_,rfl,⟨b,rfl,hb⟩,rfl⟩:=h;exact⟨(⟨a,b⟩:Fld),rfl,ha,hb⟩
theorem q_hd (ps:List P) (h:QAll [QU .str,QU .str,QU .int,QL .fld,QU .int] ps):QU .hd ps:=by
 obtain⟨_,_,rfl,⟨a,rfl,ha⟩,_,_,rfl,⟨b,rfl,hb⟩,_,_,rfl,⟨c,rfl,hc⟩,_,_,rfl,⟨d,rfl,hd⟩,_,_,rfl,⟨e,rfl,he⟩,rfl⟩:=h;exact⟨(⟨a,b,c,d,e⟩:Hd),rfl,ha,hb,hc,hd,he⟩
theorem q_ask (ps:List P) (h:QAll [QU .hd,QL .byte] ps):QU .ask ps:=by
 obtain⟨_,_,rfl,⟨a,rfl,ha⟩,_,_,rfl,⟨b,rfl,hb,_⟩,rfl⟩:=h
 exact⟨(⟨a,b⟩:Ask),by simp [enc],ha,hb⟩
theorem z_one {t:TypeId} {v:Value} {d:DataW H} {ps:List MemPlace} {Q:List P→Prop} (hr:v.oneCell'=true) (h:DataW.Trod hsh Pr w base spare held t v d ps) (hs:Small Pr t d) (ho:tK hsh Pr w hF base spare held t Q): ∃ qs,MPs (frzW w hF) qs [v]∧Q qs:=by
 obtain⟨fuel,hf⟩:=h
 have hc:v.cells.toList=[v]:=by cases v<;>first|rfl|cases hr
 rw [hc] at hf;exact ho fuel _ _ hf hs
theorem small_nth {ts:List TypeId} {ds:List (DataW H)} (h:(DataW.weightsEach Pr ts ds).all (· ≤reachBytes)=true) {j:Nat} {t:TypeId} {d:DataW H} (ht:ts[j]? =some t) (hd:ds[j]? =some d):Small Pr t d:=
 List.all_eq_true.2 fun n hn=>List.all_eq_true.1 h n (DataW.weights_mem_each ht hd n hn)
end
end Go.Ab
namespace Go.Proofs
open Go.Shelf
def Tryz.za7:Go.Shelf.Ren:=⟨fun|161=>158|231=>144|227=>146|233=>147|235=>149|228=>163|197=>164|151=>165|260=>173|152=>174|137=>172|119=>179|224=>180|225=>181|217=>178|266=>182|n=>n,fun|9=>9|4=>4|3=>3|5=>5|117=>168|116=>167|0=>0|124=>171|105=>182|21=>21|119=>193|46=>181|139=>196|138=>195|n=>n,fun|3=>1|4=>2|n=>n⟩
theorem Tryz.lays161:Go.Proofs.Lays.n161 Tryz.prog Tryz.za7:= {
 mixed:=by kernel_rfl
 f119:=Tryz.func179.trans (congrArg some (by kernel_rfl))
 f137:=Tryz.func172.trans (congrArg some (by kernel_rfl))
 f151:=Tryz.func165.trans (congrArg some (by kernel_rfl))
 f152:=Tryz.func174.trans (congrArg some (by kernel_rfl))
 f161:=Tryz.func158.trans (congrArg some (by kernel_rfl))
 f197:=Tryz.func164.trans (congrArg some (by kernel_rfl))
 f217:=Tryz.func178.trans (congrArg some (by kernel_rfl))
 f224:=Tryz.func180.trans (congrArg some (by kernel_rfl))
 f225:=Tryz.func181.trans (congrArg some (by kernel_rfl))
 f227:=Tryz.func146.trans (congrArg some (by kernel_rfl))
 f228:=Tryz.func163.trans (congrArg some (by kernel_rfl))
 f231:=Tryz.func144.trans (congrArg some (by kernel_rfl))
 f233:=Tryz.func147.trans (congrArg some (by kernel_rfl))
 f235:=Tryz.func149.trans (congrArg some (by kernel_rfl))
 f260:=Tryz.func173.trans (congrArg some (by kernel_rfl))
 f266:=Tryz.func182.trans (congrArg some (by kernel_rfl))
 t0:=Tryz.underlying0
 a0:=Tryz.isAgg0
 z0:=Tryz.sizeOf0
 v0:=Tryz.zeroValue0
 t3:=Tryz.underlying3
 a3:=Tryz.isAgg3
 z3:=Tryz.sizeOf3
 v3:=Tryz.zeroValue3
 t4:=Tryz.underlying4
 a4:=Tryz.isAgg4
 z4:=Tryz.sizeOf4
 v4:=Tryz.zeroValue4
 t5:=Tryz.underlying5
 a5:=Tryz.isAgg5
 z5:=Tryz.sizeOf5
 v5:=Tryz.zeroValue5
 t9:=Tryz.underlying9
 a9:=Tryz.isAgg9
 z9:=Tryz.sizeOf9
 v9:=Tryz.zeroValue9
 t21:=Tryz.underlying21
 a21:=Tryz.isAgg21
 z21:=Tryz.sizeOf21
 v21:=Tryz.zeroValue21
 t46:=Tryz.underlying181
 a46:=Tryz.isAgg181
 z46:=Tryz.sizeOf181
 v46:=Tryz.zeroValue181
 t105:=Tryz.underlying182
 a105:=Tryz.isAgg182
 z105:=Tryz.sizeOf182
 v105:=Tryz.zeroValue182
 t116:=Tryz.underlying167
 a116:=Tryz.isAgg167
 z116:=Tryz.sizeOf167
 t117:=Tryz.underlying168
 a117:=Tryz.isAgg168
 z117:=Tryz.sizeOf168
 v117:=Tryz.zeroValue168
 t119:=Tryz.underlying193
 a119:=Tryz.isAgg193
 z119:=Tryz.sizeOf193
 t124:=Tryz.underlying171
 a124:=Tryz.isAgg171
 z124:=Tryz.sizeOf171
 v124:=Tryz.zeroValue171
 t138:=Tryz.underlying195
 a138:=Tryz.isAgg195
 z138:=Tryz.sizeOf195
 v138:=Tryz.zeroValue195
 t139:=Tryz.underlying196
 a139:=Tryz.isAgg196
 z139:=Tryz.sizeOf196
 v139:=Tryz.zeroValue196
 g3:=by kernel_rfl
 g4:=by kernel_rfl}
def Tryz.za8:Go.Shelf.Ren:=⟨fun|160=>131|232=>145|231=>144|227=>146|234=>148|233=>147|236=>150|235=>149|228=>163|271=>166|151=>165|197=>164|120=>175|152=>174|260=>173|137=>172|119=>179|224=>180|225=>181|217=>178|266=>182|n=>n,fun|9=>9|4=>4|3=>3|5=>5|117=>168|116=>167|0=>0|124=>171|21=>21|105=>182|46=>181|119=>193|139=>196|138=>195|n=>n,fun|3=>1|4=>2|n=>n⟩
theorem Tryz.lays160:Go.Proofs.Lays.n160 Tryz.prog Tryz.za8:= {
 mixed:=by kernel_rfl
 f119:=Tryz.func179.trans (congrArg some (by kernel_rfl))
 f120:=Tryz.func175.trans (congrArg some (by kernel_rfl))
 f137:=Tryz.func172.trans (congrArg some (by kernel_rfl))
 f151:=Tryz.func165.trans (congrArg some (by kernel_rfl))
 f152:=Tryz.func174.trans (congrArg some (by kernel_rfl))
 f160:=Tryz.func131.trans (congrArg some (by kernel_rfl))
 f197:=Tryz.func164.trans (congrArg some (by kernel_rfl))
 f217:=Tryz.func178.trans (congrArg some (by kernel_rfl))
 f224:=Tryz.func180.trans (congrArg some (by kernel_rfl))
 f225:=Tryz.func181.trans (congrArg some (by kernel_rfl))
 f227:=Tryz.func146.trans (congrArg some (by kernel_rfl))
 f228:=Tryz.func163.trans (congrArg some (by kernel_rfl))
 f231:=Tryz.func144.trans (congrArg some (by kernel_rfl))
 f232:=Tryz.func145.trans (congrArg some (by kernel_rfl))
 f233:=Tryz.func147.trans (congrArg some (by kernel_rfl))
 f234:=Tryz.func148.trans (congrArg some (by kernel_rfl))
 f235:=Tryz.func149.trans (congrArg some (by kernel_rfl))
 f236:=Tryz.func150.trans (congrArg some (by kernel_rfl))
 f260:=Tryz.func173.trans (congrArg some (by kernel_rfl))
 f266:=Tryz.func182.trans (congrArg some (by kernel_rfl))
 f271:=Tryz.func166.trans (congrArg some (by kernel_rfl))
 t0:=Tryz.underlying0
 a0:=Tryz.isAgg0
 z0:=Tryz.sizeOf0
 v0:=Tryz.zeroValue0
 t3:=Tryz.underlying3
 a3:=Tryz.isAgg3
 z3:=Tryz.sizeOf3
 v3:=Tryz.zeroValue3
 t4:=Tryz.underlying4
 a4:=Tryz.isAgg4
 z4:=Tryz.sizeOf4
 v4:=Tryz.zeroValue4
 t5:=Tryz.underlying5
 a5:=Tryz.isAgg5
 z5:=Tryz.sizeOf5
 v5:=Tryz.zeroValue5
 t9:=Tryz.underlying9
 a9:=Tryz.isAgg9
 z9:=Tryz.sizeOf9
 v9:=Tryz.zeroValue9
 t21:=Tryz.underlying21
 a21:=Tryz.isAgg21
 z21:=Tryz.sizeOf21
 v21:=Tryz.zeroValue21
 t46:=Tryz.underlying181
 a46:=Tryz.isAgg181
 z46:=Tryz.sizeOf181
 v46:=Tryz.zeroValue181
 t105:=Tryz.underlying182
 a105:=Tryz.isAgg182
 z105:=Tryz.sizeOf182
 v105:=Tryz.zeroValue182
 t116:=Tryz.underlying167
 a116:=Tryz.isAgg167
 z116:=Tryz.sizeOf167
 t117:=Tryz.underlying168
 a117:=Tryz.isAgg168
 z117:=Tryz.sizeOf168
 v117:=Tryz.zeroValue168
 t119:=Tryz.underlying193
 a119:=Tryz.isAgg193
 z119:=Tryz.sizeOf193
 t124:=Tryz.underlying171
 a124:=Tryz.isAgg171
 z124:=Tryz.sizeOf171
 v124:=Tryz.zeroValue171
 t138:=Tryz.underlying195
 a138:=Tryz.isAgg195
 z138:=Tryz.sizeOf195
 v138:=Tryz.zeroValue195
 t139:=Tryz.underlying196
 a139:=Tryz.isAgg196
 z139:=Tryz.sizeOf196
 v139:=Tryz.zeroValue196
 g3:=by kernel_rfl
 g4:=by kernel_rfl}
def Tryz.za9:Go.Shelf.Ren:=⟨fun|137=>172|217=>178|266=>182|n=>n,fun|9=>9|5=>5|3=>3|n=>n,fun|n=>n⟩
theorem Tryz.lays137:Go.Proofs.Lays.n137 Tryz.prog Tryz.za9:= {
 mixed:=by kernel_rfl
 f137:=Tryz.func172.trans (congrArg some (by kernel_rfl))
 f217:=Tryz.func178.trans (congrArg some (by kernel_rfl))
 f266:=Tryz.func182.trans (congrArg some (by kernel_rfl))
 t3:=Tryz.underlying3
 a3:=Tryz.isAgg3
 z3:=Tryz.sizeOf3
 v3:=Tryz.zeroValue3
 t5:=Tryz.underlying5
 a5:=Tryz.isAgg5
 z5:=Tryz.sizeOf5
 v5:=Tryz.zeroValue5
 t9:=Tryz.underlying9
 a9:=Tryz.isAgg9
 z9:=Tryz.sizeOf9
 v9:=Tryz.zeroValue9}
def Tryz.zba:Go.Shelf.Ren:=⟨fun|103=>82|210=>110|206=>67|n=>n,fun|9=>9|4=>4|24=>106|3=>3|n=>n,fun|n=>n⟩
theorem Tryz.zjc:Go.Proofs.Lays.n103 Tryz.prog Tryz.zba:= {
 mixed:=by kernel_rfl
 f103:=Tryz.func82.trans (congrArg some (by kernel_rfl))
 f206:=Tryz.func67.trans (congrArg some (by kernel_rfl))
 f210:=Tryz.func110.trans (congrArg some (by kernel_rfl))
 t3:=Tryz.underlying3
 a3:=Tryz.isAgg3
 z3:=Tryz.sizeOf3
 v3:=Tryz.zeroValue3
 t4:=Tryz.underlying4
 a4:=Tryz.isAgg4
 z4:=Tryz.sizeOf4
 v4:=Tryz.zeroValue4
 t9:=Tryz.underlying9
 a9:=Tryz.isAgg9
 z9:=Tryz.sizeOf9
 v9:=Tryz.zeroValue9
 t24:=Tryz.underlying106
 a24:=Tryz.isAgg106
 z24:=Tryz.sizeOf106
 v24:=Tryz.zeroValue106}
def Tryz.Qr:Go.Shelf.Ren:=⟨fun|171=>77|243=>108|246=>133|283=>151|284=>152|285=>153|286=>154|129=>168|317=>167|318=>169|319=>170|320=>171|337=>176|338=>177|n=>n,fun|3=>3|9=>9|2=>2|4=>4|171=>172|0=>0|53=>173|37=>30|5=>5|173=>176|212=>186|51=>187|20=>20|213=>188|46=>181|232=>199|233=>200|n=>n,fun|17=>0|18=>3|19=>4|n=>n⟩
theorem Tryz.laysM171:Go.Proofs.LaysM.n171 Tryz.prog Tryz.Qr:= {
 mixed:=by kernel_rfl
 f129:=Tryz.func168.trans (congrArg some (by kernel_rfl))
 f171:=Tryz.func77.trans (congrArg some (by kernel_rfl))
 f243:=Tryz.func108.trans (congrArg some (by kernel_rfl))
 f246:=Tryz.func133.trans (congrArg some (by kernel_rfl))
 f283:=Tryz.func151.trans (congrArg some (by kernel_rfl))
 f284:=Tryz.func152.trans (congrArg some (by kernel_rfl))
 f285:=Tryz.func153.trans (congrArg some (by kernel_rfl))
 f286:=Tryz.func154.trans (congrArg some (by kernel_rfl))
 f317:=Tryz.func167.trans (congrArg some (by kernel_rfl))
 f318:=Tryz.func169.trans (congrArg some (by kernel_rfl))
 f319:=Tryz.func170.trans (congrArg some (by kernel_rfl))
 f320:=Tryz.func171.trans (congrArg some (by kernel_rfl))
 f337:=Tryz.func176.trans (congrArg some (by kernel_rfl))
 f338:=Tryz.func177.trans (congrArg some (by kernel_rfl))
 t0:=Tryz.underlying0
 a0:=Tryz.isAgg0
 z0:=Tryz.sizeOf0
 v0:=Tryz.zeroValue0
 t2:=Tryz.underlying2
 a2:=Tryz.isAgg2
 z2:=Tryz.sizeOf2
 v2:=Tryz.zeroValue2
 t3:=Tryz.underlying3
 a3:=Tryz.isAgg3
 z3:=Tryz.sizeOf3
 v3:=Tryz.zeroValue3
 t4:=Tryz.underlying4
 a4:=Tryz.isAgg4
 z4:=Tryz.sizeOf4
 v4:=Tryz.zeroValue4
 t5:=Tryz.underlying5
 a5:=Tryz.isAgg5
 z5:=Tryz.sizeOf5
 v5:=Tryz.zeroValue5
 t9:=Tryz.underlying9
 a9:=Tryz.isAgg9
 z9:=Tryz.sizeOf9
 v9:=Tryz.zeroValue9
 t20:=Tryz.underlying20
 a20:=Tryz.isAgg20
 z20:=Tryz.sizeOf20
 v20:=Tryz.zeroValue20
 t37:=Tryz.underlying30
 a37:=Tryz.isAgg30
 z37:=Tryz.sizeOf30
 v37:=Tryz.zeroValue30
 t46:=Tryz.underlying181
 a46:=Tryz.isAgg181
 z46:=Tryz.sizeOf181
 v46:=Tryz.zeroValue181
 t51:=Tryz.underlying187
 a51:=Tryz.isAgg187
 z51:=Tryz.sizeOf187
 v51:=Tryz.zeroValue187
 t53:=Tryz.underlying173
 a53:=Tryz.isAgg173
 z53:=Tryz.sizeOf173
 v53:=Tryz.zeroValue173
 t171:=Tryz.underlying172
 a171:=Tryz.isAgg172
 z171:=Tryz.sizeOf172
 v171:=Tryz.zeroValue172
 t173:=Tryz.underlying176
 a173:=Tryz.isAgg176
 z173:=Tryz.sizeOf176
 v173:=Tryz.zeroValue176
 t212:=Tryz.underlying186
 a212:=Tryz.isAgg186
 z212:=Tryz.sizeOf186
 v212:=Tryz.zeroValue186
 t213:=Tryz.underlying188
 a213:=Tryz.isAgg188
 z213:=Tryz.sizeOf188
 t232:=Tryz.underlying199
 a232:=Tryz.isAgg199
 z232:=Tryz.sizeOf199
 v232:=Tryz.zeroValue199
 t233:=Tryz.underlying200
 a233:=Tryz.isAgg200
 z233:=Tryz.sizeOf200
 v233:=Tryz.zeroValue200
 g17:=by kernel_rfl
 g18:=by kernel_rfl
 g19:=by kernel_rfl
 i0:=by kernel_rfl
 i2:=by kernel_rfl
 i3:=by kernel_rfl
 i4:=by kernel_rfl
 i5:=by kernel_rfl
 i9:=by kernel_rfl
 i20:=by kernel_rfl
 i37:=by kernel_rfl
 i46:=by kernel_rfl
 i51:=by kernel_rfl
 i53:=by kernel_rfl
 i171:=by kernel_rfl
 i173:=by kernel_rfl
 i212:=by kernel_rfl
 i232:=by kernel_rfl
 i233:=by kernel_rfl
 m17:=by kernel_rfl
 m18:=by kernel_rfl
 m19:=by kernel_rfl}
def Tryz.lays99_ren:Go.Shelf.Ren:=⟨fun|99=>42|206=>67|n=>n,fun|9=>9|4=>4|3=>3|n=>n,fun|n=>n⟩
theorem Tryz.lays99:Go.Proofs.Lays.n99 Tryz.prog Tryz.lays99_ren:= {
 mixed:=by kernel_rfl
 f99:=Tryz.func42.trans (congrArg some (by kernel_rfl))
 f206:=Tryz.func67.trans (congrArg some (by kernel_rfl))
 t3:=Tryz.underlying3
 a3:=Tryz.isAgg3
 z3:=Tryz.sizeOf3
 v3:=Tryz.zeroValue3
 t4:=Tryz.underlying4
 a4:=Tryz.isAgg4
 z4:=Tryz.sizeOf4
 v4:=Tryz.zeroValue4
 t9:=Tryz.underlying9
 a9:=Tryz.isAgg9
 z9:=Tryz.sizeOf9
 v9:=Tryz.zeroValue9}
open Go.RowKit in
theorem Tryz.strings_IndexByte (s:ByteArray) (c:Int) (w:World):
 Calls Tryz.prog 172 #[.string s,.int .u8 c] w fun e w'=>e=.returned (.int .i64 (Lib.indexByte s.data.toList c.toNat.toUInt8))∧w'=w:=Any.strings_IndexByte Tryz.lays137 s c w
open Go.RowKit in
theorem Tryz.strings_CutPrefix (s p:ByteArray) (w:World):
 Calls Tryz.prog 82 #[.string s,.string p] w fun e w'=>e=.returned (.tuple #[.string ⟨(Lib.trimPrefix s.data.toList p.data.toList).toArray⟩,.bool (Lib.hasPrefix s.data.toList p.data.toList)])∧w'=w:=Any.strings_CutPrefix Tryz.zjc s p w
open Go.RowKit Go.Sort Go.Lib in
theorem Tryz.strconv_Itoa (n:Int) (h0: -9223372036854775808≤n) (h1:n≤9223372036854775807) (w:World) (htab:Lib.TabIs Tryz.prog w "internal/strconv.uint64pow10" .u64 Lib.pow10Tab):
 Calls Tryz.prog 77 #[.int .i64 n] w fun e w'=>e=.returned (.string ⟨(Lib.itoa n).toArray⟩)∧∃ k os,w'=grow (w.drewN k) os:=Any.strconv_Itoa Tryz.laysM171 n h0 h1 w htab
open Go.RowKit Go.Lib in
theorem Tryz.strings_HasPrefix (s p:ByteArray) (w:World):
 Calls Tryz.prog 42 #[.string s,.string p] w fun e w'=>e=.returned (.bool (Lib.hasPrefix s.data.toList p.data.toList))∧w'=w:=Any.strings_HasPrefix Tryz.lays99 s p w
theorem Tryz.strings_Trim_laid (s cutset:ByteArray) (w:World) (hs:s.size≤9223372036854775807) (hcs:cutset.size<4294967281) (hascii: ∀ (j:Nat) b,cutset.data.toList[j]? =some b→b.toNat<128):
 Calls Tryz.prog 131 #[.string s,.string cutset] w fun e w'=>e=.returned (.string ⟨(Lib.trimS s.data.toList cutset.data.toList).toArray⟩)∧Go.RowKit.Below w.heap.size w w':=Any.strings_Trim_laid Tryz.lays160 (by kernel_rfl) s cutset w hs hcs hascii
theorem Tryz.strings_TrimLeft_laid (s cutset:ByteArray) (w:World) (hcs:cutset.size<4294967281) (hascii: ∀ (j:Nat) b,cutset.data.toList[j]? =some b→b.toNat<128):
 Calls Tryz.prog 158 #[.string s,.string cutset] w fun e w'=>e=.returned (.string ⟨(Lib.trimLeftS s.data.toList cutset.data.toList).toArray⟩)∧Go.RowKit.Below w.heap.size w w':=Any.strings_TrimLeft_laid Tryz.lays161 (by kernel_rfl) s cutset w hcs hascii
end Go.Proofs
namespace Go.Ab
open Go Go.Sep
variable [Facts]
theorem zbx {w w':World} (h:RowKit.Below w.heap.size w w'):Keeps (fun k=>k<w.heap.size) w w':=⟨h.1,h.2,h.3,h.4,h.5⟩
theorem Spc.of_below {Pr:Program} {f:Nat} {args:List D} {hp:List HO} {d:D} (hf: ∃ fn,Pr.funcs[f]? =some fn∧(fn.name == "runtime.NumGoroutine")=false∧fn.body.isNone=false)
  (h: ∀ (S:Frz) (bs:List Value) (w:World) (vs:List Value),Facts.p w→MDs S bs args vs→∃ v,MD S bs d v∧Calls Pr f vs.toArray w fun e w'=>e=.returned v∧RowKit.Below w.heap.size w w'):Spc Pr f args hp (.ret d) hp:=by
 refine⟨hf,fun S K fr w vs hH hM hA=> ?_⟩;obtain⟨v,hv,hc⟩:=h S _ w vs (At.frz hA).facts hM;refine hc.mono fun e w' he=> ?_;obtain⟨he,hb⟩:=he;subst he;exact⟨S,K,Frz.le.refl S,Ext.refl _,hH,hA.keep (zbx hb),hv⟩
end Go.Ab
namespace Go.Proofs.YtcclfkakcgnacaaGreatDoor
open Go Go.Sep Go.Ab
set_option maxRecDepth 100000
theorem zg0 (s cs:Str):(Lib.trimS s cs).length≤s.length:=by
 unfold Lib.trimS Lib.trimLeftS Lib.trimRightS;refine Nat.le_trans (List.dropWhile_sublist _).length_le ?_;rw [List.length_reverse]
 exact Nat.le_trans (List.dropWhile_sublist _).length_le (by rw [List.length_reverse];exact jK _)
def UQ (I:Alg):KU
 |[.v (.one (.p (.str s))),.v (.one (.p (.str ([32,9]))))],[]=>(fun(s:Str)=>(some (.one ⟨I.hid (True),(.ret (.v (.one (.p (.str (I.hid (Lib.trimS s [32,9]))))))),[]⟩):Option CT)) s
 |_,_=>none
theorem zeC:zq Tryz.prog 131 (UQ alg):=by
 intro args hp r h;unfold UQ at h;split at h<;>cases h
 rename_i s;simp only [CT.Good,zk];intro _
 refine Spc.of_below ⟨_,Tryz.func131,by kernel_rfl,by kernel_rfl⟩ fun S bs w vs _ hM=> ?_
 obtain⟨v,r,rfl⟩: ∃ v r,vs=v::r:=by cases vs with|nil=>exact hM.elim|cons v r=>exact⟨v,r,rfl⟩
 obtain⟨h1,hM⟩:=hM
 obtain⟨v2,r2,rfl⟩: ∃ v r2,r=v::r2:=by cases r with|nil=>exact hM.elim|cons v r=>exact⟨v,r,rfl⟩
 obtain⟨h2,hM⟩:=hM
 obtain rfl:r2=[]:=by cases r2 with|nil=>rfl|cons v r=>exact hM.elim
 cases h1 with
 | str _ hl1=>
   cases h2 with
   | str _ hl2=>
     refine⟨.string (Sep.S (Lib.trimS s [32,9])),.str _ (Nat.le_trans (zg0 _ _) hl1),?_⟩
     exact Tryz.strings_Trim_laid (Sep.S s) (Sep.S [32,9]) w (by have:=hl1;unfold maxLen at this;exact this) (by decide) (fun j b hb=>by
      have:=List.mem_of_getElem? hb
      rcases(by simpa [Sep.S] using this:b=32∨b=9) with rfl|rfl<;>decide)
def ziI:Know Tryz.prog:=⟨131,UQ,zeC⟩
def ziH:Know Tryz.prog:=⟨131,fun I=>zu I (UQ I),zf zeC⟩
def vk (I:Alg):KU
 |[.v (.one (.p (.str s))),.v (.one (.p (.int .u8 k)))],[]=>(fun(s:Str)=>(some (.one ⟨I.hid (True),(.ret (.v (.one (.p (.int .i64 (I.hid (Lib.indexByte s k.toNat.toUInt8))))))),[]⟩):Option CT)) s
 |_,_=>none
theorem YP:zq Tryz.prog 172 (vk alg):=by
 intro args hp r h;unfold vk at h;split at h<;>cases h
 rename_i s k;simp only [CT.Good,zk];intro _
 refine Spc.of_below ⟨_,Tryz.func172,by kernel_rfl,by kernel_rfl⟩ fun S bs w vs _ hM=> ?_
 obtain⟨v,r,rfl⟩: ∃ v r,vs=v::r:=by cases vs with|nil=>exact hM.elim|cons v r=>exact⟨v,r,rfl⟩
 obtain⟨h1,hM⟩:=hM
 obtain⟨v2,r2,rfl⟩: ∃ v r2,r=v::r2:=by cases r with|nil=>exact hM.elim|cons v r=>exact⟨v,r,rfl⟩
 obtain⟨h2,hM⟩:=hM
 obtain rfl:r2=[]:=by cases r2 with|nil=>rfl|cons v r=>exact hM.elim
 cases h1 with
 | str _ hl1=>
   cases h2 with
   | int _ _=>
     refine⟨.int .i64 (Lib.indexByte s k.toNat.toUInt8),.int _ _,?_⟩;refine(Tryz.strings_IndexByte (Sep.S s) k w).mono fun e w' h=> ?_;obtain⟨he,rfl⟩:=h;exact⟨he,RowKit.Below.refl _ _⟩
def QE:Know Tryz.prog:=⟨172,vk,YP⟩
def QD:Know Tryz.prog:=⟨172,fun I=>zu I (vk I),zf YP⟩
end Go.Proofs.YtcclfkakcgnacaaGreatDoor
namespace Go.Proofs.YtcclfkakcgnacaaGreatDoor
open Go Go.Sep Go.Ab
set_option maxRecDepth 100000
def lowK (k:Int):Int:=if 65≤k∧k≤90 then k+32 else k
def Vx (k:Int):Bool:=decide (48≤k∧k≤57)
def qW (k:Int):Bool:=decide (97≤lowK k∧lowK k≤122)
def marks:Str:=[33,35,36,37,38,39,42,43,45,46,94,95,96,124,126]
def tokB (k:Int):Bool:=Vx k||(qW k||decide (0≤Lib.indexByte marks k.toNat.toUInt8))
def zhb (k:Int):Bool:=decide (k=9∨32≤k∧k≠127)
def hexK (k:Int):Int:=if Vx k then k - 48 else if qW k&&decide (lowK k≤102) then lowK k - 97+10 else -1
theorem wrap64 (n:Int) (h: -9223372036854775808≤n∧n≤9223372036854775807):IntKind.i64.wrap n=n:=by
 unfold IntKind.wrap
 simp only [show IntKind.i64.signed=true by decide,show IntKind.i64.bits=64 by decide]
 split<;>simp_all<;>omega
theorem zfF {k:Int} (h:0≤k∧k≤255):0≤lowK k∧lowK k≤255:=by unfold lowK;split<;>omega
def XY (I:Alg):KU
 |[.v (.one (.p (.int .u8 k)))],[]=>some (.one ⟨I.hid (True),(.ret (.v (.one (.p (.bool (I.hid (Vx k))))))),[]⟩)
 |_,_=>none
theorem zdg:zq Tryz.prog 156 (XY alg):=by
 intro args hp r h;unfold XY at h;split at h<;>cases h
 rename_i k;simp only [CT.Good,zk];intro _
 refine spH Tryz.func156 (by kernel_rfl) { keep:=some [0,2]} [] (by kernel_rfl) ?_
 intro I X hI hX
 refine orcL ?_;go_invoke;refine orcS (by kernel_rfl) ?_
 simp only [zl,Nat.reduceAdd];subst hI;simp only [nrmA,nrmB];unfold Vx
 exact⟨fun h=>decide_eq_decide.2 (by omega),fun h=>(decide_eq_false (by omega)).symm⟩
def zdf:Know Tryz.prog:=⟨156,XY,zdg⟩
def zde:Know Tryz.prog:=⟨156,fun I=>zu I (XY I),zf zdg⟩
def XQ (I:Alg):KU
 |[.v (.one (.p (.int .u8 k)))],[]=>some (.one ⟨I.hid (0≤k∧k≤255),(.ret (.v (.one (.p (.int .u8 (I.hid (lowK k))))))),[]⟩)
 |_,_=>none
theorem zcC:zq Tryz.prog 155 (XQ alg):=by
 intro args hp r h;unfold XQ at h;split at h<;>cases h
 rename_i k;simp only [CT.Good,zk];intro hneed
 refine spH Tryz.func155 (by kernel_rfl) { keep:=some [0,2]} [] (by kernel_rfl) ?_
 intro I X hI hX
 refine orcL ?_;go_invoke;refine orcS (by kernel_rfl) ?_
 simp only [zl,Nat.reduceAdd];subst hI;simp only [nrmA,nrmB];unfold lowK
 (repeat' (first|refine ja ?_ ?_|intro _))<;>first|omega|exact jb|exact jc ‹False›|skip
def XP:Know Tryz.prog:=⟨155,XQ,zcC⟩
def XO:Know Tryz.prog:=⟨155,fun I=>zu I (XQ I),zf zcC⟩
def ZL (I:Alg):KU
 |[.v (.one (.p (.int .u8 k)))],[]=>some (.one ⟨I.hid (0≤k∧k≤255),(.ret (.v (.one (.p (.bool (I.hid (qW k))))))),[]⟩)
 |_,_=>none
theorem Qq:zq Tryz.prog 157 (ZL alg):=by
 intro args hp r h;unfold ZL at h;split at h<;>cases h
 rename_i k;simp only [CT.Good,zk];intro hneed
 refine spH Tryz.func157 (by kernel_rfl) { keep:=some [0,2]} [XP,XO] (by kernel_rfl) ?_
 intro I X hI hX
 refine orcL ?_;go_invoke;refine orcS (by kernel_rfl) ?_
 simp only [zl,Nat.reduceAdd];subst hI;simp only [nrmA,nrmB];unfold qW
 (repeat' (first|refine ja ?_ ?_|intro _))<;>first|omega|exact jb|exact jc ‹False›|skip
 all_goals first|exact decide_eq_decide.2 (by omega)|exact(decide_eq_false (by omega)).symm|exact(decide_eq_true (by omega)).symm|(rw [show(k == 127)=decide (k=127) from rfl,← decide_not];exact decide_eq_decide.2 (by omega))
def Qp:Know Tryz.prog:=⟨157,ZL,Qq⟩
def Qo:Know Tryz.prog:=⟨157,fun I=>zu I (ZL I),zf Qq⟩
def Xg (I:Alg):KU
 |[.v (.one (.p (.int .u8 k)))],[]=>some (.one ⟨I.hid (0≤k∧k≤255),(.ret (.v (.one (.p (.bool (I.hid (tokB k))))))),[]⟩)
 |_,_=>none
theorem zbL:zq Tryz.prog 159 (Xg alg):=by
 intro args hp r h;unfold Xg at h;split at h<;>cases h
 rename_i k;simp only [CT.Good,zk];intro hneed
 refine spH Tryz.func159 (by kernel_rfl) { keep:=some [0,2]} [QE,QD,zdf,zde,Qp,Qo] (by kernel_rfl) ?_
 intro I X hI hX
 refine orcL ?_;go_invoke;refine orcS (by kernel_rfl) ?_
 simp only [zl,Nat.reduceAdd];subst hI;simp only [nrmA,nrmB];unfold tokB marks
 (repeat' (first|refine ja ?_ ?_|intro _))<;>first|omega|exact jb|exact jc ‹False›|skip
 all_goals simp [*]
def rD:Know Tryz.prog:=⟨159,Xg,zbL⟩
def Xf:Know Tryz.prog:=⟨159,fun I=>zu I (Xg I),zf zbL⟩
def ru (I:Alg):KU
 |[.v (.one (.p (.int .u8 k)))],[]=>some (.one ⟨I.hid (True),(.ret (.v (.one (.p (.bool (I.hid (zhb k))))))),[]⟩)
 |_,_=>none
theorem VZ:zq Tryz.prog 130 (ru alg):=by
 intro args hp r h;unfold ru at h;split at h<;>cases h
 rename_i k;simp only [CT.Good,zk];intro _
 refine spH Tryz.func130 (by kernel_rfl) { keep:=some [0,2]} [] (by kernel_rfl) ?_
 intro I X hI hX
 refine orcL ?_;go_invoke;refine orcS (by kernel_rfl) ?_
 simp only [zl,Nat.reduceAdd];subst hI;simp only [nrmA,nrmB];unfold zhb
 (repeat' (first|refine ja ?_ ?_|intro _))<;>first|omega|exact jb|exact jc ‹False›|skip
 all_goals first|exact decide_eq_decide.2 (by omega)|exact(decide_eq_false (by omega)).symm|exact(decide_eq_true (by omega)).symm|(rw [show(k == 127)=decide (k=127) from rfl,← decide_not];exact decide_eq_decide.2 (by omega))
def Z9:Know Tryz.prog:=⟨130,ru,VZ⟩
def zdE:Know Tryz.prog:=⟨130,fun I=>zu I (ru I),zf VZ⟩
def zcS (I:Alg):KU
 |[.v (.one (.p (.int .u8 k)))],[]=>some (.one ⟨I.hid (0≤k∧k≤255),(.ret (.v (.one (.p (.int .i64 (I.hid (hexK k))))))),[]⟩)
 |_,_=>none
theorem zio:zq Tryz.prog 135 (zcS alg):=by
 intro args hp r h;unfold zcS at h;split at h<;>cases h
 rename_i k;simp only [CT.Good,zk];intro hneed
 refine spH Tryz.func135 (by kernel_rfl) { keep:=some [0,2]} [zdf,zde,XP,XO,Qp,Qo] (by kernel_rfl) ?_
 intro I X hI hX
 refine orcL ?_;go_invoke;refine orcS (by kernel_rfl) ?_
 simp only [zl,Nat.reduceAdd];subst hI;simp only [nrmA,nrmB]
 (repeat' (first|refine ja ?_ ?_|intro _))<;>first|omega|exact jb|exact jc ‹False›|skip
 all_goals first
  |(have:=of_decide_eq_true ‹Vx k=true›;omega)
  |(have:=of_decide_eq_true ‹Vx k=true›;unfold hexK;rw [if_pos ‹Vx k=true›,wrap64 _ (by omega)])
  |(have:=of_decide_eq_true ‹qW k=true›;omega)
  |(have:=of_decide_eq_true ‹qW k=true›;rw [wrap64 _ (by omega)];omega)
  |(have:=of_decide_eq_true ‹qW k=true›;rw [wrap64 _ (by omega)];unfold hexK;simp [*])
  |(unfold hexK;simp [*])
def zcR:Know Tryz.prog:=⟨135,zcS,zio⟩
def zcQ:Know Tryz.prog:=⟨135,fun I=>zu I (zcS I),zf zio⟩
end Go.Proofs.YtcclfkakcgnacaaGreatDoor
namespace Go.Proofs.YtcclfkakcgnacaaGreatDoor
open Go Go.Sep Go.Ab
set_option maxRecDepth 100000
def tokA (s:Str):Bool:=s.all fun c=>tokB (c.toNat:Int)
def RQ (s:Str):Bool:=s.all fun c=>zhb (c.toNat:Int)
theorem xg (c:UInt8):0≤(c.toNat:Int)∧(c.toNat:Int)≤255:=by have:=c.toNat_lt;omega
theorem zdB {p:UInt8→Bool} {s:Str} {i:Nat} (h:i<s.length):(s.drop i).all p=(p (s.getD i 0)&&(s.drop (i+1)).all p):=by
 rw [jD h,List.all_cons];simp [h]
def Z4 (I:Alg):KU
 |[.v (.one (.p (.str s))),.v (.one (.fn 159 []))],[]=>(fun(s:Str)=>(some (.one ⟨I.hid (s.length≤1000000),(.ret (.v (.one (.p (.bool (I.hid (tokA s))))))),[]⟩):Option CT)) s
 |_,_=>none
theorem zau:zq Tryz.prog 129 (Z4 alg):=by
 intro args hp r h;unfold Z4 at h;split at h<;>cases h
 rename_i s;simp only [CT.Good,zk];intro hneed;generalize hr:tokA s=r
 refine spH Tryz.func129 (by kernel_rfl) { keep:=some [0,1,4,5,7,8]} [rD] (by kernel_rfl) ?_
 intro I X hI hX
 refine orcL ?_;go_invoke;refine orcS (by kernel_rfl) ?_
 simp only [zl,Nat.reduceAdd]
 refine lpH hI [rD] hX [0,1,7,8] (fun(i:Nat)=>i≤s.length∧tokA (s.drop i)=r) (fun(i:Nat)=>⟨[(0,.v (.one (.p (.str s)))),(1,.v (.one (.fn 159 []))),(7,.v (.one (.p (.int .i64 ((I.len (α:=UInt8) s)))))),(8,.v (.one (.p (.int .i64 i))))],[],18,none⟩) (fun(i:Nat)=>s.length - i) 0 (by kernel_rfl) (by kernel_rfl) ?_ ?_
 · exact⟨jL _,hr⟩
 rintro i ⟨h1,h2⟩ A hA
 refine orcL ?_;go_invoke;refine orcS (by kernel_rfl) ?_
 simp only [zl,Nat.reduceAdd];subst hI;simp only [nrmA,nrmB];have hb:=xg (s.getD i 0);have hd:i<s.length→tokA (s.drop i)=(tokB (s.getD i 0).toNat&&tokA (s.drop (i+1))):=fun h=>zdB h;generalize s.getD i 0=x at *
 (repeat' (first|refine ja ?_ ?_|intro _))<;>first|omega|exact jb|exact jc ‹False›|skip
 all_goals first
  |(rw [← h2,hd (by omega)];simp [*];done)
  |(refine hA (i+1) ⟨by omega,?_⟩ (by omega);rw [← h2,hd (by omega)];simp [*];done)
  |(rw [← h2,jE (by omega)];rfl)
def VH:Know Tryz.prog:=⟨129,Z4,zau⟩
def VG:Know Tryz.prog:=⟨129,fun I=>zu I (Z4 I),zf zau⟩
def qw (I:Alg):KU
 |[.v (.one (.p (.str s))),.v (.one (.fn 130 []))],[]=>(fun(s:Str)=>(some (.one ⟨I.hid (s.length≤1000000),(.ret (.v (.one (.p (.bool (I.hid (RQ s))))))),[]⟩):Option CT)) s
 |_,_=>none
theorem UN:zq Tryz.prog 129 (qw alg):=by
 intro args hp r h;unfold qw at h;split at h<;>cases h
 rename_i s;simp only [CT.Good,zk];intro hneed;generalize hr:RQ s=r
 refine spH Tryz.func129 (by kernel_rfl) { keep:=some [0,1,4,5,7,8]} [Z9,VH,VG] (by kernel_rfl) ?_
 intro I X hI hX
 refine orcL ?_;go_invoke;refine orcS (by kernel_rfl) ?_
 simp only [zl,Nat.reduceAdd]
 refine lpH hI [Z9,VH,VG] hX [0,1,7,8] (fun(i:Nat)=>i≤s.length∧RQ (s.drop i)=r) (fun(i:Nat)=>⟨[(0,.v (.one (.p (.str s)))),(1,.v (.one (.fn 130 []))),(7,.v (.one (.p (.int .i64 ((I.len (α:=UInt8) s)))))),(8,.v (.one (.p (.int .i64 i))))],[],18,none⟩) (fun(i:Nat)=>s.length - i) 0 (by kernel_rfl) (by kernel_rfl) ?_ ?_
 · exact⟨jL _,hr⟩
 rintro i ⟨h1,h2⟩ A hA
 refine orcL ?_;go_invoke;refine orcS (by kernel_rfl) ?_
 simp only [zl,Nat.reduceAdd];subst hI;simp only [nrmA,nrmB];have hb:=xg (s.getD i 0);have hd:i<s.length→RQ (s.drop i)=(zhb (s.getD i 0).toNat&&RQ (s.drop (i+1))):=fun h=>zdB h;generalize s.getD i 0=x at *
 (repeat' (first|refine ja ?_ ?_|intro _))<;>first|omega|exact jb|exact jc ‹False›|skip
 all_goals first
  |(rw [← h2,hd (by omega)];simp [*];done)
  |(refine hA (i+1) ⟨by omega,?_⟩ (by omega);rw [← h2,hd (by omega)];simp [*];done)
  |(rw [← h2,jE (by omega)];rfl)
def zet:Know Tryz.prog:=⟨129,qw,UN⟩
def zes:Know Tryz.prog:=⟨129,fun I=>zu I (qw I),zf UN⟩
def ve (I:Alg):KU
 |[.v (.one (.p (.str s)))],[]=>(fun(s:Str)=>(some (.one ⟨I.hid (s.length≤1000000),(.ret (.v (.one (.p (.bool (I.hid (RQ s))))))),[]⟩):Option CT)) s
 |_,_=>none
theorem YO:zq Tryz.prog 101 (ve alg):=by
 intro args hp r h;unfold ve at h;split at h<;>cases h
 rename_i s;simp only [CT.Good,zk];intro hneed
 refine spH Tryz.func101 (by kernel_rfl) { keep:=some [0,2]} [Z9,zdE,VH,VG,zet,zes] (by kernel_rfl) ?_
 intro I X hI hX
 refine orcL ?_;go_invoke;refine orcS (by kernel_rfl) ?_
 simp only [zl,Nat.reduceAdd];subst hI;simp only [nrmA,nrmB];exact hneed
def YN:Know Tryz.prog:=⟨101,ve,YO⟩
def YM:Know Tryz.prog:=⟨101,fun I=>zu I (ve I),zf YO⟩
def zcq (I:Alg):KU
 |[.v (.one (.p (.int .u8 k))),.v (.one (.p (.str s)))],[]=>(fun(s:Str)=>(some (.one ⟨I.hid (s.length≤1000000∧0≤k∧k≤255),(.ret (.v (.one (.p (.bool (I.hid (s.contains (UInt8.ofNat k.toNat)))))))),[]⟩):Option CT)) s
 |_,_=>none
theorem zii:zq Tryz.prog 43 (zcq alg):=by
 intro args hp r h;unfold zcq at h;split at h<;>cases h
 rename_i k s;simp only [CT.Good,zk];intro hneed;generalize hr:s.contains (UInt8.ofNat k.toNat)=r
 refine spH Tryz.func43 (by kernel_rfl) { keep:=some [0,1,4,5]} [] (by kernel_rfl) ?_
 intro I X hI hX
 refine orcL ?_;go_invoke;refine orcS (by kernel_rfl) ?_
 simp only [zl,Nat.reduceAdd]
 refine lpH hI [] hX [0,1,5] (fun(i:Nat)=>i≤s.length∧(s.drop i).contains (UInt8.ofNat k.toNat)=r) (fun(i:Nat)=>⟨[(0,.v (.one (.p (.int .u8 k)))),(1,.v (.one (.p (.str s)))),(5,.v (.one (.p (.int .i64 i))))],[],17,none⟩) (fun(i:Nat)=>s.length - i) 0 (by kernel_rfl) (by kernel_rfl) ?_ ?_
 · exact⟨jL _,hr⟩
 rintro i ⟨h1,h2⟩ A hA
 refine orcL ?_;go_invoke;refine orcS (by kernel_rfl) ?_
 simp only [zl,Nat.reduceAdd];subst hI;simp only [nrmA,nrmB]
 have hd:i<s.length→(s.drop i).contains (UInt8.ofNat k.toNat)=((UInt8.ofNat k.toNat == s.getD i 0)||(s.drop (i+1)).contains (UInt8.ofNat k.toNat)):=fun h=>by
  rw [jD h,List.contains_cons];simp [h]
 have hc:((s.getD i 0).toNat:Int)=k↔UInt8.ofNat k.toNat=s.getD i 0:=by
  rw [← UInt8.toNat_inj,UInt8.toNat_ofNat'];omega
 rw [hc];generalize s.getD i 0=x at *
 (repeat' (first|refine ja ?_ ?_|intro _))<;>first|omega|exact jb|exact jc ‹False›|skip
 all_goals first
  |(rw [← h2,hd (by omega)];simp [*];done)
  |(refine hA (i+1) ⟨by omega,?_⟩ (by omega);rw [← h2,hd (by omega)];simp [*];done)
  |(rw [← h2,jE (by omega)];rfl)
def zih:Know Tryz.prog:=⟨43,zcq,zii⟩
def zif:Know Tryz.prog:=⟨43,fun I=>zu I (zcq I),zf zii⟩
theorem zjB {p:Int→Prop} [∀ k,Decidable (p k)] (h: ∀ n:Fin 256,p (n.1:Int)) {k:Int} (hk:0≤k∧k≤255):p k:=by
 have:=h ⟨k.toNat,by omega⟩
 rwa [show((k.toNat:Nat):Int)=k by omega] at this
end Go.Proofs.YtcclfkakcgnacaaGreatDoor
namespace Go.Proofs.YtcclfkakcgnacaaGreatDoor
open Go Go.Sep Go.Ab
set_option maxRecDepth 100000
def lowC (x:UInt8):UInt8:=if 65≤x.toNat∧x.toNat≤90 then x+32 else x
def lowS (s:Str):Str:=s.map lowC
theorem y9 (s:Str):(lowS s).length=s.length:=by simp [lowS]
theorem zd5 (x:UInt8):((lowC x).toNat:Int)=lowK x.toNat:=by
 unfold lowC lowK;have:=x.toNat_lt
 split
 · rw [if_pos (by omega),UInt8.toNat_add]
   simp only [show(32:UInt8).toNat=32 from rfl];omega
 · rw [if_neg (by omega)]
theorem zjb (x:UInt8):UInt8.ofNat (lowK x.toNat).toNat=lowC x:=by
 rw [← zd5,jI,UInt8.ofNat_toNat]
def bl (c:UInt8):Bool:=([32,9]:Str).contains c
def X6 (I:Alg):KU
 |[.v (.one (.p (.str s)))],[]=>(fun(s:Str)=>(some (.one ⟨I.hid (True),(.ret (.v (.one (.p (.str (I.hid (Lib.trimS s [32,9]))))))),[]⟩):Option CT)) s
 |_,_=>none
theorem zdr:zq Tryz.prog 102 (X6 alg):=by
 intro args hp r h;unfold X6 at h;split at h<;>cases h
 rename_i s;simp only [CT.Good,zk];intro _
 refine spH Tryz.func102 (by kernel_rfl) { keep:=some [0,2]} [ziI,ziH] (by kernel_rfl) ?_
 intro I X hI hX
 refine orcL ?_;go_invoke;refine orcS (by kernel_rfl) ?_
 simp only [zl,Nat.reduceAdd];subst hI;simp only [nrmA,nrmB]
 try trivial
def zh0:Know Tryz.prog:=⟨102,X6,zdr⟩
def zhZ:Know Tryz.prog:=⟨102,fun I=>zu I (X6 I),zf zdr⟩
def ZY (I:Alg):KU
 |[.v (.one (.p (.str s)))],[]=>(fun(s:Str)=>(some (.one ⟨I.hid (s.length≤1000000),(.ret (.v (.one (.p (.str (I.hid (lowS s))))))),[]⟩):Option CT)) s
 |_,_=>none
theorem zal:zq Tryz.prog 134 (ZY alg):=by
 intro args hp r h;unfold ZY at h;split at h<;>cases h
 rename_i s;simp only [CT.Good,zk];intro hneed
 refine spH Tryz.func134 (by kernel_rfl) { keep:=some [0,2,3,4,5,8,9,10]} [XP,XO] (by kernel_rfl) ?_
 intro I X hI hX
 refine orcL ?_;go_invoke;refine orcS (by kernel_rfl) ?_
 simp only [zl,Nat.reduceAdd]
 refine lpH hI [XP,XO] hX [0,3,8,9,10] (fun(g:Nat × Str)=>match g with|(i,b)=>i≤s.length∧b=lowS (s.take i)++s.drop i) (fun(g:Nat × Str)=>match g with|(i,b)=>⟨[(0,.v (.one (.p (.str s)))),(3,.v (.one (.row 0))),(8,.v (.one (.row 0))),(9,.v (.one (.p (.int .i64 ((I.len (α:=UInt8) s)))))),(10,.v (.one (.p (.int .i64 i))))],[.row .byte 5 b],23,none⟩) (fun(g:Nat × Str)=>match g with|(i,b)=>s.length - i) (0,s) (by kernel_rfl) (by kernel_rfl) ?_ ?_
 · exact⟨jL _,rfl⟩
 rintro⟨i,b⟩ ⟨h1,h2⟩ A hA;simp only at hA
 refine orcL ?_;go_invoke;refine orcS (by kernel_rfl) ?_
 simp only [zl,Nat.reduceAdd];subst hI;simp only [nrmA,nrmB]
 have hlen:b.length=s.length:=by rw [h2,jk,y9,jr,jB];omega
 have hx:i<s.length→b.getD i 0=s.getD i 0:=fun h=>by
  rw [h2,jG,jG,jy (by rw [y9,jr];omega),y9,jr,jF]
  congr 2
  omega
 have hset:i<s.length→b.set i (lowC (s.getD i 0))=lowS (s.take (i+1))++s.drop (i+1):=fun h=>by
  have e:(lowS (s.take i)).length=i:=by rw [y9,jr];omega
  rw [h2,List.set_append_right _ _ (by omega),e,Nat.sub_self,jD h,List.set_cons_zero,jA h,show s.getD i 0=s[i] by simp [h]]
  unfold lowS;rw [List.map_append,jo];rfl
 have hby:=xg (s.getD i 0);have hlk:=zfF hby;refine⟨fun c=> ?_,fun c=> ?_⟩
 · rw [hx (by omega),zjb,hset (by omega)]
   exact⟨by omega,by omega,by omega,by omega,by omega,by omega,by omega,hA (i+1,_) ⟨by simp only;omega,rfl⟩ (by simp only;omega)⟩
 · rw [h2,jE (by omega),jq (by omega),List.append_nil]
def xW:Know Tryz.prog:=⟨134,ZY,zal⟩
def xU:Know Tryz.prog:=⟨134,fun I=>zu I (ZY I),zf zal⟩
def Xv (I:Alg):KU
 |[.v (.one (.p (.str s)))],[]=>(fun(s:Str)=>(some (.one ⟨I.hid (s.length≤1000000),(.ret (.v (.one (.p (.str (I.hid (lowS s))))))),[]⟩):Option CT)) s
 |_,_=>none
theorem zb4:zq Tryz.prog 68 (Xv alg):=by
 intro args hp r h;unfold Xv at h;split at h<;>cases h
 rename_i s;simp only [CT.Good,zk];intro hneed
 refine spH Tryz.func68 (by kernel_rfl) { keep:=some [0,2,3,4,5,6]} [] (by kernel_rfl) ?_
 intro I X hI hX
 refine orcL ?_;go_invoke;refine orcS (by kernel_rfl) ?_
 simp only [zl,Nat.reduceAdd]
 refine lpH hI [] hX [0,3,4] (fun(g:Nat × Str)=>match g with|(i,out)=>i≤s.length∧out=lowS (s.take i)) (fun(g:Nat × Str)=>match g with|(i,out)=>⟨[(0,.v (.one (.p (.str s)))),(3,.v (.one (.p (.str out)))),(4,.v (.one (.p (.int .i64 i))))],[],36,none⟩) (fun(g:Nat × Str)=>match g with|(i,out)=>s.length - i) (0,[]) (by kernel_rfl) (by kernel_rfl) ?_ ?_
 · exact⟨jL _,rfl⟩
 rintro⟨i,out⟩ ⟨h1,h2⟩ A hA;simp only at hA
 refine orcL ?_;go_invoke;refine orcS (by kernel_rfl) ?_
 simp only [zl,Nat.reduceAdd];refine⟨fun c1=>⟨?_,?_,?_⟩,fun c1=> ?_⟩
 · subst hI
   simp only [nrmA,nrmB] at c1;simp only [nrmA,nrmB];omega
 · subst hI
   simp only [nrmA,nrmB] at c1;simp only [nrmA,nrmB];omega
 · have hi:i<s.length:=by
    subst hI;simp only [nrmA,nrmB] at c1;omega
   generalize hc0:I.cut (α:=UInt8) s (Int.ofNat i) (I.add (↑i) 1)=c0
   have hc1:c0=[s.getD i 0]:=by
    rw [← hc0,hI,xJ,xK]
    simp only [Int.ofNat_eq_natCast,jI,show((i:Int)+1).toNat=i+1 by omega]
    rw [jD hi,Nat.add_sub_cancel_left,List.take_succ_cons,List.take_zero]
    simp [hi]
   generalize hx:s.getD i 0=x at *;have hxb:=x.toNat_lt
   have hcap: ∀ k:Nat,k<26→((([65,66,67,68,69,70,71,72,73,74,75,76,77,78,79,80,81,82,83,84,85,86,87,88,89,90]:Str).getD k 0).toNat=65+k∧((([97,98,99,100,101,102,103,104,105,106,107,108,109,110,111,112,113,114,115,116,117,118,119,120,121,122]:Str).drop k).take 1)=[UInt8.ofNat (97+k)]):=by decide+kernel
   refine lpH hI [] hX [0,3,4,5,6] (fun(g:Nat × Str)=>match g with|(k,c)=>k≤26∧c=[if 65≤x.toNat∧x.toNat<65+k then x+32 else x]) (fun(g:Nat × Str)=>match g with|(k,c)=>⟨[(0,.v (.one (.p (.str s)))),(3,.v (.one (.p (.str out)))),(4,.v (.one (.p (.int .i64 i)))),(5,.v (.one (.p (.str c)))),(6,.v (.one (.p (.int .i64 k))))],[],36,none⟩) (fun(g:Nat × Str)=>match g with|(k,c)=>26 - k) (0,c0) (by kernel_rfl) (by kernel_rfl) ?_ ?_
   · refine⟨jL _,?_⟩
     rw [hc1,if_neg (by omega)]
   rintro⟨k,c⟩ ⟨k1,k2⟩ B hB;simp only at hB
   refine orcL ?_;go_invoke;refine orcS (by kernel_rfl) ?_
   simp only [zl,Nat.reduceAdd];subst hI;simp only [nrmA,nrmB];rw [hx];generalize hCAP:([65,66,67,68,69,70,71,72,73,74,75,76,77,78,79,80,81,82,83,84,85,86,87,88,89,90]:Str)=CAP at *;generalize hLOW:([97,98,99,100,101,102,103,104,105,106,107,108,109,110,111,112,113,114,115,116,117,118,119,120,121,122]:Str)=LOW at *
   have hol:out.length≤1000000:=by rw [h2,y9,jr];omega
   have hc1l:c.length=1:=by rw [k2];rfl
   have hcl:CAP.length=26:=by rw [← hCAP];rfl
   have hll:LOW.length=26:=by rw [← hLOW];rfl
   have hcond:k<26→(CAP.getD k 0=x↔x.toNat=65+k):=fun h=>by rw [← UInt8.toNat_inj,(hcap k h).1];omega
   have heq:k<26→CAP.getD k 0=x→(LOW.drop k).take (((k:Int)+1).toNat - k)=[if 65≤x.toNat∧x.toNat<65+(k+1) then x+32 else x]:=fun h e=>by
    have e:=(hcond h).1 e
    rw [show((k:Int)+1).toNat - k=1 by omega,(hcap k h).2,if_pos (by omega)]
    congr 1
    rw [← UInt8.toNat_inj,UInt8.toNat_ofNat',UInt8.toNat_add,e];simp only [show(32:UInt8).toNat=32 from rfl];omega
   have hne:k<26→¬ CAP.getD k 0=x→c=[if 65≤x.toNat∧x.toNat<65+(k+1) then x+32 else x]:=fun h e=>by
    have e: ¬ x.toNat=65+k:=fun h'=>e ((hcond h).2 h');rw [k2]
    congr 1
    by_cases h1:65≤x.toNat∧x.toNat<65+k
    · rw [if_pos h1,if_pos (by omega)]
    · rw [if_neg h1,if_neg (by omega)]
   have hend: ¬ k<26→out++c=lowS (s.take (i+1)):=fun h=>by
    have hk:k=26:=by omega
    subst hk;rw [k2,h2,jA hi];unfold lowS;rw [List.map_append]
    congr 1
    rw [← hx,show s.getD i 0=s[i] by simp [hi]]
    show _=[lowC s[i]]
    unfold lowC
    congr 1
    by_cases h1:65≤s[i].toNat∧s[i].toNat<65+26
    · rw [if_pos h1,if_pos (by omega)]
    · rw [if_neg h1,if_neg (by omega)]
   (repeat' (first|refine ja ?_ ?_|intro _))<;>first|omega|exact jb|exact jc ‹False›|skip
   all_goals first
    |omega
    |exact hB (k+1,_) ⟨by simp only;omega,heq (by omega) ‹_›⟩ (by simp only;omega)
    |exact hB (k+1,_) ⟨by simp only;omega,hne (by omega) ‹_›⟩ (by simp only;omega)
    |(rw [hend (by omega)];exact hA (i+1,_) ⟨by simp only;omega,rfl⟩ (by simp only;omega))
 · subst hI
   simp only [nrmA,nrmB] at c1;simp only [nrmA,nrmB]
   rw [h2,jq (by omega)]
def Xu:Know Tryz.prog:=⟨68,Xv,zb4⟩
def Xt:Know Tryz.prog:=⟨68,fun I=>zu I (Xv I),zf zb4⟩
end Go.Proofs.YtcclfkakcgnacaaGreatDoor
namespace Go.Proofs.YtcclfkakcgnacaaGreatDoor
open Go Go.Sep Go.Ab
set_option maxRecDepth 100000
theorem zeA {p:UInt8→Bool} {s:Str} {i:Nat} (h:i≤(s.takeWhile p).length):(i<s.length∧p (s.getD i 0)=true)↔i<(s.takeWhile p).length:=by
 induction s generalizing i with
 |nil=>simp
 | cons c r ih=>
   by_cases hc:p c=true
   · simp only [List.takeWhile_cons,hc,if_true,jh] at h ⊢
     cases i with
     |zero=>simp [hc]
     | succ i=>
       have:=ih (i:=i) (by omega)
       simp only [List.getD_cons_succ];constructor
       · rintro⟨h1,h2⟩;have:=this.1 ⟨by omega,h2⟩;omega
       · intro h1;have:=this.2 (by omega);exact⟨by omega,this.2⟩
   · simp only [List.takeWhile_cons,hc,jd,if_false,ji] at h ⊢
     have:i=0:=by omega
     subst this
     simp [hc]
theorem ziK (p:UInt8→Bool) (s:Str):s.take (s.takeWhile p).length=s.takeWhile p:=by
 induction s with
 |nil=>simp
 |cons c r ih=>by_cases hc:p c=true<;>simp [List.takeWhile_cons,hc,ih]
theorem drop_tw (p:UInt8→Bool) (s:Str):s.drop (s.takeWhile p).length=s.dropWhile p:=by
 induction s with
 |nil=>simp
 |cons c r ih=>by_cases hc:p c=true<;>simp [List.takeWhile_cons,List.dropWhile_cons,hc,ih]
theorem zjJ (p:UInt8→Bool) (s:Str):(s.takeWhile p).length≤s.length:=(List.takeWhile_sublist p).length_le
theorem zkA (p:UInt8→Bool) (s:Str):(s.dropWhile p).length≤s.length:=(List.dropWhile_sublist p).length_le
def isTk (c:UInt8):Bool:=tokB (c.toNat:Int)
def tokS (s:Str):Str:=s.takeWhile isTk
def tokE (s:Str):Str:=s.dropWhile isTk
theorem wu (s:Str):(tokS s).length≤s.length:=zjJ _ _
theorem wz (s:Str):(tokE s).length≤s.length:=zkA _ _
theorem ziJ (s:Str):(tokS s).length+(tokE s).length=s.length:=by
 have:=congrArg List.length (List.takeWhile_append_dropWhile (p:=isTk) (l:=s));rw [jk] at this;exact this
def skS (s:Str):Str:=Lib.trimLeftS s [32,9]
theorem wJ (s:Str):(skS s).length≤s.length:=by
 unfold skS Lib.trimLeftS;exact(List.dropWhile_sublist _).length_le
def wo (s:Str) (c:UInt8):Bool:=s.head? == some c
theorem Uw {s:Str} {c:UInt8} (h:wo s c=true):0<s.length:=by
 cases s with
 |nil=>simp [wo] at h
 |cons a r=>simp
theorem Ux {s:Str} {c:UInt8}:wo s c=true↔0<s.length∧s.getD 0 0=c:=by
 cases s with
 |nil=>simp [wo]
 |cons a r=>simp [wo]
theorem drop1 (s:Str):List.take (s.length - Int.toNat 1) (List.drop (Int.toNat 1) s)=s.drop 1:=by
 show List.take (s.length - 1) (List.drop 1 s)=s.drop 1
 exact jq (by simp)
def quoF:Str→Option (Str × Str)
 |[]=>none
 |[x]=>if x=34 then some ([],[]) else none
 |x::y::r=>if x=34 then some ([],y::r) else if x=92 then(quoF r).map (fun p=>(y::p.1,p.2)) else(quoF (y::r)).map (fun p=>(x::p.1,p.2))
def quoV (s:Str):Str:=match quoF s with|some p=>p.1|none=>[]
def quoR (s:Str):Str:=match quoF s with|some p=>p.2|none=>[]
theorem XH: ∀ (s:Str) (p:Str × Str),quoF s=some p→p.1.length+p.2.length<s.length
 |[],p,h=>by simp [quoF] at h
 | [x],p,h=>by
   simp only [quoF] at h
   split at h
   · cases h;simp
   · cases h
 | x ::y::r,p,h=>by
   simp only [quoF] at h
   split at h
   · cases h;simp
   · split at h
     · rw [Option.map_eq_some_iff] at h
       obtain⟨q,hq,rfl⟩:=h;have:=XH r q hq;simp only [jh];omega
     · rw [Option.map_eq_some_iff] at h
       obtain⟨q,hq,rfl⟩:=h;have:=XH (y::r) q hq;simp only [jh] at this ⊢;omega
theorem zhn (s:Str):(quoR s).length≤s.length:=by
 unfold quoR
 split
 · rename_i p h;have:=XH _ _ h;omega
 · simp
theorem zhm (s:Str):(quoV s).length≤s.length:=by
 unfold quoV
 split
 · rename_i p h;have:=XH _ _ h;omega
 · simp
def parM (s:Str):Int × Fld × Str:=
 if tokS s=[] then(5,⟨[],[]⟩,tokE s)
 else if wo (tokE s) 61=false then(5,⟨[],[]⟩,tokE s)
 else if wo ((tokE s).drop 1) 34=true then
  if(quoF ((tokE s).drop 2)).isSome=true then(0,⟨lowS (tokS s),quoV ((tokE s).drop 2)⟩,quoR ((tokE s).drop 2)) else(14,⟨[],[]⟩,[])
 else if tokS ((tokE s).drop 1)=[] then(5,⟨[],[]⟩,tokE ((tokE s).drop 1))
 else(0,⟨lowS (tokS s),tokS ((tokE s).drop 1)⟩,tokE ((tokE s).drop 1))
theorem zcl (s:Str):(parM s).2.2.length≤s.length∧(parM s).2.1.name.length≤s.length∧(parM s).2.1.value.length≤s.length:=by
 have h1:=wz s;have h2:=wz ((tokE s).drop 1);have h3:=zhn ((tokE s).drop 2);have h4:=zhm ((tokE s).drop 2);have h5:=wu s;have h6:=wu ((tokE s).drop 1);simp only [jB] at h2 h3 h4 h6;unfold parM
 repeat' split
 all_goals simp only [ji,y9];omega
def getP (l:List Fld) (n:Str):Str × Bool:=match l.find? (fun f=>f.name == n) with|some f=>(f.value,true)|none=>([],false)
def medL:Nat→Str→List Fld→Int × List Fld × Str
 |0,s,ps=>(5,ps,s)
 | n +1,s,ps=>
   if wo s 59=true then
    if(parM (skS (s.drop 1))).1≠0 then((parM (skS (s.drop 1))).1,ps,(parM (skS (s.drop 1))).2.2)
    else if(getP ps (parM (skS (s.drop 1))).2.1.name).2=true then(9,ps,(parM (skS (s.drop 1))).2.2)
    else if ps.length=8 then(8,ps,(parM (skS (s.drop 1))).2.2)
    else medL n (skS (parM (skS (s.drop 1))).2.2) (ps++[(parM (skS (s.drop 1))).2.1])
   else if s=[] then(0,ps,s) else(5,ps,s)
def medB (w:Str) (s:Str):Int × Med × Str:=((medL ((skS s).length+1) (skS s) []).1,⟨w,(medL ((skS s).length+1) (skS s) []).2.1⟩,(medL ((skS s).length+1) (skS s) []).2.2)
def medA (s:Str):Int × Med × Str:=
 if tokS s=[] then(5,⟨[],[]⟩,tokE s)
 else if wo (tokE s) 47=true then
  if tokS ((tokE s).drop 1)=[] then(5,⟨[],[]⟩,tokE ((tokE s).drop 1))
  else medB (lowS (tokS s)++([47]++lowS (tokS ((tokE s).drop 1)))) (tokE ((tokE s).drop 1))
 else medB (lowS (tokS s)) (tokE s)
def y8 (s:Str):Int × Med × Str:=medA (skS s)
def YH (s:Str):Med × Int:=if RQ s=false then(⟨[],[]⟩,3) else if(y8 s).1=0 then((y8 s).2.1,0) else(⟨[],[]⟩,(y8 s).1)
theorem Qb (s:Str):(parM s).1=0∨(parM s).1=5∨(parM s).1=14:=by
 unfold parM
 repeat' split
 all_goals simp
def ixP (l:List Fld) (n:Str):Int:=if l.findIdx (fun f=>f.name == n)<l.length then(l.findIdx (fun f=>f.name == n):Int) else -1
theorem zjo (l:List Fld) (n:Str):getP l n=if 0≤ixP l n then((l.getD (ixP l n).toNat ⟨[],[]⟩).value,true) else([],false):=by
 unfold getP ixP;rw [List.find?_eq_getElem?_findIdx]
 by_cases h:l.findIdx (fun f=>f.name == n)<l.length
 · rw [if_pos h,if_pos (by omega),jm h]
   simp [jG,h]
 · rw [if_neg h,if_neg (by omega),List.getElem?_eq_none (by omega)]
end Go.Proofs.YtcclfkakcgnacaaGreatDoor
namespace Go.Proofs.YtcclfkakcgnacaaGreatDoor
open Go Go.Sep Go.Ab
set_option maxRecDepth 100000
def uq (I:Alg):KU
 |[.v (.one (.p (.str s))),.v (.one (.p (.str ([32,9]))))],[]=>(fun(s:Str)=>(some (.one ⟨I.hid (True),(.ret (.v (.one (.p (.str (I.hid (skS s))))))),[]⟩):Option CT)) s
 |_,_=>none
theorem Wq:zq Tryz.prog 158 (uq alg):=by
 intro args hp r h;unfold uq at h;split at h<;>cases h
 rename_i s;simp only [CT.Good,zk];intro _
 refine Spc.of_below ⟨_,Tryz.func158,by kernel_rfl,by kernel_rfl⟩ fun S bs w vs _ hM=> ?_
 obtain⟨v,r,rfl⟩: ∃ v r,vs=v::r:=by cases vs with|nil=>exact hM.elim|cons v r=>exact⟨v,r,rfl⟩
 obtain⟨h1,hM⟩:=hM
 obtain⟨v2,r2,rfl⟩: ∃ v r2,r=v::r2:=by cases r with|nil=>exact hM.elim|cons v r=>exact⟨v,r,rfl⟩
 obtain⟨h2,hM⟩:=hM
 obtain rfl:r2=[]:=by cases r2 with|nil=>rfl|cons v r=>exact hM.elim
 cases h1 with
 | str _ hl1=>
   cases h2 with
   | str _ hl2=>
     refine⟨.string (Sep.S (skS s)),.str _ (Nat.le_trans (wJ _) hl1),?_⟩
     exact Tryz.strings_TrimLeft_laid (Sep.S s) (Sep.S [32,9]) w (by decide) (fun j b hb=>by
      have:=List.mem_of_getElem? hb
      rcases(by simpa [Sep.S] using this:b=32∨b=9) with rfl|rfl<;>decide)
def zaC:Know Tryz.prog:=⟨158,uq,Wq⟩
def zaB:Know Tryz.prog:=⟨158,fun I=>zu I (uq I),zf Wq⟩
theorem zi2 (b:Bool) (c:Int) (hneed:b=false):Spc Tryz.prog 141 [.v (.one (.p (.bool b))),.v (.one (.p (.int .i64 c)))] [] (.ret (.tup [])) []:=by
 refine spH Tryz.func141 (by kernel_rfl) { keep:=some [0,1]} [] (by kernel_rfl) ?_
 intro I X hI hX
 refine orcL ?_;go_invoke;refine orcS (by kernel_rfl) ?_
 simp only [zl,Nat.reduceAdd];subst hI;simp only [nrmA,nrmB]
 (repeat' (first|refine ja ?_ ?_|intro _))<;>first|omega|exact jb|exact jc ‹False›|skip
 all_goals simp_all
theorem zi1 (b:Bool) (c:Int) (hneed:b=true):Spc Tryz.prog 141 [.v (.one (.p (.bool b))),.v (.one (.p (.int .i64 c)))] [] (.pan (.ifc 145 false [.int .i64 c])) []:=by
 refine spH Tryz.func141 (by kernel_rfl) { keep:=some [0,1]} [] (by kernel_rfl) ?_
 intro I X hI hX
 refine orcL ?_;go_invoke;refine orcS (by kernel_rfl) ?_
 simp only [zl,Nat.reduceAdd];subst hI;simp only [nrmA,nrmB]
 (repeat' (first|refine ja ?_ ?_|intro _))<;>first|omega|exact jb|exact jc ‹False›|skip
 all_goals simp_all
def XK (I:Alg):KU
 |[.v (.one (.p (.bool b))),.v (.one (.p (.int .i64 c)))],[]=>some (.br (I.hid (b)) (.one ⟨I.hid (b=true),(.pan (.ifc 145 false [.int .i64 c])),[]⟩) (.one ⟨I.hid (b=false),(.ret (.tup [])),[]⟩))
 |_,_=>none
theorem zcp:zq Tryz.prog 141 (XK alg):=by
 intro args hp r h;unfold XK at h
 split at h
 · cases h;exact⟨fun _ hn=>zi1 _ _ hn,fun _ hn=>zi2 _ _ hn⟩
 · cases h
def yU:Know Tryz.prog:=⟨141,XK,zcp⟩
def yT:Know Tryz.prog:=⟨141,fun I=>zu I (XK I),zf zcp⟩
def rZ (I:Alg):KU
 |[.v (.one (.ptr 0 0))],[.pack [.obj 149 [.p (.str s)]]]=>(fun(s:Str)=>(some (.one ⟨I.hid (True),(.ret (.tup [])),[.pack [.obj 149 [.p (.str (I.hid (skS s)))]]]⟩):Option CT)) s
 |_,_=>none
theorem Uk:zq Tryz.prog 136 (rZ alg):=by
 intro args hp r h;unfold rZ at h;split at h<;>cases h
 rename_i s;simp only [CT.Good,zk];intro _
 refine spH Tryz.func136 (by kernel_rfl) { keep:=some [0]} [zaC,zaB] (by kernel_rfl) ?_
 intro I X hI hX
 refine orcL ?_;go_invoke;refine orcS (by kernel_rfl) ?_
 simp only [zl,Nat.reduceAdd];subst hI;simp only [nrmA,nrmB,nrlB,reduceCtorEq,HO.pack.injEq,HO.obj.injEq]
 try trivial
def rY:Know Tryz.prog:=⟨136,rZ,Uk⟩
def rX:Know Tryz.prog:=⟨136,fun I=>zu I (rZ I),zf Uk⟩
def XI (I:Alg):KU
 |[.v (.one (.ptr 0 0)),.v (.one (.p (.int .u8 k)))],[.pack [.obj 149 [.p (.str s)]]]=>(fun(s:Str)=>(some (.one ⟨I.hid (0≤k∧k≤255),(.ret (.v (.one (.p (.bool (I.hid (wo s (UInt8.ofNat k.toNat)))))))),[.pack [.obj 149 [(.p (.str (I.hid (if wo s (UInt8.ofNat k.toNat)=true then s.drop 1 else s))))]]]⟩):Option CT)) s
 |_,_=>none
theorem zcm:zq Tryz.prog 138 (XI alg):=by
 intro args hp r h;unfold XI at h;split at h<;>cases h
 rename_i k s;simp only [CT.Good,zk];intro hneed;generalize hr:wo s (UInt8.ofNat k.toNat)=r
 refine spH Tryz.func138 (by kernel_rfl) { keep:=some [0,1,4,5]} [] (by kernel_rfl) ?_
 intro I X hI hX
 refine orcL ?_;go_invoke;refine orcS (by kernel_rfl) ?_
 simp only [zl,Nat.reduceAdd];subst hI;simp only [nrmA,nrmB,nrlB,reduceCtorEq,HO.pack.injEq,HO.obj.injEq]
 have hk:((UInt8.ofNat k.toNat).toNat:Int)=k:=by rw [UInt8.toNat_ofNat',Nat.mod_eq_of_lt (by omega)];omega
 have hk2: ∀ c:UInt8,(c.toNat:Int)=k↔c=UInt8.ofNat k.toNat:=fun c=>⟨fun h=>by rw [← h];simp,fun h=>by rw [h];exact hk⟩
 rw [drop1];have hs:s=[]↔s.length=0:=List.length_eq_zero_iff.symm;rw [hs]
 cases r with
 | true=>
   obtain⟨h1,h2⟩:=Ux.1 hr;have hkk:=(hk2 _).2 h2;rw [hkk]
   (repeat' (first|refine ja ?_ ?_|intro _))<;>first|omega|exact jb|exact jc ‹False›|skip
   all_goals first|omega|(simp;done)|(simp_all;done)
 | false=>
   have h1:0<s.length→¬ ((s.getD 0 0).toNat:Int)=k:=fun h q=>by rw [Ux.2 ⟨h,(hk2 _).1 q⟩] at hr;cases hr
   (repeat' (first|refine ja ?_ ?_|intro _))<;>first|omega|exact jb|exact jc ‹False›|skip
   all_goals first|omega|(simp;done)|(exfalso;exact h1 (by omega) ‹_›)|(have:=h1 (by omega);simp_all;done)|trace_state
def rW:Know Tryz.prog:=⟨138,XI,zcm⟩
def rV:Know Tryz.prog:=⟨138,fun I=>zu I (XI I),zf zcm⟩
theorem zj4 (s:Str) (hneed:s.length≤1000000∧¬ tokS s=[]):Spc Tryz.prog 137 [.v (.one (.ptr 0 0))] [.pack [.obj 149 [.p (.str s)]]] (.ret (.v (.one (.p (.str ((tokS s))))))) [.pack [.obj 149 [.p (.str ((tokE s)))]]]:=by
 obtain⟨hl,hne⟩:=hneed
 refine spH Tryz.func137 (by kernel_rfl) { keep:=some [0,2,3,4]} [rD,Xf,yU,yT] (by kernel_rfl) ?_
 intro I X hI hX
 refine orcL ?_;go_invoke;refine orcS (by kernel_rfl) ?_
 simp only [zl,Nat.reduceAdd]
 refine lpH hI [rD,Xf,yU,yT] hX [0,3] (fun(i:Nat)=>i≤(tokS s).length) (fun(i:Nat)=>⟨[(0,.v (.one (.ptr 0 0))),(3,.v (.one (.p (.int .i64 i))))],[.pack [.obj 149 [.p (.str s)]]],42,none⟩) (fun(i:Nat)=>s.length - i) 0 (by kernel_rfl) (by kernel_rfl) ?_ ?_
 · exact jL _
 rintro i h1 A hA
 refine orcL ?_;go_invoke;refine orcS (by kernel_rfl) ?_
 simp only [zl,Nat.reduceAdd];subst hI;simp only [nrmA,nrmB,nrlB,reduceCtorEq,HO.pack.injEq,HO.obj.injEq];have hb:=xg (s.getD i 0);have hs:=zeA (p:=isTk) (s:=s) h1;have hle:=wu s;have ht:=ziK isTk s;have hd:=drop_tw isTk s;unfold isTk at hs
 change _↔i<(tokS s).length at hs
 change s.take (tokS s).length=tokS s at ht
 change s.drop (tokS s).length=tokE s at hd
 have hlen:=ziJ s
 have hend: ¬ i<(tokS s).length→i=(tokS s).length:=fun h=>by omega
 generalize s.getD i 0=x at *
 have hgo:i<(tokS s).length→A ⟨[(0,.v (.one (.ptr 0 0))),(3,.v (.one (.p (.int .i64 (((i:Int)+1))))))],[.pack [.obj 149 [.p (.str s)]]],42,none⟩:=fun h=>hA (i+1) (by omega) (by omega)
 by_cases hi:i<(tokS s).length
 · have hi2:=hs.2 hi
   clear hs hend ht hd hA
   (repeat' (first|refine ja ?_ ?_|intro _))<;>first|omega|exact jb|exact jc ‹False›|skip
   all_goals first
    |omega
    |exact hgo hi
    |(exfalso;simp_all;done)
 · have hx:i<s.length→tokB (x.toNat:Int)=true→False:=fun a b=>hi (hs.1 ⟨a,b⟩)
   have hi2:=hend hi;clear hs hend hA hgo;subst hi2;rw [ht]
   have hcut:List.take (s.length - (tokS s).length) (List.drop (tokS s).length s)=tokE s:=by rw [hd];exact jq (by omega)
   rw [hcut]
   (repeat' (first|refine ja ?_ ?_|intro _))<;>first|omega|exact jb|exact jc ‹False›|skip
   all_goals first
    |omega
    |(exfalso;exact hx (by omega) ‹_›)
    |(exfalso;exact hne ‹_›)
    |(simp [hne];done)
theorem zj3 (s:Str) (hneed:s.length≤1000000∧tokS s=[]):Spc Tryz.prog 137 [.v (.one (.ptr 0 0))] [.pack [.obj 149 [.p (.str s)]]] (.pan (.ifc 145 false [.int .i64 5])) [.pack [.obj 149 [.p (.str ((tokE s)))]]]:=by
 obtain⟨hl,hne⟩:=hneed
 refine spH Tryz.func137 (by kernel_rfl) { keep:=some [0,2,3,4]} [rD,Xf,yU,yT] (by kernel_rfl) ?_
 intro I X hI hX
 refine orcL ?_;go_invoke;refine orcS (by kernel_rfl) ?_
 simp only [zl,Nat.reduceAdd]
 refine lpH hI [rD,Xf,yU,yT] hX [0,3] (fun(i:Nat)=>i≤(tokS s).length) (fun(i:Nat)=>⟨[(0,.v (.one (.ptr 0 0))),(3,.v (.one (.p (.int .i64 i))))],[.pack [.obj 149 [.p (.str s)]]],42,none⟩) (fun(i:Nat)=>s.length - i) 0 (by kernel_rfl) (by kernel_rfl) ?_ ?_
 · exact jL _
 rintro i h1 A hA
 refine orcL ?_;go_invoke;refine orcS (by kernel_rfl) ?_
 simp only [zl,Nat.reduceAdd];subst hI;simp only [nrmA,nrmB,nrlB,reduceCtorEq,HO.pack.injEq,HO.obj.injEq];have hb:=xg (s.getD i 0);have hs:=zeA (p:=isTk) (s:=s) h1;have hd:=drop_tw isTk s;unfold isTk at hs
 change _↔i<(tokS s).length at hs
 change s.drop (tokS s).length=tokE s at hd
 rw [hne] at h1 hs hd;simp only [ji] at h1 hs hd
 have h0:i=0:=by omega
 subst h0;generalize s.getD 0 0=x at *
 have hx:0<s.length→tokB (x.toNat:Int)=true→False:=fun a b=>absurd (hs.1 ⟨a,b⟩) (by omega)
 have hcut:List.take (s.length - 0) (List.drop 0 s)=tokE s:=by rw [hd];exact jq (by have:=wz s;omega)
 clear hs hA;simp only [jI,List.take_zero,hcut] at *
 (repeat' (first|refine ja ?_ ?_|intro _))<;>first|omega|exact jb|exact jc ‹False›|skip
 all_goals first
  |omega
  |(exfalso;exact hx (by omega) ‹_›)
  |(exfalso;rename_i hq;exact hq rfl)
  |(simp;done)
def Tn (I:Alg):KU
 |[.v (.one (.ptr 0 0))],[.pack [.obj 149 [.p (.str s)]]]=>(fun(s:Str)=>(some (.br (I.hid (decide (tokS s=[]))) (.one ⟨I.hid (s.length≤1000000∧tokS s=[]),(.pan (.ifc 145 false [.int .i64 5])),[.pack [.obj 149 [.p (.str (I.hid (tokE s)))]]]⟩) (.one ⟨I.hid (s.length≤1000000∧¬ tokS s=[]),(.ret (.v (.one (.p (.str (I.hid (tokS s))))))),[.pack [.obj 149 [.p (.str (I.hid (tokE s)))]]]⟩)):Option CT)) s
 |_,_=>none
theorem zff:zq Tryz.prog 137 (Tn alg):=by
 intro args hp r h;unfold Tn at h
 split at h
 · cases h;exact⟨fun _ hn=>zj3 _ hn,fun _ hn=>zj4 _ hn⟩
 · cases h
def Yl:Know Tryz.prog:=⟨137,Tn,zff⟩
def Yk:Know Tryz.prog:=⟨137,fun I=>zu I (Tn I),zf zff⟩
theorem zj6 (s:Str) (hneed:s.length≤1000000∧(quoF s).isSome=true):Spc Tryz.prog 160 [.v (.one (.ptr 0 0))] [.pack [.obj 149 [.p (.str s)]]] (.ret (.v (.one (.p (.str ((quoV s))))))) [.pack [.obj 149 [.p (.str ((quoR s)))]]]:=by
 obtain⟨hl,hne⟩:=hneed
 refine spH Tryz.func160 (by kernel_rfl) { nr:=[3],keep:=some [0,2,3,4]} [yU,yT] (by kernel_rfl) ?_
 intro I X hI hX
 refine orcL ?_;go_invoke;refine orcS (by kernel_rfl) ?_
 simp only [zl,Nat.reduceAdd]
 refine lpH hI [yU,yT] hX [0,3] (fun(g:Str × Str)=>match g with|(b,t)=>b.length+t.length≤s.length∧quoF s=(quoF t).map (fun p=>(b++p.1,p.2))) (fun(g:Str × Str)=>match g with|(b,t)=>⟨[(0,.v (.one (.ptr 0 0))),(3,.v (.one (.row 1)))],[.pack [.obj 149 [.p (.str t)]],.row .byte 5 b],53,none⟩) (fun(g:Str × Str)=>match g with|(b,t)=>t.length) ([],s) (by kernel_rfl) (by kernel_rfl) ?_ ?_
 · exact⟨by simp,by simp⟩
 rintro⟨b,t⟩ ⟨h1,h2⟩ A hA
 refine orcL ?_;go_invoke;refine orcS (by kernel_rfl) ?_
 simp only [zl,Nat.reduceAdd];subst hI;simp only [nrmA,nrmB,nrlB,reduceCtorEq,HO.pack.injEq,HO.obj.injEq];have hb:=xg (t.getD 0 0);rw [drop1];have hq: ∀ r:Str × Str,quoF s=some r→True:=fun _ _=>trivial
 cases t with
 | nil=>
   simp only [quoF,Option.map_none] at h2
   (repeat' (first|refine ja ?_ ?_|intro _))<;>first|omega|exact jb|exact jc ‹False›|skip
   all_goals first
    |omega
    |(simp_all;done)
 |cons x t=>
 cases t with
 | nil=>
   simp only [quoF] at h2;have h34:((x.toNat:Int)=34)↔x=34:=vN x 34;have h92:((x.toNat:Int)=92)↔x=92:=vN x 92;simp only [List.getD_cons_zero,h34,h92,List.drop_succ_cons,List.drop_zero,jh,ji] at *
   have hgo: ¬ x=34→A ⟨[(0,.v (.one (.ptr 0 0))),(3,.v (.one (.row 1)))],[.pack [.obj 149 [.p (.str ([]))]],.row .byte 5 ((b++[x]))],53,none⟩:=fun h=>hA (b++[x],[]) ⟨by simp;omega,by rw [h2,if_neg h];rfl⟩ (by simp)
   have hv:x=34→quoV s=b∧quoR s=[]:=fun h=>by unfold quoV quoR;rw [h2,if_pos h];simp
   clear hA
   (repeat' (first|refine ja ?_ ?_|intro _))<;>first|omega|exact jb|exact jc ‹False›|skip
   all_goals first
    |omega
    |exact(hv ‹_›).1.symm
    |exact(hv ‹_›).2.symm
    |exact hgo ‹_›
    |(simp_all;done)
 | cons y t=>
   simp only [quoF] at h2;have h34:((x.toNat:Int)=34)↔x=34:=vN x 34;have h92:((x.toNat:Int)=92)↔x=92:=vN x 92;have hy:=xg y
   have hyt:List.take (t.length+1 - Int.toNat 1) (List.drop (Int.toNat 1) (y::t))=t:=by simpa using drop1 (y::t)
   simp only [List.getD_cons_zero,h34,h92,List.drop_succ_cons,List.drop_zero,jh] at *
   have hgoY: ¬ x=34→x=92→A ⟨[(0,.v (.one (.ptr 0 0))),(3,.v (.one (.row 1)))],[.pack [.obj 149 [.p (.str t)]],.row .byte 5 ((b++[y]))],53,none⟩:=fun h k=>hA (b++[y],t) ⟨by simp;omega,by rw [h2,if_neg h,if_pos k,Option.map_map];congr 1;funext p;simp⟩ (by simp;omega)
   have hgoX: ¬ x=34→¬ x=92→A ⟨[(0,.v (.one (.ptr 0 0))),(3,.v (.one (.row 1)))],[.pack [.obj 149 [.p (.str ((y::t)))]],.row .byte 5 ((b++[x]))],53,none⟩:=fun h k=>hA (b++[x],y::t) ⟨by simp;omega,by rw [h2,if_neg h,if_neg k,Option.map_map];congr 1;funext p;simp⟩ (by simp)
   have hv:x=34→quoV s=b∧quoR s=y::t:=fun h=>by unfold quoV quoR;rw [h2,if_pos h];simp
   clear hA;simp only [ji,Nat.zero_add]
   first|rw [hyt]|skip
   (repeat' (first|refine ja ?_ ?_|intro _))<;>first|omega|exact jb|exact jc ‹False›|skip
   all_goals first
    |omega
    |exact(hv ‹_›).1.symm
    |exact(hv ‹_›).2.symm
    |exact hgoX ‹_› ‹_›
    |exact hgoY ‹_› ‹_›
    |(simp_all;done)
theorem zj5 (s:Str) (hneed:s.length≤1000000∧(quoF s).isSome=false):Spc Tryz.prog 160 [.v (.one (.ptr 0 0))] [.pack [.obj 149 [.p (.str s)]]] (.pan (.ifc 145 false [.int .i64 14])) [.pack [.obj 149 [.p (.str ([]))]]]:=by
 obtain⟨hl,hne⟩:=hneed
 refine spH Tryz.func160 (by kernel_rfl) { nr:=[3],keep:=some [0,2,3,4]} [yU,yT] (by kernel_rfl) ?_
 intro I X hI hX
 refine orcL ?_;go_invoke;refine orcS (by kernel_rfl) ?_
 simp only [zl,Nat.reduceAdd]
 refine lpH hI [yU,yT] hX [0,3] (fun(g:Str × Str)=>match g with|(b,t)=>b.length+t.length≤s.length∧quoF s=(quoF t).map (fun p=>(b++p.1,p.2))) (fun(g:Str × Str)=>match g with|(b,t)=>⟨[(0,.v (.one (.ptr 0 0))),(3,.v (.one (.row 1)))],[.pack [.obj 149 [.p (.str t)]],.row .byte 5 b],53,none⟩) (fun(g:Str × Str)=>match g with|(b,t)=>t.length) ([],s) (by kernel_rfl) (by kernel_rfl) ?_ ?_
 · exact⟨by simp,by simp⟩
 rintro⟨b,t⟩ ⟨h1,h2⟩ A hA
 refine orcL ?_;go_invoke;refine orcS (by kernel_rfl) ?_
 simp only [zl,Nat.reduceAdd];subst hI;simp only [nrmA,nrmB,nrlB,reduceCtorEq,HO.pack.injEq,HO.obj.injEq];have hb:=xg (t.getD 0 0);rw [drop1];have hq: ∀ r:Str × Str,quoF s=some r→True:=fun _ _=>trivial
 cases t with
 | nil=>
   simp only [quoF,Option.map_none] at h2
   (repeat' (first|refine ja ?_ ?_|intro _))<;>first|omega|exact jb|exact jc ‹False›|skip
   all_goals first
    |omega
    |(simp_all;done)
 |cons x t=>
 cases t with
 | nil=>
   simp only [quoF] at h2;have h34:((x.toNat:Int)=34)↔x=34:=vN x 34;have h92:((x.toNat:Int)=92)↔x=92:=vN x 92;simp only [List.getD_cons_zero,h34,h92,List.drop_succ_cons,List.drop_zero,jh,ji] at *
   have hgo: ¬ x=34→A ⟨[(0,.v (.one (.ptr 0 0))),(3,.v (.one (.row 1)))],[.pack [.obj 149 [.p (.str ([]))]],.row .byte 5 ((b++[x]))],53,none⟩:=fun h=>hA (b++[x],[]) ⟨by simp;omega,by rw [h2,if_neg h];rfl⟩ (by simp)
   have hv:x=34→quoV s=b∧quoR s=[]:=fun h=>by unfold quoV quoR;rw [h2,if_pos h];simp
   clear hA
   (repeat' (first|refine ja ?_ ?_|intro _))<;>first|omega|exact jb|exact jc ‹False›|skip
   all_goals first
    |omega
    |exact(hv ‹_›).1.symm
    |exact(hv ‹_›).2.symm
    |exact hgo ‹_›
    |(simp_all;done)
 | cons y t=>
   simp only [quoF] at h2;have h34:((x.toNat:Int)=34)↔x=34:=vN x 34;have h92:((x.toNat:Int)=92)↔x=92:=vN x 92;have hy:=xg y
   have hyt:List.take (t.length+1 - Int.toNat 1) (List.drop (Int.toNat 1) (y::t))=t:=by simpa using drop1 (y::t)
   simp only [List.getD_cons_zero,h34,h92,List.drop_succ_cons,List.drop_zero,jh] at *
   have hgoY: ¬ x=34→x=92→A ⟨[(0,.v (.one (.ptr 0 0))),(3,.v (.one (.row 1)))],[.pack [.obj 149 [.p (.str t)]],.row .byte 5 ((b++[y]))],53,none⟩:=fun h k=>hA (b++[y],t) ⟨by simp;omega,by rw [h2,if_neg h,if_pos k,Option.map_map];congr 1;funext p;simp⟩ (by simp;omega)
   have hgoX: ¬ x=34→¬ x=92→A ⟨[(0,.v (.one (.ptr 0 0))),(3,.v (.one (.row 1)))],[.pack [.obj 149 [.p (.str ((y::t)))]],.row .byte 5 ((b++[x]))],53,none⟩:=fun h k=>hA (b++[x],y::t) ⟨by simp;omega,by rw [h2,if_neg h,if_neg k,Option.map_map];congr 1;funext p;simp⟩ (by simp)
   have hv:x=34→quoV s=b∧quoR s=y::t:=fun h=>by unfold quoV quoR;rw [h2,if_pos h];simp
   clear hA;simp only [ji,Nat.zero_add]
   first|rw [hyt]|skip
   (repeat' (first|refine ja ?_ ?_|intro _))<;>first|omega|exact jb|exact jc ‹False›|skip
   all_goals first
    |omega
    |exact(hv ‹_›).1.symm
    |exact(hv ‹_›).2.symm
    |exact hgoX ‹_› ‹_›
    |exact hgoY ‹_› ‹_›
    |(simp_all;done)
def Tq (I:Alg):KU
 |[.v (.one (.ptr 0 0))],[.pack [.obj 149 [.p (.str s)]]]=>(fun(s:Str)=>(some (.br (I.hid ((quoF s).isSome)) (.one ⟨I.hid (s.length≤1000000∧(quoF s).isSome=true),(.ret (.v (.one (.p (.str (I.hid (quoV s))))))),[.pack [.obj 149 [.p (.str (I.hid (quoR s)))]]]⟩) (.one ⟨I.hid (s.length≤1000000∧(quoF s).isSome=false),(.pan (.ifc 145 false [.int .i64 14])),[.pack [.obj 149 [.p (.str (I.hid ([])))]]]⟩)):Option CT)) s
 |_,_=>none
theorem zfi:zq Tryz.prog 160 (Tq alg):=by
 intro args hp r h;unfold Tq at h
 split at h
 · cases h;exact⟨fun _ hn=>zj6 _ hn,fun _ hn=>zj5 _ hn⟩
 · cases h
def zfh:Know Tryz.prog:=⟨160,Tq,zfi⟩
def zfg:Know Tryz.prog:=⟨160,fun I=>zu I (Tq I),zf zfi⟩
theorem zj8 (s:Str) (hneed:s.length≤1000000∧(parM s).1=0):Spc Tryz.prog 139 [.v (.one (.ptr 0 0))] [.pack [.obj 149 [.p (.str s)]]] (.ret (.v (.agg [.p (.str ((parM s).2.1.name)),.p (.str ((parM s).2.1.value))]))) [.pack [.obj 149 [.p (.str ((parM s).2.2))]]]:=by
 obtain⟨hl,hc⟩:=hneed;generalize hr:parM s=r at hc;obtain⟨c,⟨n,v⟩,z⟩:=r;simp only at hc;subst hc
 refine spH Tryz.func139 (by kernel_rfl) { keep:=some [0,2,3]} [xW,xU,yU,yT,rW,rV,Yl,Yk,zfh,zfg] (by kernel_rfl) ?_
 intro I X hI hX
 refine orcL ?_;go_invoke;refine orcS (by kernel_rfl) ?_
 simp only [zl,Nat.reduceAdd];subst hI;simp only [nrmA,nrmB,nrlB,reduceCtorEq,HO.pack.injEq,HO.obj.injEq];unfold parM at hr;have hl1:=wu s;have hl2:=wz s;simp only [show UInt8.ofNat (Int.toNat 61)=61 from rfl,show UInt8.ofNat (Int.toNat 34)=34 from rfl] at *
 (repeat' (first|refine ja ?_ ?_|intro _))<;>first|omega|exact jb|exact jc ‹False›|skip
 all_goals first
  |omega
  |(simp_all;done)
  |(simp_all;omega)
theorem zj7 (s:Str) (hneed:s.length≤1000000∧¬ (parM s).1=0):Spc Tryz.prog 139 [.v (.one (.ptr 0 0))] [.pack [.obj 149 [.p (.str s)]]] (.pan (.ifc 145 false [.int .i64 ((parM s).1)])) [.pack [.obj 149 [.p (.str ((parM s).2.2))]]]:=by
 obtain⟨hl,hc⟩:=hneed;generalize hr:parM s=r at hc;obtain⟨c,⟨n,v⟩,z⟩:=r;simp only at hc
 refine spH Tryz.func139 (by kernel_rfl) { keep:=some [0,2,3]} [xW,xU,yU,yT,rW,rV,Yl,Yk,zfh,zfg] (by kernel_rfl) ?_
 intro I X hI hX
 refine orcL ?_;go_invoke;refine orcS (by kernel_rfl) ?_
 simp only [zl,Nat.reduceAdd];subst hI;simp only [nrmA,nrmB,nrlB,reduceCtorEq,HO.pack.injEq,HO.obj.injEq];unfold parM at hr;have hl1:=wu s;have hl2:=wz s;simp only [show UInt8.ofNat (Int.toNat 61)=61 from rfl,show UInt8.ofNat (Int.toNat 34)=34 from rfl] at *
 (repeat' (first|refine ja ?_ ?_|intro _))<;>first|omega|exact jb|exact jc ‹False›|skip
 all_goals first
  |omega
  |(simp_all;done)
  |(simp_all;omega)
  |(by_cases hq:tokS (List.drop 1 (tokE s))=[]<;>simp_all;done)
def Tz (I:Alg):KU
 |[.v (.one (.ptr 0 0))],[.pack [.obj 149 [.p (.str s)]]]=>(fun(s:Str)=>(some (.br (I.hid (decide ((parM s).1=0))) (.one ⟨I.hid (s.length≤1000000∧(parM s).1=0),(.ret (.v (.agg [.p (.str (I.hid ((parM s).2.1.name))),.p (.str (I.hid ((parM s).2.1.value)))]))),[.pack [.obj 149 [.p (.str (I.hid ((parM s).2.2)))]]]⟩) (.one ⟨I.hid (s.length≤1000000∧¬ (parM s).1=0),(.pan (.ifc 145 false [.int .i64 (I.hid ((parM s).1))])),[.pack [.obj 149 [.p (.str (I.hid ((parM s).2.2)))]]]⟩)):Option CT)) s
 |_,_=>none
theorem zfj:zq Tryz.prog 139 (Tz alg):=by
 intro args hp r h;unfold Tz at h
 split at h
 · cases h;exact⟨fun _ hn=>zj8 _ hn,fun _ hn=>zj7 _ hn⟩
 · cases h
def Tv:Know Tryz.prog:=⟨139,Tz,zfj⟩
def Tt:Know Tryz.prog:=⟨139,fun I=>zu I (Tz I),zf zfj⟩
end Go.Proofs.YtcclfkakcgnacaaGreatDoor
namespace Go.Proofs.YtcclfkakcgnacaaGreatDoor
open Go Go.Sep Go.Ab
set_option maxRecDepth 100000
def XJ (I:Alg):KU
 |[.v (.agg [.p (.str a),.p (.str b)]),.v (.one (.ptr 0 0))],[.pack [.obj 9 [.p (.str n)]]]=>(fun(a b n:Str)=>(some (.one ⟨I.hid (True),(.ret (.v (.one (.p (.bool (I.hid (a == n))))))),[.pack [.obj 9 [.p (.str n)]]]⟩):Option CT)) a b n
 |_,_=>none
theorem zco:zq Tryz.prog 162 (XJ alg):=by
 intro args hp r h;unfold XJ at h;split at h<;>cases h
 rename_i a b n;simp only [CT.Good,zk];intro _
 refine spH Tryz.func162 (by kernel_rfl) { keep:=some [0,1,2,3]} [] (by kernel_rfl) ?_
 intro I X hI hX
 refine orcL ?_;go_invoke;refine orcS (by kernel_rfl) ?_
 simp only [zl,Nat.reduceAdd];subst hI;simp only [nrmA,nrmB,nrlB,reduceCtorEq,HO.pack.injEq,HO.obj.injEq]
 try trivial
def TI:Know Tryz.prog:=⟨162,XJ,zco⟩
def zhq:Know Tryz.prog:=⟨162,fun I=>zu I (XJ I),zf zco⟩
def zcn (I:Alg):KU
 |[.v (.one (.p (.list .fld l))),.v (.one (.fn 162 [.ptr 0 0]))],[.pack [.obj 9 [.p (.str n)]]]=>(fun(l:List Fld) (n:Str)=>(some (.one ⟨I.hid (l.length≤1000000),(.ret (.v (.one (.p (.int .i64 (I.hid (ixP l n))))))),[.pack [.obj 9 [.p (.str n)]]]⟩):Option CT)) l n
 |_,_=>none
set_option maxHeartbeats 1000000 in
theorem zie:zq Tryz.prog 161 (zcn alg):=by
 intro args hp r h;unfold zcn at h;split at h<;>cases h
 rename_i l n
 revert l;intro(l:List Fld)
 simp only [CT.Good,zk];intro hneed
 refine spH Tryz.func161 (by kernel_rfl) { keep:=some [0,1,4,5,7,8]} [TI] (by kernel_rfl) ?_
 intro I X hI hX
 refine orcL ?_;go_invoke;refine orcS (by kernel_rfl) ?_
 simp only [zl,Nat.reduceAdd]
 refine lpH hI [TI] hX [0,1,7,8] (fun(i:Nat)=>i≤l.length∧i≤l.findIdx (fun f=>f.name == n)) (fun(i:Nat)=>⟨[(0,.v (.one (.p (.list .fld l)))),(1,.v (.one (.fn 162 [.ptr 0 0]))),(7,.v (.one (.p (.int .i64 ((I.len (α:=Fld) l)))))),(8,.v (.one (.p (.int .i64 i))))],[.pack [.obj 9 [.p (.str n)]]],19,none⟩) (fun(i:Nat)=>l.length - i) 0 (by kernel_rfl) (by kernel_rfl) ?_ ?_
 · exact⟨jL _,jL _⟩
 rintro i ⟨h1,h2⟩ A hA
 refine orcL ?_;go_invoke;refine orcS (by kernel_rfl) ?_
 simp only [zl,Nat.reduceAdd];subst hI;simp only [nrmA,nrmB,nrlB,reduceCtorEq,HO.pack.injEq,HO.obj.injEq];have hfl:l.findIdx (fun f=>f.name == n)≤l.length:=List.findIdx_le_length
 have hyes:i<l.length→(l.getD i ⟨[],[]⟩).name=n→ixP l n=i:=fun h hid=>by
  have h0:l.findIdx (fun f=>f.name == n)≤i:=by
   refine Nat.le_of_not_lt fun hlt=> ?_;have:=List.not_of_lt_findIdx hlt;rw [jG,jm h] at hid;simp only [Option.getD_some] at hid;rw [hid] at this;simp at this
  unfold ixP
  rw [if_pos (by omega)];omega
 have hno:i<l.length→¬ (l.getD i ⟨[],[]⟩).name=n→i+1≤l.findIdx (fun f=>f.name == n):=fun h hid=>by
  refine Nat.lt_of_le_of_ne h2 fun e=>hid ?_
  have hlt:l.findIdx (fun f=>f.name == n)<l.length:=by omega
  have:=List.findIdx_getElem (xs:=l) (p:=fun f=>f.name == n) (w:=hlt)
  have h9:l.getD i ⟨[],[]⟩=l[l.findIdx (fun f=>f.name == n)]:=by simp [e,jG,hlt]
  rw [h9];simpa using this
 have hend: ¬ i<l.length→ixP l n= -1:=fun h=>by unfold ixP;rw [if_neg (by omega)]
 generalize l.getD i ⟨[],[]⟩=x at *
 (repeat' (first|refine ja ?_ ?_|intro _))<;>first|omega|exact jb|exact jc ‹False›|skip
 all_goals first
  |omega
  |(exact(hyes (by omega) ‹_›).symm)
  |(exact hA (i+1) ⟨by omega,hno (by omega) ‹_›⟩ (by omega))
  |(exact(hend (by omega)).symm)
def zkc:Know Tryz.prog:=⟨161,zcn,zie⟩
def zkb:Know Tryz.prog:=⟨161,fun I=>zu I (zcn I),zf zie⟩
theorem zko (l:List Fld) (n:Str): -1≤ixP l n∧ixP l n<l.length:=by unfold ixP;split<;>omega
def TG (I:Alg):KU
 |[.v (.agg [.p (.str w),.p (.list .fld l)]),.v (.one (.p (.str n)))],[]=>(fun(w:Str) (l:List Fld) (n:Str)=>(some (.one ⟨I.hid (l.length≤1000000),(.ret (.tup [.one (.p (.str (I.hid ((getP l n).1)))),.one (.p (.bool (I.hid ((getP l n).2))))])),[]⟩):Option CT)) w l n
 |_,_=>none
theorem zfl:zq Tryz.prog 140 (TG alg):=by
 intro args hp r h;unfold TG at h;split at h<;>cases h
 rename_i w l n
 revert l;intro(l:List Fld)
 simp only [CT.Good,zk];intro hneed;rw [zjo];have hx:=zko l n
 refine spH Tryz.func140 (by kernel_rfl) { keep:=some [0,1,2,3,4,5,6]} [TI,zhq,zkc,zkb] (by kernel_rfl) ?_
 intro I X hI hX
 refine orcL ?_;go_invoke;refine orcS (by kernel_rfl) ?_
 simp only [zl,Nat.reduceAdd];subst hI;simp only [nrmA,nrmB]
 (repeat' (first|refine ja ?_ ?_|intro _))<;>first|omega|exact jb|exact jc ‹False›|skip
 all_goals first
  |omega
  |(rw [if_pos (by omega)])
  |(rw [if_neg (by omega)])
def TF:Know Tryz.prog:=⟨140,TG,zfl⟩
def TD:Know Tryz.prog:=⟨140,fun I=>zu I (TG I),zf zfl⟩
def cfgM:Cfg:= { sl:=[⟨115,1,.fld,some 135⟩]}
set_option maxHeartbeats 4000000 in
theorem zka (s:Str) (hneed:s.length≤1000000∧(y8 s).1=0):Spc Tryz.prog 113 [.v (.one (.ptr 0 0))] [.pack [.obj 149 [.p (.str s)]]] (.ret (.v (.agg [.p (.str ((y8 s).2.1.word)),.p (.list .fld ((y8 s).2.1.params))]))) [.pack [.obj 149 [.p (.str ((y8 s).2.2))]]]:=by
 obtain⟨hl,hc⟩:=hneed;generalize hr:y8 s=r at hc;obtain⟨c,⟨w,ps⟩,z⟩:=r;simp only at hc;subst hc
 refine spH Tryz.func113 (by kernel_rfl) { cfgM with lend:=[140],keep:=some [0,2,3,4,6]} [xW,xU,yU,yT,rY,rX,rW,rV,Yl,Yk,Tv,Tt,TF,TD] (by kernel_rfl) ?_
 intro I X hI hX
 refine orcL ?_;go_invoke;refine orcS (by kernel_rfl) ?_
 simp only [zl,Nat.reduceAdd]
 have hh: ∀ {α:Type} (x:α),I.hid x=x:=by subst hI;intros;rfl
 have key : ∀ (w0 t0:Str),t0.length≤1000000→((medL (t0.length+1) t0 []).1,(⟨w0,(medL (t0.length+1) t0 []).2.1⟩:Med),(medL (t0.length+1) t0 []).2.2)=(0,⟨w,ps⟩,z)→Ok Tryz.prog X (fun o h=>o=AOut.ret (D.v (V0.agg [C.p (P.str w),C.p (P.list U.fld ps)]))∧h=[HO.pack [HO.obj 149 [C.p (P.str z)]]]) (leaf I tab { cfgM with lend:=[140],keep:=some [0,2,3,4,6]} [⟨xX Tryz.f113,finK I tab { cfgM with lend:=[140],keep:=some [0,2,3,4,6]} 1 Tryz.f113⟩] 0 [1,1,1,1,0,1,0] ⟨[(3,.v (.one (.ptr 2 0))),(2,.v (.one (.ptr 1 0))),(0,.v (.one (.ptr 0 0)))],[.pack [.obj 149 [.p (.str t0)]],.obj 115 [.p (.str ([])),.nilS],.obj 115 [.p (.str w0),.nilS]],60,none⟩):=by
  intro w0 t0 ht0 hm;simp only [Prod.mk.injEq,Med.mk.injEq] at hm;obtain⟨hm1,⟨rfl,hm2⟩,hm3⟩:=hm
  refine lpH hI [xW,xU,yU,yT,rY,rX,rW,rV,Yl,Yk,Tv,Tt,TF,TD] hX [0,2,3] (fun(g:Str × List Fld)=>match g with|(t,l)=>t.length≤1000000∧l.length≤8∧∃ n,t.length<n∧medL n t l=(0,ps,z)) (fun(g:Str × List Fld)=>match g with|(t,l)=>⟨[(0,.v (.one (.ptr 0 0))),(2,.v (.one (.ptr 1 0))),(3,.v (.one (.ptr 2 0)))],[.pack [.obj 149 [.p (.str t)]],.pack [.obj 115 [.p (.str ([])),.row 1],.row .fld 135 ([])],.pack [.obj 115 [.p (.str w0),.row 1],.row .fld 135 l]],60,none⟩) (fun(g:Str × List Fld)=>match g with|(t,l)=>t.length) (t0,[]) (by kernel_rfl) (by kernel_rfl) ?_ ?_
  · exact⟨ht0,by simp,t0.length+1,by omega,by rw [← hm1,← hm2,← hm3]⟩
  rintro⟨t,l⟩ ⟨ht,hl8,n,hn,hm⟩ A hA;clear hm1 hm2 hm3 hr;simp only at hA
  refine orcL ?_;go_invoke;refine orcS (by kernel_rfl) ?_
  simp only [zl,Nat.reduceAdd]
  cases n with
  |zero=>omega
  |succ n=>
  simp only [medL] at hm;have hgo:=hA (skS (parM (skS (t.drop 1))).2.2,l++[(parM (skS (t.drop 1))).2.1]);have hpl:=zcl (skS (t.drop 1));have hpc:=Qb (skS (t.drop 1));have hsl:=wJ (t.drop 1);have hsr:=wJ (parM (skS (t.drop 1))).2.2;rw [jB] at hsl;clear hA;simp only [hh,show UInt8.ofNat (Int.toNat 59)=59 from rfl];subst hI
  by_cases h59:wo t 59=true
  · have hpos:=Uw h59
    simp only [h59,if_true] at hm ⊢
    have hgo2:(parM (skS (t.drop 1))).1=0→(getP l (parM (skS (t.drop 1))).2.1.name).2=false→¬ l.length=8→_:=fun h1 h2 h3=>hgo ⟨by simp only;omega,by simp only [jk,jh,ji];omega,n,by simp only;omega,by
     rw [if_neg (fun h=>h h1),if_neg (by rw [h2];exact Bool.false_ne_true),if_neg h3] at hm;exact hm⟩ (by simp only;omega)
    clear hgo;simp only at hgo2;generalize parM (skS (t.drop 1))=p at *;obtain⟨pc,⟨pn,pv⟩,pr⟩:=p;simp only at hgo2 hm hpl hpc hsl hsr ⊢;simp only [nrmA,nrmB,nrlB,reduceCtorEq,jh,ji]
    (repeat' (first|refine ja ?_ ?_|intro _))<;>first|omega|exact jb|exact jc ‹False›|skip
    all_goals first
     |omega
     |assumption
     | (by_cases hpz:pc=0
        · exact hpz
        · rw [if_pos hpz] at hm;simp only [Prod.mk.injEq] at hm;exact hm.1)
     |exact hgo2 ‹_› ‹_› (by omega)
     |(exfalso;rw [if_neg (fun h=>h ‹pc=0›),if_neg (by rw [‹(getP l pn).2=false›];exact Bool.false_ne_true),if_pos (by omega)] at hm;simp_all;done)
     |(rw [if_neg (fun h=>h ‹pc=0›),if_neg (by rw [‹(getP l pn).2=false›];exact Bool.false_ne_true),if_pos (by omega)] at hm;simp_all;done)
     |(exfalso;simp_all;done)
     |(simp_all;done)
  · have h59:wo t 59=false:=by simpa using h59
    simp only [h59,jd,if_false] at hm ⊢;simp only [nrmA,nrmB,nrlB,reduceCtorEq,jh,ji]
    (repeat' (first|refine ja ?_ ?_|intro _))<;>first|omega|exact jb|exact jc ‹False›|skip
    all_goals first
     |omega
     |(exfalso;simp_all;done)
     |(simp_all;done)
     |(by_cases hte:t=[]<;>simp_all;done)
 have hl1:=wJ s;have hl2:=wz (skS s);have hl3:=wu (skS s);simp only [hh,show UInt8.ofNat (Int.toNat 47)=47 from rfl,decide_eq_true_eq,decide_eq_false_iff_not];unfold y8 medA at hr;generalize skS s=t at *;have hl4:=wu ((tokE t).drop 1);have hl5:=wz ((tokE t).drop 1);rw [jB] at hl4 hl5
 (repeat' (first|refine ja ?_ ?_|intro _))
 all_goals try first|trivial|assumption|omega|(exfalso;simp_all;done)|(subst hI;(try(simp only [nrmA,nrmB,nrlB,reduceCtorEq,jh,ji,y9]))<;>first|omega|(simp_all [y9];done)|(simp_all [y9];omega))
 all_goals(have happ: ∀ a b:Str,I.app (α:=UInt8) a b=a++b:=by subst hI;intros;rfl)
 all_goals try simp only [happ]
 all_goals first
  | (rename_i q1 q2 q3
     rw [if_neg q1,if_pos q2] at hr;simp only [q2,if_true] at q3 ⊢;rw [if_neg q3] at hr;have hsk:=wJ (tokE ((tokE t).drop 1))
     exact key _ _ (by omega) hr)
  | (rename_i q1 q2
     rw [if_neg q1,if_neg (by simp [q2])] at hr
     simp only [q2,jd,if_false] at ⊢
     have hsk:=wJ (tokE t)
     exact key _ _ (by omega) hr)
set_option maxHeartbeats 4000000 in
theorem zj9 (s:Str) (hneed:s.length≤1000000∧¬ (y8 s).1=0):Spc Tryz.prog 113 [.v (.one (.ptr 0 0))] [.pack [.obj 149 [.p (.str s)]]] (.pan (.ifc 145 false [.int .i64 ((y8 s).1)])) [.pack [.obj 149 [.p (.str ((y8 s).2.2))]]]:=by
 obtain⟨hl,hc⟩:=hneed;generalize hr:y8 s=r at hc;obtain⟨c,⟨w,ps⟩,z⟩:=r;simp only at hc
 refine spH Tryz.func113 (by kernel_rfl) { cfgM with lend:=[140],keep:=some [0,2,3,4,6]} [xW,xU,yU,yT,rY,rX,rW,rV,Yl,Yk,Tv,Tt,TF,TD] (by kernel_rfl) ?_
 intro I X hI hX
 refine orcL ?_;go_invoke;refine orcS (by kernel_rfl) ?_
 simp only [zl,Nat.reduceAdd]
 have hh: ∀ {α:Type} (x:α),I.hid x=x:=by subst hI;intros;rfl
 have key : ∀ (w0 t0:Str),t0.length≤1000000→((medL (t0.length+1) t0 []).1,(⟨w0,(medL (t0.length+1) t0 []).2.1⟩:Med),(medL (t0.length+1) t0 []).2.2)=(c,⟨w,ps⟩,z)→Ok Tryz.prog X (fun o h=>o=AOut.pan (C.ifc 145 false [P.int IntKind.i64 c])∧h=[HO.pack [HO.obj 149 [C.p (P.str z)]]]) (leaf I tab { cfgM with lend:=[140],keep:=some [0,2,3,4,6]} [⟨xX Tryz.f113,finK I tab { cfgM with lend:=[140],keep:=some [0,2,3,4,6]} 1 Tryz.f113⟩] 0 [1,1,1,1,0,1,0] ⟨[(3,.v (.one (.ptr 2 0))),(2,.v (.one (.ptr 1 0))),(0,.v (.one (.ptr 0 0)))],[.pack [.obj 149 [.p (.str t0)]],.obj 115 [.p (.str ([])),.nilS],.obj 115 [.p (.str w0),.nilS]],60,none⟩):=by
  intro w0 t0 ht0 hm;simp only [Prod.mk.injEq,Med.mk.injEq] at hm;obtain⟨hm1,⟨rfl,hm2⟩,hm3⟩:=hm
  refine lpH hI [xW,xU,yU,yT,rY,rX,rW,rV,Yl,Yk,Tv,Tt,TF,TD] hX [0,2,3] (fun(g:Str × List Fld)=>match g with|(t,l)=>t.length≤1000000∧l.length≤8∧∃ n,t.length<n∧medL n t l=(c,ps,z)) (fun(g:Str × List Fld)=>match g with|(t,l)=>⟨[(0,.v (.one (.ptr 0 0))),(2,.v (.one (.ptr 1 0))),(3,.v (.one (.ptr 2 0)))],[.pack [.obj 149 [.p (.str t)]],.pack [.obj 115 [.p (.str ([])),.row 1],.row .fld 135 ([])],.pack [.obj 115 [.p (.str w0),.row 1],.row .fld 135 l]],60,none⟩) (fun(g:Str × List Fld)=>match g with|(t,l)=>t.length) (t0,[]) (by kernel_rfl) (by kernel_rfl) ?_ ?_
  · exact⟨ht0,by simp,t0.length+1,by omega,by rw [← hm1,← hm2,← hm3]⟩
  rintro⟨t,l⟩ ⟨ht,hl8,n,hn,hm⟩ A hA;clear hm1 hm2 hm3 hr;simp only at hA
  refine orcL ?_;go_invoke;refine orcS (by kernel_rfl) ?_
  simp only [zl,Nat.reduceAdd]
  cases n with
  |zero=>omega
  |succ n=>
  simp only [medL] at hm;have hgo:=hA (skS (parM (skS (t.drop 1))).2.2,l++[(parM (skS (t.drop 1))).2.1]);have hpl:=zcl (skS (t.drop 1));have hpc:=Qb (skS (t.drop 1));have hsl:=wJ (t.drop 1);have hsr:=wJ (parM (skS (t.drop 1))).2.2;rw [jB] at hsl;clear hA;simp only [hh,show UInt8.ofNat (Int.toNat 59)=59 from rfl];subst hI
  by_cases h59:wo t 59=true
  · have hpos:=Uw h59
    simp only [h59,if_true] at hm ⊢
    have hgo2:(parM (skS (t.drop 1))).1=0→(getP l (parM (skS (t.drop 1))).2.1.name).2=false→¬ l.length=8→_:=fun h1 h2 h3=>hgo ⟨by simp only;omega,by simp only [jk,jh,ji];omega,n,by simp only;omega,by
     rw [if_neg (fun h=>h h1),if_neg (by rw [h2];exact Bool.false_ne_true),if_neg h3] at hm;exact hm⟩ (by simp only;omega)
    clear hgo;simp only at hgo2;generalize parM (skS (t.drop 1))=p at *;obtain⟨pc,⟨pn,pv⟩,pr⟩:=p;simp only at hgo2 hm hpl hpc hsl hsr ⊢;simp only [nrmA,nrmB,nrlB,reduceCtorEq,jh,ji]
    (repeat' (first|refine ja ?_ ?_|intro _))<;>first|omega|exact jb|exact jc ‹False›|skip
    all_goals first
     |omega
     |assumption
     | (by_cases hpz:pc=0
        · exact hpz
        · rw [if_pos hpz] at hm;simp only [Prod.mk.injEq] at hm;exact hm.1)
     |exact hgo2 ‹_› ‹_› (by omega)
     |(exfalso;rw [if_neg (fun h=>h ‹pc=0›),if_neg (by rw [‹(getP l pn).2=false›];exact Bool.false_ne_true),if_pos (by omega)] at hm;simp_all;done)
     |(rw [if_neg (fun h=>h ‹pc=0›),if_neg (by rw [‹(getP l pn).2=false›];exact Bool.false_ne_true),if_pos (by omega)] at hm;simp_all;done)
     |(exfalso;simp_all;done)
     |(simp_all;done)
  · have h59:wo t 59=false:=by simpa using h59
    simp only [h59,jd,if_false] at hm ⊢;simp only [nrmA,nrmB,nrlB,reduceCtorEq,jh,ji]
    (repeat' (first|refine ja ?_ ?_|intro _))<;>first|omega|exact jb|exact jc ‹False›|skip
    all_goals first
     |omega
     |(exfalso;simp_all;done)
     |(simp_all;done)
     |(by_cases hte:t=[]<;>simp_all;done)
 have hl1:=wJ s;have hl2:=wz (skS s);have hl3:=wu (skS s);simp only [hh,show UInt8.ofNat (Int.toNat 47)=47 from rfl,decide_eq_true_eq,decide_eq_false_iff_not];unfold y8 medA at hr;generalize skS s=t at *;have hl4:=wu ((tokE t).drop 1);have hl5:=wz ((tokE t).drop 1);rw [jB] at hl4 hl5
 (repeat' (first|refine ja ?_ ?_|intro _))
 all_goals try first|trivial|assumption|omega|(exfalso;simp_all;done)|(subst hI;(try(simp only [nrmA,nrmB,nrlB,reduceCtorEq,jh,ji,y9]))<;>first|omega|(simp_all [y9];done)|(simp_all [y9];omega))
 all_goals(have happ: ∀ a b:Str,I.app (α:=UInt8) a b=a++b:=by subst hI;intros;rfl)
 all_goals try simp only [happ]
 all_goals first
  | (rename_i q1 q2 q3
     rw [if_neg q1,if_pos q2] at hr;simp only [q2,if_true] at q3 ⊢;rw [if_neg q3] at hr;have hsk:=wJ (tokE ((tokE t).drop 1))
     exact key _ _ (by omega) hr)
  | (rename_i q1 q2
     rw [if_neg q1,if_neg (by simp [q2])] at hr
     simp only [q2,jd,if_false] at ⊢
     have hsk:=wJ (tokE t)
     exact key _ _ (by omega) hr)
def TB (I:Alg):KU
 |[.v (.one (.ptr 0 0))],[.pack [.obj 149 [.p (.str s)]]]=>(fun(s:Str)=>(some (.br (I.hid (decide ((y8 s).1=0))) (.one ⟨I.hid (s.length≤1000000∧(y8 s).1=0),(.ret (.v (.agg [.p (.str (I.hid ((y8 s).2.1.word))),.p (.list .fld (I.hid ((y8 s).2.1.params)))]))),[.pack [.obj 149 [.p (.str (I.hid ((y8 s).2.2)))]]]⟩) (.one ⟨I.hid (s.length≤1000000∧¬ (y8 s).1=0),(.pan (.ifc 145 false [.int .i64 (I.hid ((y8 s).1))])),[.pack [.obj 149 [.p (.str (I.hid ((y8 s).2.2)))]]]⟩)):Option CT)) s
 |_,_=>none
theorem zfk:zq Tryz.prog 113 (TB alg):=by
 intro args hp r h;unfold TB at h
 split at h
 · cases h;exact⟨fun _ hn=>zka _ hn,fun _ hn=>zj9 _ hn⟩
 · cases h
def zi0:Know Tryz.prog:=⟨113,TB,zfk⟩
def ziZ:Know Tryz.prog:=⟨113,fun I=>zu I (TB I),zf zfk⟩
end Go.Proofs.YtcclfkakcgnacaaGreatDoor
namespace Go.Proofs.YtcclfkakcgnacaaGreatDoor
open Go Go.Sep Go.Ab
set_option maxRecDepth 100000
theorem zke (w:Str) (l:List Fld) (n:Int) (s:Str):SpcD Tryz.prog 112 [.ptr 0 0,.ptr 1 0] .ret [.obj 115 [.p (.str w),.p (.list .fld l)],.obj 3 [.p (.int .i64 n)],.pack [.obj 149 [.p (.str s)]]] .ret [.obj 115 [.p (.str w),.p (.list .fld l)],.obj 3 [.p (.int .i64 n)],.obj 149 [.p (.str s)]]:=by
 refine Ya wI mixed Tryz.func112 (by kernel_rfl) { flat:=true} [] (rest:=_) rfl (by kernel_rfl) ?_
 intro I X hI hX
 refine orcL ?_;go_invoke;refine orcS (by kernel_rfl) ?_
 simp only [zl,Nat.reduceAdd]
 try trivial
theorem zkd (w:Str) (n k:Int) (s:Str):SpcD Tryz.prog 112 [.ptr 0 0,.ptr 1 0] (.pan (.ifc 145 false [.int .i64 k])) [.obj 115 [.p (.str w),.nilS],.obj 3 [.p (.int .i64 n)],.pack [.obj 149 [.p (.str s)]]] .ret [.obj 115 [.p (.str []),.nilS],.obj 3 [.p (.int .i64 k)],.obj 149 [.p (.str s)]]:=by
 refine Ya wI mixed Tryz.func112 (by kernel_rfl) { flat:=true} [] (rest:=_) rfl (by kernel_rfl) ?_
 intro I X hI hX
 refine orcL ?_;go_invoke;refine orcS (by kernel_rfl) ?_
 simp only [zl,Nat.reduceAdd]
 try trivial
def zk2:Door Tryz.prog where
 g:=112
 c :=fun _ m caps hp=>match m,caps,hp with
   |.ret,[.ptr 0 0,.ptr 1 0],[.obj 115 [.p (.str w),.p (.list .fld l)],.obj 3 [.p (.int .i64 n)],.pack [.obj 149 [.p (.str s)]]]=>some (True,.ret,[.obj 115 [.p (.str w),.p (.list .fld l)],.obj 3 [.p (.int .i64 n)],.obj 149 [.p (.str s)]])
   |.pan (.ifc 145 false [.int .i64 k]),[.ptr 0 0,.ptr 1 0],[.obj 115 [.p (.str w),.nilS],.obj 3 [.p (.int .i64 n)],.pack [.obj 149 [.p (.str s)]]]=>some (True,.ret,[.obj 115 [.p (.str []),.nilS],.obj 3 [.p (.int .i64 k)],.obj 149 [.p (.str s)]])
   |_,_,_=>none
 ok:=by
  intro m caps hp p m' hp' h _
  split at h
  · cases h;exact zke _ _ _ _
  · cases h;exact zkd _ _ _ _
  · cases h
def ZF (I:Alg):KU
 |[.v (.one (.p (.str s)))],[]=>(fun(s:Str)=>(some (.one ⟨I.hid (s.length≤1000000),(.ret (.tup [.agg [.p (.str (I.hid ((YH s).1.word))),.p (.list .fld (I.hid ((YH s).1.params)))],.one (.p (.int .i64 (I.hid ((YH s).2))))])),[]⟩):Option CT)) s
 |_,_=>none
theorem Qd:zq Tryz.prog 85 (ZF alg):=by
 intro args hp r h;unfold ZF at h;split at h<;>cases h
 rename_i s;simp only [CT.Good,zk];intro hneed;generalize hr:YH s=r;obtain⟨⟨w,ps⟩,c⟩:=r;unfold YH at hr
 refine zjW wI mixed Tryz.func85 (by kernel_rfl) { cfgM with keep:=some [0,2,3,4]} [YN,YM,zi0,ziZ] zk2 (by kernel_rfl) ?_
 intro I X hI hX
 refine orcL ?_;go_invoke;refine orcS (by kernel_rfl) ?_
 simp only [zl,Nat.reduceAdd];subst hI;simp only [nrmA,nrmB,nrlB,reduceCtorEq,V0.agg.injEq]
 (repeat' (first|refine ja ?_ ?_|intro _))<;>first|omega|exact jb|exact jc ‹False›|skip
 all_goals first|(simp_all;done)|trace_state
def xP:Know Tryz.prog:=⟨85,ZF,Qd⟩
def xO:Know Tryz.prog:=⟨85,fun I=>zu I (ZF I),zf Qd⟩
end Go.Proofs.YtcclfkakcgnacaaGreatDoor
namespace Go.Proofs.YtcclfkakcgnacaaGreatDoor
open Go Go.Sep Go.Ab
set_option maxRecDepth 100000
end Go.Proofs.YtcclfkakcgnacaaGreatDoor
namespace Go.Proofs.YtcclfkakcgnacaaGreatDoor
open Go Go.Sep Go.Ab
set_option maxRecDepth 100000
end Go.Proofs.YtcclfkakcgnacaaGreatDoor
namespace Go.Proofs.YtcclfkakcgnacaaGreatDoor
open Go Go.Sep Go.Ab
set_option maxRecDepth 100000
def sV (l:List Fld):Bool:=decide (100<l.length)||l.any fun f=>decide (1000<f.name.length+f.value.length)
def XV (I:Alg):KU
 |[.v (.one (.p (.list .fld l)))],[]=>(fun(l:List Fld)=>(some (.one ⟨I.hid (∀ f ∈ l,f.name.length≤140737488355328∧f.value.length≤140737488355328),(.ret (.v (.one (.p (.bool (I.hid (sV l))))))),[]⟩):Option CT)) l
 |_,_=>none
theorem zcY:zq Tryz.prog 24 (XV alg):=by
 intro args hp r h;unfold XV at h;split at h<;>cases h
 rename_i l
 revert l;intro(l:List Fld)
 simp only [CT.Good,zk];intro hneed;generalize hr:sV l=r
 refine spH Tryz.func24 (by kernel_rfl) { keep:=some [0,2,3]} [] (by kernel_rfl) ?_
 intro I X hI hX
 refine orcL ?_;go_invoke;refine orcS (by kernel_rfl) ?_
 simp only [zl,Nat.reduceAdd];refine⟨fun c1=> ?_,fun c1=> ?_⟩
 · subst hI
   simp only [nrmA,nrmB] at c1;simp only [nrmA,nrmB]
   rw [← hr,sV,decide_eq_true (by omega),Bool.true_or]
 have hl:l.length≤100:=by
  subst hI;simp only [nrmA,nrmB] at c1;omega
 have hr2:(l.any fun f=>decide (1000<f.name.length+f.value.length))=r:=by rw [← hr,sV,decide_eq_false (by omega),Bool.false_or]
 refine lpH hI [] hX [0,3] (fun(i:Nat)=>i≤l.length∧((l.drop i).any fun f=>decide (1000<f.name.length+f.value.length))=r) (fun(i:Nat)=>⟨[(0,.v (.one (.p (.list .fld l)))),(3,.v (.one (.p (.int .i64 i))))],[],27,none⟩) (fun(i:Nat)=>l.length - i) 0 (by kernel_rfl) (by kernel_rfl) ?_ ?_
 · exact⟨jL _,hr2⟩
 rintro i ⟨h1,h2⟩ A hA
 refine orcL ?_;go_invoke;refine orcS (by kernel_rfl) ?_
 simp only [zl,Nat.reduceAdd];subst hI;simp only [nrmA,nrmB]
 have hd:i<l.length→((l.drop i).any fun f=>decide (1000<f.name.length+f.value.length))=(decide (1000<(l.getD i ⟨[],[]⟩).name.length+(l.getD i ⟨[],[]⟩).value.length)||((l.drop (i+1)).any fun f=>decide (1000<f.name.length+f.value.length))):=fun h=>by
  rw [jD h,List.any_cons];simp [h]
 have hxl:i<l.length→(l.getD i ⟨[],[]⟩).name.length≤140737488355328∧(l.getD i ⟨[],[]⟩).value.length≤140737488355328:=fun h=>hneed _ (by
  rw [show l.getD i ⟨[],[]⟩=l[i] by simp [h]]
  exact List.getElem_mem h)
 generalize l.getD i ⟨[],[]⟩=x at *
 (repeat' (first|refine ja ?_ ?_|intro _))<;>first|omega|exact jb|exact jc ‹False›|skip
 all_goals first
  |(have:=hxl (by omega);omega)
  |(rw [← h2,hd (by omega),decide_eq_true (by omega),Bool.true_or])
  |(refine hA (i+1) ⟨by omega,?_⟩ (by omega);rw [← h2,hd (by omega),decide_eq_false (by omega),Bool.false_or])
  |(rw [← h2,jE (by omega)];rfl)
def zcX:Know Tryz.prog:=⟨24,XV,zcY⟩
def zcW:Know Tryz.prog:=⟨24,fun I=>zu I (XV I),zf zcY⟩
end Go.Proofs.YtcclfkakcgnacaaGreatDoor
namespace Go.Proofs.YtcclfkakcgnacaaGreatDoor
open Go Go.Sep Go.Ab
set_option maxRecDepth 100000
end Go.Proofs.YtcclfkakcgnacaaGreatDoor
namespace Go.Proofs.YtcclfkakcgnacaaGreatDoor
open Go Go.Sep Go.Ab
set_option maxRecDepth 100000
def valsF (l:List Fld) (n:Str):List Str:=(l.filter fun f=>decide (lowS f.name=lowS n)).map (·.value)
def SB (I:Alg):KU
 |[.v (.one (.p (.list .fld l))),.v (.one (.p (.str n)))],[]=>(fun(l:List Fld) (n:Str)=>(some (.one ⟨I.hid (l.length≤1000∧n.length≤1000000∧∀ f ∈ l,f.name.length≤1000000∧f.value.length≤1000000),(.ret (.v (.one (.row 0)))),[.row .str 9 (I.hid (valsF l n))]⟩):Option CT)) l n
 |_,_=>none
theorem zf9:zq Tryz.prog 109 (SB alg):=by
 intro args hp r h;unfold SB at h;split at h<;>cases h
 rename_i l n
 revert l;intro(l:List Fld)
 simp only [CT.Good,zk];intro hneed
 refine spH Tryz.func109 (by kernel_rfl) { nr:=[5],keep:=some [0,1,4,5,7,8,9,10]} [xW,xU] (by kernel_rfl) ?_
 intro I X hI hX
 refine orcL ?_;go_invoke;refine orcS (by kernel_rfl) ?_
 simp only [zl,Nat.reduceAdd]
 refine lpH hI [xW,xU] hX [0,1,5,8,9,10] (fun(g:Nat × List Str)=>match g with|(i,o)=>i≤l.length∧o=valsF (l.take i) n) (fun(g:Nat × List Str)=>match g with|(i,o)=>⟨[(0,.v (.one (.p (.list .fld l)))),(1,.v (.one (.p (.str n)))),(5,.v (.one (.row 0))),(8,.v (.one (.p (.list .fld l)))),(9,.v (.one (.p (.int .i64 ((I.len (α:=Fld) l)))))),(10,.v (.one (.p (.int .i64 i))))],[.row .str 9 o],27,none⟩) (fun(g:Nat × List Str)=>match g with|(i,o)=>l.length - i) (0,[]) (by kernel_rfl) (by kernel_rfl) ?_ ?_
 · exact⟨jL _,rfl⟩
 rintro⟨i,o⟩ ⟨h1,h2⟩ A hA;simp only at hA
 refine orcL ?_;go_invoke;refine orcS (by kernel_rfl) ?_
 simp only [zl,Nat.reduceAdd];subst hI;simp only [nrmA,nrmB]
 have hx:i<l.length→(l.getD i ⟨[],[]⟩) ∈ l:=fun h=>by rw [show l.getD i ⟨[],[]⟩=l[i] by simp [h]];exact List.getElem_mem h
 have hs:i<l.length→valsF (l.take (i+1)) n=if lowS (l.getD i ⟨[],[]⟩).name=lowS n then o++[(l.getD i ⟨[],[]⟩).value] else o:=fun h=>by
  rw [show l.getD i ⟨[],[]⟩=l[i] by simp [h],jA h,h2]
  unfold valsF;rw [List.filter_append,List.map_append]
  by_cases hc:lowS l[i].name=lowS n<;>simp [hc]
 have hol:o.length≤i:=by
  rw [h2];unfold valsF;rw [List.length_map]
  exact Nat.le_trans (List.length_filter_le _ _) (by rw [jr];omega)
 have hn:=fun h=>hneed.2.2 _ (hx h);generalize l.getD i ⟨[],[]⟩=x at *;simp only [jh,ji]
 (repeat' (first|refine ja ?_ ?_|intro _))<;>first|omega|exact jb|exact jc ‹False›|skip
 all_goals first
  |(have:=hn (by omega);omega)
  |exact hA (i+1,_) ⟨by simp only;omega,by simp only;rw [hs (by omega),if_pos (by assumption)]⟩ (by simp only;omega)
  |exact hA (i+1,_) ⟨by simp only;omega,by simp only;rw [hs (by omega),if_neg (by assumption)]⟩ (by simp only;omega)
  |(rw [h2,jq (by omega)])
def zjw:Know Tryz.prog:=⟨109,SB,zf9⟩
def zjv:Know Tryz.prog:=⟨109,fun I=>zu I (SB I),zf zf9⟩
def ul (I:Alg):KU
 |[.v (.one (.p (.list .fld l))),.v (.one (.p (.str n)))],[]=>(fun(l:List Fld) (n:Str)=>(some (.one ⟨I.hid (l.length≤1000∧n.length≤1000000∧∀ f ∈ l,f.name.length≤1000000∧f.value.length≤1000000),(.ret (.v (.one (.row 0)))),[.row .str 9 (I.hid (valsF l n))]⟩):Option CT)) l n
 |_,_=>none
theorem Wh:zq Tryz.prog 45 (ul alg):=by
 intro args hp r h;unfold ul at h;split at h<;>cases h
 rename_i l n
 revert l;intro(l:List Fld)
 simp only [CT.Good,zk];intro hneed
 refine spH Tryz.func45 (by kernel_rfl) { nr:=[5],keep:=some [0,1,4,5,6]} [Xu,Xt] (by kernel_rfl) ?_
 intro I X hI hX
 refine orcL ?_;go_invoke;refine orcS (by kernel_rfl) ?_
 simp only [zl,Nat.reduceAdd]
 refine lpH hI [Xu,Xt] hX [0,1,5,6] (fun(g:Nat × List Str)=>match g with|(i,o)=>i≤l.length∧o=valsF (l.take i) n) (fun(g:Nat × List Str)=>match g with|(i,o)=>⟨[(0,.v (.one (.p (.list .fld l)))),(1,.v (.one (.p (.str n)))),(5,.v (.one (.row 0))),(6,.v (.one (.p (.int .i64 i))))],[.row .str 9 o],31,none⟩) (fun(g:Nat × List Str)=>match g with|(i,o)=>l.length - i) (0,[]) (by kernel_rfl) (by kernel_rfl) ?_ ?_
 · exact⟨jL _,rfl⟩
 rintro⟨i,o⟩ ⟨h1,h2⟩ A hA;simp only at hA
 refine orcL ?_;go_invoke;refine orcS (by kernel_rfl) ?_
 simp only [zl,Nat.reduceAdd];subst hI;simp only [nrmA,nrmB]
 have hx:i<l.length→(l.getD i ⟨[],[]⟩) ∈ l:=fun h=>by rw [show l.getD i ⟨[],[]⟩=l[i] by simp [h]];exact List.getElem_mem h
 have hs:i<l.length→valsF (l.take (i+1)) n=if lowS (l.getD i ⟨[],[]⟩).name=lowS n then o++[(l.getD i ⟨[],[]⟩).value] else o:=fun h=>by
  rw [show l.getD i ⟨[],[]⟩=l[i] by simp [h],jA h,h2]
  unfold valsF;rw [List.filter_append,List.map_append]
  by_cases hc:lowS l[i].name=lowS n<;>simp [hc]
 have hol:o.length≤i:=by
  rw [h2];unfold valsF;rw [List.length_map]
  exact Nat.le_trans (List.length_filter_le _ _) (by rw [jr];omega)
 have hn:=fun h=>hneed.2.2 _ (hx h);generalize l.getD i ⟨[],[]⟩=x at *;simp only [jh,ji]
 (repeat' (first|refine ja ?_ ?_|intro _))<;>first|omega|exact jb|exact jc ‹False›|skip
 all_goals first
  |(have:=hn (by omega);omega)
  |exact hA (i+1,_) ⟨by simp only;omega,by simp only;rw [hs (by omega),if_pos (by assumption)]⟩ (by simp only;omega)
  |exact hA (i+1,_) ⟨by simp only;omega,by simp only;rw [hs (by omega),if_neg (by assumption)]⟩ (by simp only;omega)
  |(rw [h2,jq (by omega)])
def zaz:Know Tryz.prog:=⟨45,ul,Wh⟩
def zay:Know Tryz.prog:=⟨45,fun I=>zu I (ul I),zf Wh⟩
end Go.Proofs.YtcclfkakcgnacaaGreatDoor
namespace Go.Proofs.YtcclfkakcgnacaaGreatDoor
open Go Go.Sep Go.Ab
set_option maxRecDepth 100000
def oneF (l:List Str):Str × Int:=if l.length=0 then([],10) else if l.length=1 then(l.getD 0 [],0) else([],9)
def SA (I:Alg):KU
 |[.v (.one (.p (.list .fld l))),.v (.one (.p (.str n)))],[]=>(fun(l:List Fld) (n:Str)=>(some (.one ⟨I.hid (l.length≤1000∧n.length≤1000000∧∀ f ∈ l,f.name.length≤1000000∧f.value.length≤1000000),(.ret (.tup [.one (.p (.str (I.hid ((oneF (valsF l n)).1)))),.one (.p (.int .i64 (I.hid ((oneF (valsF l n)).2))))])),[]⟩):Option CT)) l n
 |_,_=>none
theorem zf8:zq Tryz.prog 78 (SA alg):=by
 intro args hp r h;unfold SA at h;split at h<;>cases h
 rename_i l n
 revert l;intro(l:List Fld)
 simp only [CT.Good,zk];intro hneed;generalize hr:oneF (valsF l n)=r;obtain⟨a,d⟩:=r
 refine spH Tryz.func78 (by kernel_rfl) { keep:=some [0,1,4,5,6,11]} [zjw,zjv] (by kernel_rfl) ?_
 intro I X hI hX
 refine orcL ?_;go_invoke;refine orcS (by kernel_rfl) ?_
 simp only [zl,Nat.reduceAdd];subst hI;simp only [nrmA,nrmB];unfold oneF at hr
 (repeat' (first|refine ja ?_ ?_|intro _))<;>first|omega|exact jb|exact jc ‹False›|skip
 all_goals first
  |assumption
  |exact(hneed.2.2 _ (by assumption)).1
  |exact(hneed.2.2 _ (by assumption)).2
  |(rw [if_pos (by omega)] at hr;cases hr;rfl)
  |(rw [if_neg (by omega),if_pos (by omega)] at hr;cases hr;rfl)
  |(rw [if_neg (by omega),if_neg (by omega)] at hr;cases hr;rfl)
def zf7:Know Tryz.prog:=⟨78,SA,zf8⟩
def zf6:Know Tryz.prog:=⟨78,fun I=>zu I (SA I),zf zf8⟩
def XL (I:Alg):KU
 |[.v (.one (.p (.list .fld l))),.v (.one (.p (.str n)))],[]=>(fun(l:List Fld) (n:Str)=>(some (.one ⟨I.hid (l.length≤1000∧n.length≤1000000∧∀ f ∈ l,f.name.length≤1000000∧f.value.length≤1000000),(.ret (.tup [.one (.p (.str (I.hid ((oneF (valsF l n)).1)))),.one (.p (.int .i64 (I.hid ((oneF (valsF l n)).2))))])),[]⟩):Option CT)) l n
 |_,_=>none
theorem zcs:zq Tryz.prog 20 (XL alg):=by
 intro args hp r h;unfold XL at h;split at h<;>cases h
 rename_i l n
 revert l;intro(l:List Fld)
 simp only [CT.Good,zk];intro hneed;generalize hr:oneF (valsF l n)=r;obtain⟨a,d⟩:=r
 refine spH Tryz.func20 (by kernel_rfl) { keep:=some [0,1,4,5,6]} [zaz,zay] (by kernel_rfl) ?_
 intro I X hI hX
 refine orcL ?_;go_invoke;refine orcS (by kernel_rfl) ?_
 simp only [zl,Nat.reduceAdd];subst hI;simp only [nrmA,nrmB];unfold oneF at hr
 (repeat' (first|refine ja ?_ ?_|intro _))<;>first|omega|exact jb|exact jc ‹False›|skip
 all_goals first
  |assumption
  |exact(hneed.2.2 _ (by assumption)).1
  |exact(hneed.2.2 _ (by assumption)).2
  |(rw [if_pos (by omega)] at hr;cases hr;rfl)
  |(rw [if_neg (by omega),if_pos (by omega)] at hr;cases hr;rfl)
  |(rw [if_neg (by omega),if_neg (by omega)] at hr;cases hr;rfl)
def TL:Know Tryz.prog:=⟨20,XL,zcs⟩
def TK:Know Tryz.prog:=⟨20,fun I=>zu I (XL I),zf zcs⟩
end Go.Proofs.YtcclfkakcgnacaaGreatDoor
namespace Go.Proofs.YtcclfkakcgnacaaGreatDoor
open Go Go.Sep Go.Ab
set_option maxRecDepth 100000
def numG (base:Int):Int→Str→Int × Bool
 |n,[]=>(n,true)
 |n,c::l=>if hexK c.toNat<0∨base≤hexK c.toNat then(0,false) else numG base (n * base+hexK c.toNat) l
def numA (s:Str) (base most:Int):Int × Bool:=if s=[]∨most<s.length then(0,false) else numG base 0 s
def top9:Nat→Nat
 |0=>0
 |i+1=>16 * top9 i+15
theorem zaE {i:Nat} (h:i≤9):top9 i≤68719476735:=(by decide: ∀ i:Fin 10,top9 i.1≤68719476735) ⟨i,by omega⟩
theorem WW {base n:Int} {s:Str} {i:Nat} (h:i<s.length):numG base n (s.drop i)=if hexK (s.getD i 0).toNat<0∨base≤hexK (s.getD i 0).toNat then(0,false) else numG base (n * base+hexK (s.getD i 0).toNat) (s.drop (i+1)):=by
 rw [jD h,numG];simp [h]
theorem zbg {k:Int} (hk:0≤k∧k≤255): -1≤hexK k∧hexK k≤15:=zjB (p:=fun k=> -1≤hexK k∧hexK k≤15) (by decide+kernel) hk
theorem zej {k:Int} (hk:0≤k∧k≤255):([48,49,50,51,52,53,54,55,56,57]:Str).contains (UInt8.ofNat k.toNat)=decide (0≤hexK k∧hexK k<10):=
 zjB (p:=fun k=>([48,49,50,51,52,53,54,55,56,57]:Str).contains (UInt8.ofNat k.toNat)=decide (0≤hexK k∧hexK k<10)) (by decide+kernel) hk
theorem zhE {k:Int} (hk:0≤k∧k≤255):(∀ j:Fin 16,lowC (UInt8.ofNat k.toNat)=([48,49,50,51,52,53,54,55,56,57,97,98,99,100,101,102]:Str).getD j.1 0→hexK k=(j.1:Int))∧((∀ j:Fin 16,¬ lowC (UInt8.ofNat k.toNat)=([48,49,50,51,52,53,54,55,56,57,97,98,99,100,101,102]:Str).getD j.1 0)→hexK k= -1):=
 zjB (p:=fun k=>(∀ j:Fin 16,lowC (UInt8.ofNat k.toNat)=([48,49,50,51,52,53,54,55,56,57,97,98,99,100,101,102]:Str).getD j.1 0→hexK k=(j.1:Int))∧((∀ j:Fin 16,¬ lowC (UInt8.ofNat k.toNat)=([48,49,50,51,52,53,54,55,56,57,97,98,99,100,101,102]:Str).getD j.1 0)→hexK k= -1)) (by decide+kernel) hk
def uN (I:Alg):KU
 |[.v (.one (.p (.str s))),.v (.one (.p (.int .i64 10))),.v (.one (.p (.int .i64 9)))],[]=>(fun(s:Str)=>(some (.one ⟨I.hid (True),(.ret (.tup [.one (.p (.int .i64 (I.hid ((numA s 10 9).1)))),.one (.p (.bool (I.hid ((numA s 10 9).2))))])),[]⟩):Option CT)) s
 |_,_=>none
theorem WT:zq Tryz.prog 111 (uN alg):=by
 intro args hp r h;unfold uN at h;split at h<;>cases h
 rename_i s;simp only [CT.Good,zk];intro _;generalize hr:numA s 10 9=r
 refine spH Tryz.func111 (by kernel_rfl) { keep:=some [0,1,2,6,7,8,9,10,20,21]} [zcR,zcQ] (by kernel_rfl) ?_
 intro I X hI hX
 refine orcL ?_;go_invoke;refine orcS (by kernel_rfl) ?_
 simp only [zl,Nat.reduceAdd]
 have hne:s≠[]→¬ (9:Int)<s.length→numG 10 0 s=r:=fun h1 h2=>by rw [← hr,numA,if_neg (fun h=>by rcases h with h|h;exact h1 h;exact h2 h)]
 have hyes:(s=[]∨(9:Int)<s.length)→r=(0,false):=fun h=>by rw [← hr,numA,if_pos h]
 refine⟨fun c1=> ?_,fun c1=>⟨fun c2=> ?_,fun c2=> ?_⟩⟩
 · subst hI
   simp only [nrmA,nrmB] at c1;rw [hyes (.inl c1)]
   simp
 · subst hI
   simp only [nrmA,nrmB] at c2;rw [hyes (.inr c2)]
   simp
 have d1:s≠[]:=by
  subst hI;simp only [nrmA,nrmB] at c1;exact c1
 have d2:s.length≤9:=by
  subst hI;simp only [nrmA,nrmB] at c2;omega
 refine lpH hI [zcR,zcQ] hX [0,1,2,8,20,21] (fun(g:Nat × Int)=>match g with|(i,n)=>i≤s.length∧0≤n∧n≤top9 i∧numG 10 n (s.drop i)=r) (fun(g:Nat × Int)=>match g with|(i,n)=>⟨[(0,.v (.one (.p (.str s)))),(1,.v (.one (.p (.int .i64 10)))),(2,.v (.one (.p (.int .i64 9)))),(8,.v (.one (.p (.int .i64 n)))),(20,.v (.one (.p (.int .i64 ((I.len (α:=UInt8) s)))))),(21,.v (.one (.p (.int .i64 i))))],[],42,none⟩) (fun(g:Nat × Int)=>match g with|(i,n)=>s.length - i) (0,0) (by kernel_rfl) (by kernel_rfl) ?_ ?_
 · exact⟨jL _,Int.le_refl _,Int.le_refl _,hne d1 (by omega)⟩
 rintro⟨i,n⟩ ⟨h1,h2,h3,h4⟩ A hA;simp only at hA
 refine orcL ?_;go_invoke;refine orcS (by kernel_rfl) ?_
 simp only [zl,Nat.reduceAdd];subst hI;simp only [nrmA,nrmB];have hb:=xg (s.getD i 0);have hk:=zbg hb;have hd:i<s.length→_:=fun h=>WW (base:=10) (n:=n) h
 have ht:i≤9:=by omega
 have ht:=zaE ht;have ht2:top9 (i+1)=16 * top9 i+15:=rfl;generalize s.getD i 0=x at *;generalize hexK (x.toNat:Int)=k at *
 (repeat' (first|refine ja ?_ ?_|intro _))<;>first|omega|exact jb|exact jc ‹False›|skip
 all_goals first
  |omega
  |(rw [← h4,hd (by omega),if_pos (.inl (by omega))])
  |(rw [← h4,hd (by omega),if_pos (.inr (by omega))])
  |(refine hA (i+1,_) ⟨by simp only;omega,by simp only;omega,by simp only;omega,?_⟩ (by simp only;omega);rw [← h4,hd (by omega),if_neg (by omega)])
  |(rw [← h4,jE (by omega)];rfl)
def qR:Know Tryz.prog:=⟨111,uN,WT⟩
def qQ:Know Tryz.prog:=⟨111,fun I=>zu I (uN I),zf WT⟩
def uM (I:Alg):KU
 |[.v (.one (.p (.str s))),.v (.one (.p (.int .i64 16))),.v (.one (.p (.int .i64 6)))],[]=>(fun(s:Str)=>(some (.one ⟨I.hid (True),(.ret (.tup [.one (.p (.int .i64 (I.hid ((numA s 16 6).1)))),.one (.p (.bool (I.hid ((numA s 16 6).2))))])),[]⟩):Option CT)) s
 |_,_=>none
theorem WS:zq Tryz.prog 111 (uM alg):=by
 intro args hp r h;unfold uM at h;split at h<;>cases h
 rename_i s;simp only [CT.Good,zk];intro _;generalize hr:numA s 16 6=r
 refine spH Tryz.func111 (by kernel_rfl) { keep:=some [0,1,2,6,7,8,9,10,20,21]} [zcR,zcQ,qR,qQ] (by kernel_rfl) ?_
 intro I X hI hX
 refine orcL ?_;go_invoke;refine orcS (by kernel_rfl) ?_
 simp only [zl,Nat.reduceAdd]
 have hne:s≠[]→¬ (6:Int)<s.length→numG 16 0 s=r:=fun h1 h2=>by rw [← hr,numA,if_neg (fun h=>by rcases h with h|h;exact h1 h;exact h2 h)]
 have hyes:(s=[]∨(6:Int)<s.length)→r=(0,false):=fun h=>by rw [← hr,numA,if_pos h]
 refine⟨fun c1=> ?_,fun c1=>⟨fun c2=> ?_,fun c2=> ?_⟩⟩
 · subst hI
   simp only [nrmA,nrmB] at c1;rw [hyes (.inl c1)]
   simp
 · subst hI
   simp only [nrmA,nrmB] at c2;rw [hyes (.inr c2)]
   simp
 have d1:s≠[]:=by
  subst hI;simp only [nrmA,nrmB] at c1;exact c1
 have d2:s.length≤6:=by
  subst hI;simp only [nrmA,nrmB] at c2;omega
 refine lpH hI [zcR,zcQ,qR,qQ] hX [0,1,2,8,20,21] (fun(g:Nat × Int)=>match g with|(i,n)=>i≤s.length∧0≤n∧n≤top9 i∧numG 16 n (s.drop i)=r) (fun(g:Nat × Int)=>match g with|(i,n)=>⟨[(0,.v (.one (.p (.str s)))),(1,.v (.one (.p (.int .i64 16)))),(2,.v (.one (.p (.int .i64 6)))),(8,.v (.one (.p (.int .i64 n)))),(20,.v (.one (.p (.int .i64 ((I.len (α:=UInt8) s)))))),(21,.v (.one (.p (.int .i64 i))))],[],42,none⟩) (fun(g:Nat × Int)=>match g with|(i,n)=>s.length - i) (0,0) (by kernel_rfl) (by kernel_rfl) ?_ ?_
 · exact⟨jL _,Int.le_refl _,Int.le_refl _,hne d1 (by omega)⟩
 rintro⟨i,n⟩ ⟨h1,h2,h3,h4⟩ A hA;simp only at hA
 refine orcL ?_;go_invoke;refine orcS (by kernel_rfl) ?_
 simp only [zl,Nat.reduceAdd];subst hI;simp only [nrmA,nrmB];have hb:=xg (s.getD i 0);have hk:=zbg hb;have hd:i<s.length→_:=fun h=>WW (base:=16) (n:=n) h
 have ht:i≤9:=by omega
 have ht:=zaE ht;have ht2:top9 (i+1)=16 * top9 i+15:=rfl;generalize s.getD i 0=x at *;generalize hexK (x.toNat:Int)=k at *
 (repeat' (first|refine ja ?_ ?_|intro _))<;>first|omega|exact jb|exact jc ‹False›|skip
 all_goals first
  |omega
  |(rw [← h4,hd (by omega),if_pos (.inl (by omega))])
  |(rw [← h4,hd (by omega),if_pos (.inr (by omega))])
  |(refine hA (i+1,_) ⟨by simp only;omega,by simp only;omega,by simp only;omega,?_⟩ (by simp only;omega);rw [← h4,hd (by omega),if_neg (by omega)])
  |(rw [← h4,jE (by omega)];rfl)
def za2:Know Tryz.prog:=⟨111,uM,WS⟩
def za1:Know Tryz.prog:=⟨111,fun I=>zu I (uM I),zf WS⟩
def XT (I:Alg):KU
 |[.v (.one (.p (.int .u8 k)))],[]=>some (.one ⟨I.hid (0≤k∧k≤255),(.ret (.v (.one (.p (.int .i64 (I.hid (hexK k))))))),[]⟩)
 |_,_=>none
theorem zcV:zq Tryz.prog 44 (XT alg):=by
 intro args hp r h;unfold XT at h;split at h<;>cases h
 rename_i k;simp only [CT.Good,zk];intro hneed;generalize hr:hexK k=r;obtain⟨f1,f2⟩:=zhE hneed;rw [hr] at f1 f2
 refine spH Tryz.func44 (by kernel_rfl) { keep:=some [0,2,3,4,5]} [Xu,Xt] (by kernel_rfl) ?_
 intro I X hI hX
 refine orcL ?_;go_invoke;refine orcS (by kernel_rfl) ?_
 simp only [zl,Nat.reduceAdd]
 refine⟨(by rw [hI];simp only [nrmA,nrmB];omega),(by rw [hI,zk];simp),?_⟩
 generalize hu:I.hid (lowS [I.i2b k])=u
 have hu1:u=[lowC (UInt8.ofNat k.toNat)]:=by rw [← hu,hI];rfl
 generalize lowC (UInt8.ofNat k.toNat)=x at *
 refine lpH hI [Xu,Xt] hX [0,3,4,5] (fun(j:Nat)=>j≤16∧∀ j':Fin 16,j'.1<j→¬ x=([48,49,50,51,52,53,54,55,56,57,97,98,99,100,101,102]:Str).getD j'.1 0) (fun(j:Nat)=>⟨[(0,.v (.one (.p (.int .u8 k)))),(3,.v (.one (.p (.str ([48,49,50,51,52,53,54,55,56,57,97,98,99,100,101,102]))))),(4,.v (.one (.p (.str u)))),(5,.v (.one (.p (.int .i64 j))))],[],22,none⟩) (fun(j:Nat)=>16 - j) 0 (by kernel_rfl) (by kernel_rfl) ?_ ?_
 · exact⟨jL _,fun _ h=>absurd h (Nat.not_lt_zero _)⟩
 rintro j ⟨h1,h2⟩ A hA
 refine orcL ?_;go_invoke;refine orcS (by kernel_rfl) ?_
 simp only [zl,Nat.reduceAdd];subst hI;simp only [nrmA,nrmB];generalize hH:([48,49,50,51,52,53,54,55,56,57,97,98,99,100,101,102]:Str)=H at *
 have hHl:H.length=16:=by rw [← hH];rfl
 have hcut:j<16→(H.drop j).take (((j:Int)+1).toNat - j)=[H.getD j 0]:=fun h=>by
  rw [show((j:Int)+1).toNat - j=1 by omega,jD (by omega),List.take_succ_cons,List.take_zero]
  simp [hHl,h]
 have hq:j<16→(u=(H.drop j).take (((j:Int)+1).toNat - j)↔x=H.getD j 0):=fun h=>by
  rw [hcut h,hu1];simp
 (repeat' (first|refine ja ?_ ?_|intro _))<;>first|omega|exact jb|exact jc ‹False›|skip
 all_goals first
  |omega
  |exact(f1 ⟨j,by omega⟩ ((hq (by omega)).1 ‹_›)).symm
  | (refine hA (j+1) ⟨by omega,fun j' hj'=> ?_⟩ (by omega)
     rcases Nat.lt_or_ge j'.1 j with hlt|hge
     · exact h2 j' hlt
     · rw [show j'.1=j by omega];exact fun e=>‹¬ u=_› ((hq (by omega)).2 e))
  |exact(f2 fun j'=>h2 j' (by have:=j'.2;omega)).symm
def zcU:Know Tryz.prog:=⟨44,XT,zcV⟩
def zcT:Know Tryz.prog:=⟨44,fun I=>zu I (XT I),zf zcV⟩
end Go.Proofs.YtcclfkakcgnacaaGreatDoor
namespace Go.Proofs.YtcclfkakcgnacaaGreatDoor
open Go Go.Sep Go.Ab
set_option maxRecDepth 100000
def uK (I:Alg):KU
 |[.v (.one (.p (.str s)))],[]=>(fun(s:Str)=>(some (.one ⟨I.hid (True),(.ret (.tup [.one (.p (.int .i64 (I.hid ((numA s 10 9).1)))),.one (.p (.bool (I.hid ((numA s 10 9).2))))])),[]⟩):Option CT)) s
 |_,_=>none
theorem WR:zq Tryz.prog 19 (uK alg):=by
 intro args hp r h;unfold uK at h;split at h<;>cases h
 rename_i s;simp only [CT.Good,zk];intro _;generalize hr:numA s 10 9=r
 refine spH Tryz.func19 (by kernel_rfl) { keep:=some [0,2,3,4,5]} [zih,zif,zcU,zcT] (by kernel_rfl) ?_
 intro I X hI hX
 refine orcL ?_;go_invoke;refine orcS (by kernel_rfl) ?_
 simp only [zl,Nat.reduceAdd]
 have hne:s≠[]→¬ (9:Int)<s.length→numG 10 0 s=r:=fun h1 h2=>by rw [← hr,numA,if_neg (fun h=>by rcases h with h|h;exact h1 h;exact h2 h)]
 have hyes:(s=[]∨(9:Int)<s.length)→r=(0,false):=fun h=>by rw [← hr,numA,if_pos h]
 refine⟨fun c1=> ?_,fun c1=>⟨fun c2=> ?_,fun c2=> ?_⟩⟩
 · subst hI
   simp only [nrmA,nrmB] at c1
   rw [hyes (.inl (List.eq_nil_of_length_eq_zero (by omega)))]
   simp
 · subst hI
   simp only [nrmA,nrmB] at c2;rw [hyes (.inr c2)]
   simp
 have d1:s≠[]:=by
  subst hI;simp only [nrmA,nrmB] at c1;rintro rfl
  simp at c1
 have d2:s.length≤9:=by
  subst hI;simp only [nrmA,nrmB] at c2;omega
 refine lpH hI [zih,zif,zcU,zcT] hX [0,4,5] (fun(g:Nat × Int)=>match g with|(i,n)=>i≤s.length∧0≤n∧n≤top9 i∧numG 10 n (s.drop i)=r) (fun(g:Nat × Int)=>match g with|(i,n)=>⟨[(0,.v (.one (.p (.str s)))),(4,.v (.one (.p (.int .i64 n)))),(5,.v (.one (.p (.int .i64 i))))],[],33,none⟩) (fun(g:Nat × Int)=>match g with|(i,n)=>s.length - i) (0,0) (by kernel_rfl) (by kernel_rfl) ?_ ?_
 · exact⟨jL _,Int.le_refl _,Int.le_refl _,hne d1 (by omega)⟩
 rintro⟨i,n⟩ ⟨h1,h2,h3,h4⟩ A hA;simp only at hA
 refine orcL ?_;go_invoke;refine orcS (by kernel_rfl) ?_
 simp only [zl,Nat.reduceAdd];subst hI;simp only [nrmA,nrmB];have hb:=xg (s.getD i 0);have hk:=zbg hb;have hdg:=zej hb;rw [jI,UInt8.ofNat_toNat] at hdg;have hd:i<s.length→_:=fun h=>WW (base:=10) (n:=n) h
 have ht:i≤9:=by omega
 have ht:=zaE ht;have ht2:top9 (i+1)=16 * top9 i+15:=rfl;generalize s.getD i 0=x at *
 try rw [hdg]
 generalize hexK (x.toNat:Int)=k at *;simp only [Int.mul_comm 10 n,decide_eq_true_eq,decide_eq_false_iff_not]
 (repeat' (first|refine ja ?_ ?_|intro _))<;>first|omega|exact jb|exact jc ‹False›|skip
 all_goals first
  |omega
  |decide
  |(rw [← h4,hd (by omega),if_pos (by omega)])
  |(refine hA (i+1,_) ⟨by simp only;omega,by simp only;omega,by simp only;omega,?_⟩ (by simp only;omega);rw [← h4,hd (by omega),if_neg (by omega)])
  |(rw [← h4,jE (by omega)];rfl)
def qP:Know Tryz.prog:=⟨19,uK,WR⟩
def qO:Know Tryz.prog:=⟨19,fun I=>zu I (uK I),zf WR⟩
def qp (I:Alg):KU
 |[.v (.one (.p (.str s)))],[]=>(fun(s:Str)=>(some (.one ⟨I.hid (True),(.ret (.tup [.one (.p (.int .i64 (I.hid ((numA s 10 9).1)))),.one (.p (.bool (I.hid ((numA s 10 9).2))))])),[]⟩):Option CT)) s
 |_,_=>none
theorem UL:zq Tryz.prog 83 (qp alg):=by
 intro args hp r h;unfold qp at h;split at h<;>cases h
 rename_i s;simp only [CT.Good,zk];intro _
 refine spH Tryz.func83 (by kernel_rfl) { keep:=some [0,2,3]} [qR,qQ,za2,za1] (by kernel_rfl) ?_
 intro I X hI hX
 refine orcL ?_;go_invoke;refine orcS (by kernel_rfl) ?_
 simp only [zl,Nat.reduceAdd];subst hI;simp only [nrmA,nrmB]
 try trivial
def qo:Know Tryz.prog:=⟨83,qp,UL⟩
def qm:Know Tryz.prog:=⟨83,fun I=>zu I (qp I),zf UL⟩
theorem Qh: ∀ (s:Str) (n:Int),0≤n→(numG 10 n s).1+1≤(n+1) * 10 ^ s.length∧0≤(numG 10 n s).1
 |[],n,h=>by simp [numG];exact h
 | c ::l,n,h=>by
   have h16:(0:Int)<10 ^ l.length:=Int.pow_pos (by decide)
   have e:((n+1) * 10 ^ (c::l).length:Int)=((n+1) * 10) * 10 ^ l.length:=by rw [jh,Int.pow_succ,Int.mul_assoc,Int.mul_comm (10 ^ l.length) 10]
   rw [e,numG]
   split
   · have h1:(1:Int) * 1≤((n+1) * 10) * 10 ^ l.length:=Int.mul_le_mul (by omega) (by omega) (by decide) (by omega)
     exact⟨by simpa using h1,Int.le_refl _⟩
   · rename_i hc
     have h2:=Qh l (n * 10+hexK c.toNat) (by omega)
     exact⟨Int.le_trans h2.1 (Int.mul_le_mul_of_nonneg_right (by omega) (by omega)),h2.2⟩
theorem uO (x:Str):0≤(numA x 10 9).1∧(numA x 10 9).1<1000000000:=by
 unfold numA
 split
 · exact by decide
 · rename_i h
   have h1:=Qh x 0 (Int.le_refl _)
   have h2:x.length≤9:=by omega
   have h3:(10:Int) ^ x.length≤10 ^ 9:=by
    have:(10 ^ x.length:Nat)≤10 ^ 9:=Nat.pow_le_pow_right (by decide) h2
    exact_mod_cast this
   refine⟨h1.2,?_⟩
   have h4:(10:Int) ^ 9=1000000000:=by decide
   omega
end Go.Proofs.YtcclfkakcgnacaaGreatDoor
namespace Go.Proofs.YtcclfkakcgnacaaGreatDoor
open Go Go.Sep Go.Ab
set_option maxRecDepth 100000
def X5 (I:Alg):KU
 |[.v (.one (.p (.list .byte l)))],[]=>(fun(l:Str)=>(some (.one ⟨I.hid (l.length≤100000000),(.ret (.v (.one (.row 0)))),[.row .byte 5 l]⟩):Option CT)) l
 |_,_=>none
theorem zdo:zq Tryz.prog 65 (X5 alg):=by
 intro args hp r h;unfold X5 at h;split at h<;>cases h
 rename_i l;simp only [CT.Good,zk];intro hneed
 refine spH Tryz.func65 (by kernel_rfl) { keep:=some [0,2]} [] (by kernel_rfl) ?_
 intro I X hI hX
 refine orcL ?_;go_invoke;refine orcS (by kernel_rfl) ?_
 simp only [zl,Nat.reduceAdd];subst hI;dsimp only [alg]
 have h2:((([]:Str).length:Nat):Int)+((l.length:Nat):Int)≤140737488355328:=by simp;omega
 refine⟨fun h=>⟨⟨trivial,?_⟩,h2,trivial,rfl⟩,fun h=>⟨h2,trivial,rfl⟩⟩
 have:l=[]:=List.eq_nil_of_length_eq_zero (by have:=eq_of_beq h;omega)
 subst this;rfl
def X4:Know Tryz.prog:=⟨65,X5,zdo⟩
def X3:Know Tryz.prog:=⟨65,fun I=>zu I (X5 I),zf zdo⟩
def wW (I:Alg):KU
 |[.v (.one (.p (.list .byte x))),.v (.one (.p (.list .byte y)))],[]=>(fun(x y:Str)=>(some (.one ⟨I.hid (True),(.ret (.v (.one (.p (.bool (I.hid (x == y))))))),[]⟩):Option CT)) x y
 |_,_=>none
theorem YE:zq Tryz.prog 16 (wW alg):=by
 intro args hp r h;unfold wW at h;split at h<;>cases h
 rename_i x y;simp only [CT.Good,zk];intro _
 refine spH Tryz.func16 (by kernel_rfl) { keep:=some [0,1,4]} [] (by kernel_rfl) ?_
 intro I X hI hX
 refine orcL ?_;go_invoke;refine orcS (by kernel_rfl) ?_
 simp only [zl,Nat.reduceAdd];subst hI;exact⟨rfl,trivial⟩
def sG:Know Tryz.prog:=⟨16,wW,YE⟩
def sF:Know Tryz.prog:=⟨16,fun I=>zu I (wW I),zf YE⟩
end Go.Proofs.YtcclfkakcgnacaaGreatDoor
namespace Go.Proofs.YtcclfkakcgnacaaGreatDoor
open Go Go.Sep Go.Ab
def upl0:Upl:=⟨0,0,[],[],0⟩
def atU (l:List Upl) (id:Int):Nat:=l.findIdx fun u=>u.id == id
def zS (l:List Upl) (id:Int):Upl:=l.getD (atU l id) upl0
def yH:List Upl→Int
 |[]=>0
 |u::l=>u.bytes.length+yH l
def creC (l:List Upl) (size:Int) (m:Str):Int:=
 if size< -1 then 1 else if 2000<size∨100<m.length then 4 else if RQ m=false∨¬ Lib.trimS m [32,9]=m then 3 else if l.length=12 then 8 else 0
def creL (l:List Upl) (n size:Int) (m:Str):List Upl:=if creC l size m=0 then l++[⟨n+1,size,m,[],0⟩] else l
def creN (l:List Upl) (n size:Int) (m:Str):Int:=if creC l size m=0 then n+1 else n
def creI (l:List Upl) (n size:Int) (m:Str):Int:=if creC l size m=0 then n+1 else 0
def appC (l:List Upl) (id off:Int) (b:Str):Int:=
 if l.length≤atU l id then 10
 else if ¬ (zS l id).sent=0 then 19
 else if ¬ off=(zS l id).bytes.length then 17
 else if 2000<(zS l id).bytes.length+b.length∨0≤(zS l id).size∧(zS l id).size<(zS l id).bytes.length+b.length then 4
 else if 6000<yH l+b.length then 16 else 0
def appL (l:List Upl) (id off:Int) (b:Str):List Upl:=if appC l id off b=0 then l.set (atU l id) { zS l id with bytes:=(zS l id).bytes++b} else l
def decC (l:List Upl) (id size:Int):Int:=
 if l.length≤atU l id then 10
 else if 0≤(zS l id).size then 18
 else if size<0 then 1
 else if 2000<size∨size<(zS l id).bytes.length then 4 else 0
def decL (l:List Upl) (id size:Int):List Upl:=if decC l id size=0 then l.set (atU l id) { zS l id with size:=size} else l
def droC (l:List Upl) (id:Int):Int:=if l.length≤atU l id then 10 else 0
def droL (l:List Upl) (id:Int):List Upl:=l.eraseIdx (atU l id)
def begC (l:List Upl) (id:Int):Int:=
 if l.length≤atU l id then 10
 else if ¬ (zS l id).sent=0 then 19
 else if ¬ (zS l id).size=(zS l id).bytes.length then 14 else 0
def begL (l:List Upl) (id:Int):List Upl:=if begC l id=0 then l.set (atU l id) { zS l id with sent:=1} else l
def endC (l:List Upl) (id:Int):Int:=
 if l.length≤atU l id then 10
 else if ¬ (zS l id).sent=1 then 19 else 0
def endL (l:List Upl) (id:Int):List Upl:=if endC l id=0 then l.set (atU l id) { zS l id with sent:=2} else l
structure zkU (u:Upl):Prop where
 bl:u.bytes.length≤2000
 s1: -1≤u.size
 s2:u.size≤2000
 nl:u.note.length≤100
 bs:0≤u.size→(u.bytes.length:Int)≤u.size
 t0:0≤u.sent
 t2:u.sent≤2
 wh:u.sent≠0→u.size=u.bytes.length
structure zM (l:List Upl) (n:Int):Prop where
 n0:0≤n
 cnt:l.length≤12
 srt:l.Pairwise fun a b=>a.id<b.id
 ids: ∀ u ∈ l,1≤u.id∧u.id≤n
 each: ∀ u ∈ l,zkU u
 tot:yH l≤6000
theorem vF:zM [] 0:=⟨by decide,by decide,List.Pairwise.nil,fun _ h=>by simp at h,fun _ h=>by simp at h,by decide⟩
theorem zgA (l:List Upl) (id:Int):atU l id≤l.length:=List.findIdx_le_length
theorem y5 {l:List Upl} {id:Int} (h:atU l id<l.length):zS l id=l[atU l id]:=by unfold zS;simp [h]
theorem yV {l:List Upl} {id:Int} (h:atU l id<l.length):zS l id ∈ l:=by rw [y5 h];exact List.getElem_mem h
theorem rC {l:List Upl} {id:Int} (h:atU l id<l.length):(zS l id).id=id:=by
 rw [y5 h];have h2:(l[atU l id].id == id)=true:=List.findIdx_getElem (p:=fun u:Upl=>u.id == id) (w:=h)
 simpa using h2
theorem zey (a b:List Upl):yH (a++b)=yH a+yH b:=by
 induction a with
 |nil=>simp [yH]
 |cons u a ih=>simp only [List.cons_append,yH,ih];omega
theorem tX: ∀ l:List Upl,0≤yH l
 |[]=>by decide
 |u::l=>by have:=tX l;simp only [yH];omega
theorem Rn: ∀ {l:List Upl} {i:Nat} {u:Upl} (h:i<l.length),yH (l.set i u)=yH l - l[i].bytes.length+u.bytes.length
 |v::l,0,u,h=>by simp only [List.set_cons_zero,yH,List.getElem_cons_zero];omega
 | v::l,i+1,u,h=>by
   have:=Rn (l:=l) (i:=i) (u:=u) (by simpa using h)
   simp only [List.set_cons_succ,yH,List.getElem_cons_succ,this];omega
theorem Wi: ∀ (l:List Upl) (i:Nat),yH (l.eraseIdx i)≤yH l
 |[],_=>by simp [yH]
 |v::l,0=>by simp only [List.eraseIdx_cons_zero,yH];omega
 |v::l,i+1=>by have:=Wi l i;simp only [List.eraseIdx_cons_succ,yH];omega
theorem U3 {l:List Upl} {n:Int} (h:zM l n) {i:Nat} (hi:i<l.length) {u:Upl} (hid:u.id=l[i].id) (hu:zkU u) (ht:yH l - l[i].bytes.length+u.bytes.length≤6000):zM (l.set i u) n:=by
 refine⟨h.n0,by rw [List.length_set];exact h.cnt,?_,fun v hv=> ?_,fun v hv=> ?_,by rw [Rn hi];exact ht⟩
 · have h1:=List.pairwise_map (f:=fun u:Upl=>u.id) (R:=(· < ·)) (l:=l)
   have h2:=List.pairwise_map (f:=fun u:Upl=>u.id) (R:=(· < ·)) (l:=l.set i u)
   rw [List.map_set,hid] at h2
   have e:(l.map fun u:Upl=>u.id).set i l[i].id=l.map fun u:Upl=>u.id:=by
    have:=List.set_getElem_self (show i<(l.map fun u:Upl=>u.id).length by simpa using hi)
    simpa using this
   rw [e] at h2;exact h2.1 (h1.2 h.srt)
 · rcases List.mem_or_eq_of_mem_set hv with hv|rfl
   · exact h.ids v hv
   · rw [hid];exact h.ids _ (List.getElem_mem hi)
 · rcases List.mem_or_eq_of_mem_set hv with hv|rfl
   · exact h.each v hv
   · exact hu
theorem zkG {l:List Upl} {n:Int} (h:zM l n) (size:Int) (m:Str):zM (creL l n size m) (creN l n size m):=by
 unfold creL creN
 split
 · rename_i hc
   unfold creC at hc
   split at hc
   · cases hc
   split at hc
   · cases hc
   split at hc
   · cases hc
   split at hc
   · cases hc
   have hcnt:=h.cnt;have hn:=h.n0
   refine⟨by omega,by simp;omega,?_,fun u hu=> ?_,fun u hu=> ?_,?_⟩
   · rw [List.pairwise_append]
     refine⟨h.srt,by simp,fun a ha b hb=> ?_⟩
     simp only [List.mem_singleton] at hb;subst hb;have:=(h.ids a ha).2
     show a.id<n+1
     omega
   · rcases List.mem_append.1 hu with hu|hu
     · have:=h.ids u hu;omega
     · simp only [List.mem_singleton] at hu;subst hu;exact⟨by show 1≤n+1;omega,by show n+1≤n+1;omega⟩
   · rcases List.mem_append.1 hu with hu|hu
     · exact h.each u hu
     · simp only [List.mem_singleton] at hu;subst hu
       exact⟨by simp,by simp only;omega,by simp only;omega,by simp only;omega,fun _=>by simpa,by simp,by simp,fun h=>absurd rfl h⟩
   · rw [zey];have:=h.tot;simp [yH];omega
 · exact h
theorem zkR {l:List Upl} {n:Int} (h:zM l n) (id off:Int) (b:Str):zM (appL l id off b) n:=by
 unfold appL
 split
 · rename_i hc
   unfold appC at hc
   split at hc
   · cases hc
   rename_i h1
   have hi:atU l id<l.length:=by omega
   have hu:=h.each _ (yV hi)
   split at hc
   · cases hc
   split at hc
   · cases hc
   split at hc
   · cases hc
   split at hc
   · cases hc
   rename_i h2 h3 h4 h5
   refine U3 h hi (by show(zS l id).id=_;rw [y5 hi]) ?_ ?_
   · refine⟨?_,hu.s1,hu.s2,hu.nl,?_,hu.t0,hu.t2,fun hs=>absurd (by simpa using h2) hs⟩
     · show((zS l id).bytes++b).length≤2000;rw [jk];omega
     · intro hs;show((((zS l id).bytes++b).length:Nat):Int)≤(zS l id).size;rw [jk]
       have hs:0≤(zS l id).size:=hs;omega
   · show yH l - _+((((zS l id).bytes++b).length:Nat):Int)≤6000
     rw [jk,← y5 hi];omega
 · exact h
theorem zkE {l:List Upl} {n:Int} (h:zM l n) (id size:Int):zM (decL l id size) n:=by
 unfold decL
 split
 · rename_i hc
   unfold decC at hc
   split at hc
   · cases hc
   rename_i h1
   have hi:atU l id<l.length:=by omega
   have hu:=h.each _ (yV hi)
   split at hc
   · cases hc
   split at hc
   · cases hc
   split at hc
   · cases hc
   rename_i h2 h3 h4
   refine U3 h hi (by show(zS l id).id=_;rw [y5 hi]) ?_ ?_
   · refine⟨hu.bl,by show -1≤size;omega,by show size≤2000;omega,hu.nl,fun _=>by show(((zS l id).bytes.length:Nat):Int)≤size;omega,hu.t0,hu.t2,fun hs=> ?_⟩
     have:=hu.wh hs;omega
   · show yH l - _+(((zS l id).bytes.length:Nat):Int)≤6000
     rw [← y5 hi];have:=h.tot;omega
 · exact h
theorem zkB {l:List Upl} {n:Int} (h:zM l n) (id:Int):zM (droL l id) n:=by
 unfold droL;have hs:=List.eraseIdx_sublist l (atU l id);refine⟨h.n0,Nat.le_trans hs.length_le h.cnt,h.srt.sublist hs,fun u hu=>h.ids u (hs.subset hu),fun u hu=>h.each u (hs.subset hu),Int.le_trans (Wi _ _) h.tot⟩
theorem zkO {l:List Upl} {n:Int} (h:zM l n) (id:Int):zM (begL l id) n:=by
 unfold begL
 split
 · rename_i hc
   unfold begC at hc
   split at hc
   · cases hc
   rename_i h1
   have hi:atU l id<l.length:=by omega
   have hu:=h.each _ (yV hi)
   split at hc
   · cases hc
   split at hc
   · cases hc
   rename_i h2 h3
   refine U3 h hi (by show(zS l id).id=_;rw [y5 hi]) ⟨hu.bl,hu.s1,hu.s2,hu.nl,hu.bs,by show(0:Int)≤1;decide,by show(1:Int)≤2;decide,fun _=>by simpa using h3⟩ ?_
   show yH l - _+(((zS l id).bytes.length:Nat):Int)≤6000
   rw [← y5 hi];have:=h.tot;omega
 · exact h
theorem zkz {l:List Upl} {n:Int} (h:zM l n) (id:Int):zM (endL l id) n:=by
 unfold endL
 split
 · rename_i hc
   unfold endC at hc
   split at hc
   · cases hc
   rename_i h1
   have hi:atU l id<l.length:=by omega
   have hu:=h.each _ (yV hi)
   split at hc
   · cases hc
   rename_i h2
   refine U3 h hi (by show(zS l id).id=_;rw [y5 hi]) ⟨hu.bl,hu.s1,hu.s2,hu.nl,hu.bs,by show(0:Int)≤2;decide,by show(2:Int)≤2;decide,fun _=>hu.wh (by simp only [Decidable.not_not] at h2;omega)⟩ ?_
   show yH l - _+(((zS l id).bytes.length:Nat):Int)≤6000
   rw [← y5 hi];have:=h.tot;omega
 · exact h
theorem zkP {l:List Upl} (h:l.Pairwise fun a b=>a.id<b.id) {i:Nat} (hi:i<l.length):atU l l[i].id=i:=by
 unfold atU;rw [List.findIdx_eq hi]
 refine⟨by simp,fun j hj=> ?_⟩
 have:=List.pairwise_iff_getElem.1 h j i (by omega) hi hj
 simp only [beq_eq_false_iff_ne,ne_eq];omega
theorem zf5 {l:List Upl} (h:l.Pairwise fun a b=>a.id<b.id) (id:Int):(l.filter fun u=> !(u.id == id))=droL l id:=by
 induction l with
 |nil=>simp [droL]
 | cons u l ih=>
   have h:=List.pairwise_cons.1 h;unfold droL atU at *;rw [List.filter_cons,List.findIdx_cons]
   by_cases hu:u.id=id
   · have e:(u.id == id)=true:=by simpa using hu
     rw [e];simp only [Bool.not_true,jd,if_false,cond_true,List.eraseIdx_cons_zero];refine List.filter_eq_self.2 fun v hv=> ?_;have:=h.1 v hv
     simp;omega
   · have e:(u.id == id)=false:=by simpa using hu
     rw [e];simp only [Bool.not_false,if_true,cond_false,List.eraseIdx_cons_succ,ih h.2]
end Go.Proofs.YtcclfkakcgnacaaGreatDoor
namespace Go.Proofs.YtcclfkakcgnacaaGreatDoor
open Go Go.Sep Go.Ab
set_option maxRecDepth 100000
def Xr (I:Alg):KU
 |[.v (.agg [.p (.int .i64 a),.p (.int .i64 b),.p (.str m),.p (.list .byte y),.p (.int .i64 t)]),.v (.one (.ptr 0 0))],[.pack [.obj 3 [.p (.int .i64 d)]]]=>(fun(m y:Str)=>(some (.one ⟨I.hid (True),(.ret (.v (.one (.p (.bool (I.hid (a == d))))))),[.pack [.obj 3 [.p (.int .i64 d)]]]⟩):Option CT)) m y
 |_,_=>none
theorem zb3:zq Tryz.prog 98 (Xr alg):=by
 intro args hp r h;unfold Xr at h;split at h<;>cases h
 rename_i a b m y t d;simp only [CT.Good,zk];intro _
 refine spH Tryz.func98 (by kernel_rfl) { keep:=some [0,1,2,3]} [] (by kernel_rfl) ?_
 intro I X hI hX
 refine orcL ?_;go_invoke;refine orcS (by kernel_rfl) ?_
 simp only [zl,Nat.reduceAdd];subst hI;simp only [nrmA,nrmB,nrlB,reduceCtorEq,HO.pack.injEq,HO.obj.injEq]
def Xq:Know Tryz.prog:=⟨98,Xr,zb3⟩
def zb2:Know Tryz.prog:=⟨98,fun I=>zu I (Xr I),zf zb3⟩
def ixU (l:List Upl) (id:Int):Int:=if atU l id<l.length then(atU l id:Int) else -1
theorem zdx {l:List Upl} {id:Int} {i:Nat} (h:i<l.length) (hp:i≤atU l id):(if(l.getD i upl0).id=id then atU l id=i else i+1≤atU l id):=by
 rw [show l.getD i upl0=l[i] by simp [h]]
 split
 · rename_i he
   rcases Nat.lt_or_ge i (atU l id) with h1|h1
   · have:=List.not_of_lt_findIdx (p:=fun u:Upl=>u.id == id) (xs:=l) (i:=i) h1
     simp [he] at this
   · omega
 · rename_i he
   rcases Nat.lt_or_ge i (atU l id) with h1|h1
   · omega
   · have e:atU l id=i:=by omega
     have h2:=rC (l:=l) (id:=id) (by omega)
     rw [y5 (by omega)] at h2
     simp only [e] at h2;exact absurd h2 he
def U4 (I:Alg):KU
 |[.v (.one (.p (.list .upl l))),.v (.one (.fn 98 [.ptr 0 0]))],[.pack [.obj 3 [.p (.int .i64 d)]]]=>(fun(l:List Upl)=>(some (.one ⟨I.hid (l.length≤1000000),(.ret (.v (.one (.p (.int .i64 (I.hid (ixU l d))))))),[.pack [.obj 3 [.p (.int .i64 d)]]]⟩):Option CT)) l
 |_,_=>none
theorem zeR:zq Tryz.prog 97 (U4 alg):=by
 intro args hp r h;unfold U4 at h;split at h<;>cases h
 rename_i l d
 revert l;intro(l:List Upl)
 simp only [CT.Good,zk];intro hneed
 refine spH Tryz.func97 (by kernel_rfl) { keep:=some [0,1,4,5,7,8]} [Xq] (by kernel_rfl) ?_
 intro I X hI hX
 refine orcL ?_;go_invoke;refine orcS (by kernel_rfl) ?_
 simp only [zl,Nat.reduceAdd]
 refine lpH hI [Xq] hX [0,1,7,8] (fun(i:Nat)=>i≤l.length∧i≤atU l d) (fun(i:Nat)=>⟨[(0,.v (.one (.p (.list .upl l)))),(1,.v (.one (.fn 98 [.ptr 0 0]))),(7,.v (.one (.p (.int .i64 ((I.len (α:=Upl) l)))))),(8,.v (.one (.p (.int .i64 i))))],[.pack [.obj 3 [.p (.int .i64 d)]]],19,none⟩) (fun(i:Nat)=>l.length - i) 0 (by kernel_rfl) (by kernel_rfl) ?_ ?_
 · exact⟨jL _,jL _⟩
 rintro i ⟨h1,h2⟩ A hA
 refine orcL ?_;go_invoke;refine orcS (by kernel_rfl) ?_
 simp only [zl,Nat.reduceAdd];subst hI;simp only [nrmA,nrmB];have hx:=fun h=>zdx (l:=l) (id:=d) (i:=i) h h2;have hle:=zgA l d;have e0:(⟨0,0,[],[],0⟩:Upl)=upl0:=rfl;simp only [e0];unfold ixU
 (repeat' (first|refine ja ?_ ?_|intro _))<;>first|omega|exact jb|exact jc ‹False›|skip
 all_goals first
  |(have h3:=hx (by omega);rw [if_pos (by assumption)] at h3;rw [if_pos (by omega),h3])
  |(have h3:=hx (by omega);rw [if_neg (by assumption)] at h3;exact hA (i+1) ⟨by omega,h3⟩ (by omega))
  |(rw [if_neg (by omega)])
def Yc:Know Tryz.prog:=⟨97,U4,zeR⟩
def Yb:Know Tryz.prog:=⟨97,fun I=>zu I (U4 I),zf zeR⟩
def VA:Cfg:= { sl:=[⟨90,0,.upl,some 67⟩,⟨50,0,.upl,some 67⟩]}
theorem zfL {l:List Upl} {id:Int} (h:atU l id<l.length):ixU l id=(atU l id:Int):=by unfold ixU;rw [if_pos h]
theorem zfM {l:List Upl} {id:Int} (h: ¬ atU l id<l.length):ixU l id= -1:=by unfold ixU;rw [if_neg h]
theorem zk1 (l:List Upl) (n id:Int) (hneed:l.length≤1000000∧atU l id<l.length):Spc Tryz.prog 66 [.v (.one (.ptr 0 0)),.v (.one (.p (.int .i64 id)))] [.obj 90 [.row 1,.p (.int .i64 n)],.row .upl 67 l] (.ret (.tup [.one (.ept .upl 1 ((atU l id:Int)) 0),.one (.p (.int .i64 0))])) [.obj 90 [.row 1,.p (.int .i64 n)],.row .upl 67 l]:=by
 obtain⟨h1,h2⟩:=hneed
 refine spH Tryz.func66 (by kernel_rfl) { flat:=true,keep:=some [0,1,3,4,5,6]} [Xq,zb2,Yc,Yb] (by kernel_rfl) ?_
 intro I X hI hX
 refine orcL ?_;go_invoke;refine orcS (by kernel_rfl) ?_
 simp only [zl,Nat.reduceAdd];subst hI;simp only [nrmA,nrmB,zfL h2]
 (repeat' (first|refine ja ?_ ?_|intro _))<;>first|omega|exact jb|exact jc ‹False›|skip
theorem zk0 (l:List Upl) (n id:Int) (hneed:l.length≤1000000∧¬ atU l id<l.length):Spc Tryz.prog 66 [.v (.one (.ptr 0 0)),.v (.one (.p (.int .i64 id)))] [.obj 90 [.row 1,.p (.int .i64 n)],.row .upl 67 l] (.ret (.tup [.one (.p (.val (.pointer none))),.one (.p (.int .i64 10))])) [.obj 90 [.row 1,.p (.int .i64 n)],.row .upl 67 l]:=by
 obtain⟨h1,h2⟩:=hneed
 refine spH Tryz.func66 (by kernel_rfl) { flat:=true,keep:=some [0,1,3,4,5,6]} [Xq,zb2,Yc,Yb] (by kernel_rfl) ?_
 intro I X hI hX
 refine orcL ?_;go_invoke;refine orcS (by kernel_rfl) ?_
 simp only [zl,Nat.reduceAdd];subst hI;simp only [nrmA,nrmB,zfM h2]
 (repeat' (first|refine ja ?_ ?_|intro _))<;>first|omega|exact jb|exact jc ‹False›|skip
def zcf (I:Alg):KU
 |[.v (.one (.ptr 0 0)),.v (.one (.p (.int .i64 id)))],[.obj 90 [.row 1,.p (.int .i64 n)],.row .upl 67 l]=>(fun(l:List Upl)=>(some (.br (I.hid (decide (atU l id<l.length))) (.one ⟨I.hid (l.length≤1000000∧atU l id<l.length),(.ret (.tup [.one (.ept .upl 1 (I.hid (atU l id:Int)) 0),.one (.p (.int .i64 0))])),[.obj 90 [.row 1,.p (.int .i64 n)],.row .upl 67 l]⟩) (.one ⟨I.hid (l.length≤1000000∧¬ atU l id<l.length),(.ret (.tup [.one (.p (.val (.pointer none))),.one (.p (.int .i64 10))])),[.obj 90 [.row 1,.p (.int .i64 n)],.row .upl 67 l]⟩)):Option CT)) l
 |_,_=>none
theorem zh8:zq Tryz.prog 66 (zcf alg):=by
 intro args hp r h;unfold zcf at h
 split at h
 · cases h;exact⟨fun _ hn=>zk1 _ _ _ hn,fun _ hn=>zk0 _ _ _ hn⟩
 · cases h
def Ub:Know Tryz.prog:=⟨66,zcf,zh8⟩
def Ua:Know Tryz.prog:=⟨66,fun I=>zu I (zcf I),zf zh8⟩
theorem zeZ (l:List Upl) (n:Int) (hneed:yH l≤1000000∧l.length≤1000000):Spc Tryz.prog 103 [.v (.one (.ptr 0 0))] [.obj 90 [.row 1,.p (.int .i64 n)],.row .upl 67 l] (.ret (.v (.one (.p (.int .i64 ((yH l))))))) [.obj 90 [.row 1,.p (.int .i64 n)],.row .upl 67 l]:=by
 obtain⟨hu,hl⟩:=hneed
 refine spH Tryz.func103 (by kernel_rfl) { flat:=true,keep:=some [0,2,3,5,9,10,11]} [] (by kernel_rfl) ?_
 intro I X hI hX
 refine orcL ?_;go_invoke;refine orcS (by kernel_rfl) ?_
 simp only [zl,Nat.reduceAdd]
 refine lpH hI [] hX [0,3,9,10,11] (fun(g:Nat × Int)=>match g with|(i,a)=>i≤l.length∧0≤a∧a+yH (l.drop i)=yH l) (fun(g:Nat × Int)=>match g with|(i,a)=>⟨[(0,.v (.one (.ptr 0 0))),(3,.v (.one (.p (.int .i64 a)))),(9,.v (.one (.row 1))),(10,.v (.one (.p (.int .i64 ((I.len (α:=Upl) l)))))),(11,.v (.one (.p (.int .i64 i))))],[.obj 90 [.row 1,.p (.int .i64 n)],.row .upl 67 l],22,none⟩) (fun(g:Nat × Int)=>match g with|(i,a)=>l.length - i) (0,0) (by kernel_rfl) (by kernel_rfl) ?_ ?_
 · exact⟨jL _,Int.le_refl _,by simp⟩
 rintro⟨i,a⟩ ⟨h1,h2,h3⟩ A hA;simp only at hA
 refine orcL ?_;go_invoke;refine orcS (by kernel_rfl) ?_
 simp only [zl,Nat.reduceAdd];subst hI;simp only [nrmA,nrmB]
 have hd:i<l.length→yH (l.drop i)=(l.getD i ⟨0,0,[],[],0⟩).bytes.length+yH (l.drop (i+1)):=fun h=>by
  rw [jD h];simp [yH,h]
 have hn:=tX (l.drop (i+1))
 have hn0: ¬ i<l.length→yH (l.drop i)=0:=fun h=>by rw [jE (by omega)];rfl
 generalize l.getD i ⟨0,0,[],[],0⟩=x at *
 (repeat' (first|refine ja ?_ ?_|intro _))<;>first|omega|exact jb|exact jc ‹False›|skip
 all_goals first
  |(have:=hd (by omega);omega)
  |(have:=hd (by omega);refine hA (i+1,_) ⟨by simp only;omega,by simp only;omega,by simp only;omega⟩ (by simp only;omega))
  |(have:=hn0 (by omega);simp only [show a=yH l by omega])
def Zt (I:Alg):KU
 |[.v (.one (.ptr 0 0))],[.obj 90 [.row 1,.p (.int .i64 n)],.row .upl 67 l]=>(fun(l:List Upl)=>(some (.one ⟨I.hid (yH l≤1000000∧l.length≤1000000),(.ret (.v (.one (.p (.int .i64 (I.hid (yH l))))))),[.obj 90 [.row 1,.p (.int .i64 n)],.row .upl 67 l]⟩):Option CT)) l
 |_,_=>none
theorem RS:zq Tryz.prog 103 (Zt alg):=by
 intro args hp r h;unfold Zt at h
 split at h
 · cases h;exact fun hn=>zeZ _ _ hn
 · cases h
def zeY:Know Tryz.prog:=⟨103,Zt,RS⟩
def zeX:Know Tryz.prog:=⟨103,fun I=>zu I (Zt I),zf RS⟩
theorem zjX (l:List Upl) (n:Int) (hneed:yH l≤1000000∧l.length≤1000000):Spc Tryz.prog 103 [.v (.one (.ptr 0 0))] [.pack [.obj 90 [.row 1,.p (.int .i64 n)],.row .upl 67 l]] (.ret (.v (.one (.p (.int .i64 ((yH l))))))) [.pack [.obj 90 [.row 1,.p (.int .i64 n)],.row .upl 67 l]]:=
 Spc.packed (ex:=[]) (zeZ l n hneed) rfl (by simp) rfl
def Xz (I:Alg):KU
 |[.v (.one (.ptr 0 0))],[.pack [.obj 90 [.row 1,.p (.int .i64 n)],.row .upl 67 l]]=>(fun(l:List Upl)=>(some (.one ⟨I.hid (yH l≤1000000∧l.length≤1000000),(.ret (.v (.one (.p (.int .i64 (I.hid (yH l))))))),[.pack [.obj 90 [.row 1,.p (.int .i64 n)],.row .upl 67 l]]⟩):Option CT)) l
 |_,_=>none
theorem zb9:zq Tryz.prog 103 (Xz alg):=by
 intro args hp r h;unfold Xz at h
 split at h
 · cases h;exact fun hn=>zjX _ _ hn
 · cases h
def zhd:Know Tryz.prog:=⟨103,Xz,zb9⟩
def zhc:Know Tryz.prog:=⟨103,fun I=>zu I (Xz I),zf zb9⟩
def Sj (I:Alg):KU
 |[.v (.one .nilS),.v (.one (.p (.int .i64 n)))],[]=>some (.one ⟨I.hid (0≤n∧n≤1000000),(.ret (.v (.one (.row 0)))),[.row .byte 5 (I.hid ([]))]⟩)
 |_,_=>none
theorem zfV:zq Tryz.prog 132 (Sj alg):=by
 intro args hp r h;unfold Sj at h;split at h<;>cases h
 rename_i n;simp only [CT.Good,zk];intro hneed
 refine spH Tryz.func132 (by kernel_rfl) { cut:=[0],keep:=some [0,1,4]} [] (by kernel_rfl) ?_
 intro I X hI hX
 refine orcL ?_;go_invoke;refine orcS (by kernel_rfl) ?_
 simp only [zl,Nat.reduceAdd];subst hI;simp only [nrmA,nrmB,nrlB,reduceCtorEq];simp only [List.length_replicate,List.take_zero]
 (repeat' (first|refine ja ?_ ?_|intro _))<;>first|omega|exact jb|exact jc ‹False›|skip
 all_goals trivial
def zbi:Know Tryz.prog:=⟨132,Sj,zfV⟩
def zbh:Know Tryz.prog:=⟨132,fun I=>zu I (Sj I),zf zfV⟩
theorem QX {ls:List Str} {i:Nat} (h:i<ls.length):(ls.take (i+1)).flatten=(ls.take i).flatten++ls.getD i []:=by
 rw [jA h,List.flatten_append];simp [h]
theorem Sz (ls:List Str) (i:Nat):(ls.take i).flatten.length≤ls.flatten.length:=by
 have:=congrArg (fun l:List Str=>l.flatten.length) (List.take_append_drop i ls);simp only [List.flatten_append,jk] at this;omega
def ZW (I:Alg):KU
 |[.v (.one (.p (.list .bytes ls)))],[]=>(fun(ls:List Str)=>(some (.one ⟨I.hid (ls.flatten.length≤1000000∧ls.length≤1000),(.ret (.v (.one (.row 0)))),[.row .byte 5 ls.flatten]⟩):Option CT)) ls
 |_,_=>none
theorem zaj:zq Tryz.prog 104 (ZW alg):=by
 intro args hp r h;unfold ZW at h;split at h<;>cases h
 rename_i ls
 revert ls;intro(ls:List Str)
 simp only [CT.Good,zk];intro hneed;obtain⟨hl,hk⟩:=hneed
 refine spH Tryz.func104 (by kernel_rfl) { nils:=[132],keep:=some [0,2,3,5,6,8,9,10,11,25,26,27]} [zbi,zbh] (by kernel_rfl) ?_
 intro I X hI hX
 refine orcL ?_;go_invoke;refine orcS (by kernel_rfl) ?_
 simp only [zl,Nat.reduceAdd]
 refine lpH hI [zbi,zbh] hX [0,3,9,10,11] (fun(g:Nat × Int)=>match g with|(i,a)=>i≤ls.length∧a=(ls.take i).flatten.length) (fun(g:Nat × Int)=>match g with|(i,a)=>⟨[(0,.v (.one (.p (.list .bytes ls)))),(3,.v (.one (.p (.int .i64 a)))),(9,.v (.one (.p (.list .bytes ls)))),(10,.v (.one (.p (.int .i64 ((I.len (α:=List UInt8) ls)))))),(11,.v (.one (.p (.int .i64 i))))],[],36,none⟩) (fun(g:Nat × Int)=>match g with|(i,a)=>ls.length - i) (0,0) (by kernel_rfl) (by kernel_rfl) ?_ ?_
 · exact⟨jL _,by simp⟩
 rintro⟨i,a⟩ ⟨h1,h2⟩ A hA;simp only at hA
 refine orcL ?_;go_invoke;refine orcS (by kernel_rfl) ?_
 simp only [zl,Nat.reduceAdd];have hx:i<ls.length→_:=QX (ls:=ls) (i:=i);have hy:=Sz ls (i+1);have hz:=Sz ls i;refine⟨fun c1=> ?_,fun c1=>⟨?_,?_⟩⟩
 · subst hI
   simp only [nrmA,nrmB] at c1;simp only [nrmA,nrmB]
   have hx:=congrArg List.length (hx (by omega))
   rw [jk] at hx;generalize ls.getD i []=x at *
   (repeat' (first|refine ja ?_ ?_|intro _))<;>first|omega|exact jb|exact jc ‹False›|skip
   exact hA (i+1,_) ⟨by simp only;omega,by simp only;omega⟩ (by simp only;omega)
 · subst hI
   simp only [nrmA,nrmB];omega
 · have hi:i=ls.length:=by
    subst hI;simp only [nrmA,nrmB] at c1;omega
   have hil:(I.hid ([]:Str))=[]:=by subst hI;rfl
   rw [hil]
   refine lpH hI [zbi,zbh] hX [6,25,26,27] (fun(g:Nat × Str)=>match g with|(j,o)=>j≤ls.length∧o=(ls.take j).flatten) (fun(g:Nat × Str)=>match g with|(j,o)=>⟨[(6,.v (.one (.row 0))),(25,.v (.one (.p (.list .bytes ls)))),(26,.v (.one (.p (.int .i64 ((I.len (α:=List UInt8) ls)))))),(27,.v (.one (.p (.int .i64 j))))],[.row .byte 5 o],36,none⟩) (fun(g:Nat × Str)=>match g with|(j,o)=>ls.length - j) (0,[]) (by kernel_rfl) (by kernel_rfl) ?_ ?_
   · exact⟨jL _,rfl⟩
   rintro⟨j,o⟩ ⟨k1,k2⟩ B hB;simp only at hB
   refine orcL ?_;go_invoke;refine orcS (by kernel_rfl) ?_
   simp only [zl,Nat.reduceAdd];subst hI;simp only [nrmA,nrmB,nrlB,reduceCtorEq];have hx:j<ls.length→_:=QX (ls:=ls) (i:=j);have hy:=Sz ls (j+1);have hz:=Sz ls j
   have hw: ¬ j<ls.length→o=ls.flatten:=fun h=>by rw [k2,jq (by omega)]
   rw [k2] at hw ⊢
   refine⟨fun c=> ?_,fun c=>hw (by omega)⟩
   have hx:=hx (by omega)
   rw [← hx];have hx2:=congrArg List.length hx;rw [jk] at hx2;generalize ls.getD j []=x at *
   (repeat' (first|refine ja ?_ ?_|intro _))<;>first|omega|exact jb|exact jc ‹False›|skip
   exact hB (j+1,(ls.take (j+1)).flatten) ⟨by simp only;omega,rfl⟩ (by simp only;omega)
def zgs:Know Tryz.prog:=⟨104,ZW,zaj⟩
def zgr:Know Tryz.prog:=⟨104,fun I=>zu I (ZW I),zf zaj⟩
theorem qL {l:List Upl} {n:Int} (h:zM l n):l.length≤1000000∧yH l≤1000000:=by
 have:=h.cnt;have:=h.tot;omega
def rP (I:Alg):KU
 |[.v (.one (.ptr 0 0)),.v (.one (.p (.int .i64 size))),.v (.one (.p (.str m)))],[.pack [.obj 90 [.row 1,.p (.int .i64 n)],.row .upl 67 l]]=>(fun(l:List Upl) (m:Str)=>(some (.one ⟨I.hid (zM l n∧n≤1000000∧m.length≤1000000),(.ret (.tup [.one (.p (.int .i64 (I.hid (creI l n size m)))),.one (.p (.int .i64 (I.hid (creC l size m))))])),[.pack [.obj 90 [.row 1,.p (.int .i64 (I.hid (creN l n size m)))],.row .upl 67 (I.hid (creL l n size m))]]⟩):Option CT)) l m
 |_,_=>none
theorem V9:zq Tryz.prog 71 (rP alg):=by
 intro args hp r h;unfold rP at h;split at h<;>cases h
 rename_i size m n l
 revert l;intro(l:List Upl)
 simp only [CT.Good,zk];intro hneed;obtain⟨hs,hn,hm⟩:=hneed;have hc:=hs.cnt;have h0:=hs.n0;generalize hi:creI l n size m=ri;generalize he:creC l size m=re;generalize hl:creL l n size m=rl;generalize hN:creN l n size m=rn
 refine spH Tryz.func71 (by kernel_rfl) { VA with keep:=some [0,1,2,6,7]} [YN,YM,zh0,zhZ] (by kernel_rfl) ?_
 intro I X hI hX
 refine orcL ?_;go_invoke;refine orcS (by kernel_rfl) ?_
 simp only [zl,Nat.reduceAdd];subst hI;simp only [nrmA,nrmB,nrlB,reduceCtorEq,HO.pack.injEq,HO.obj.injEq];unfold creI at hi;unfold creL at hl;unfold creN at hN;rw [he] at hi hl hN;unfold creC at he;simp only [jh,ji]
 (repeat' (first|refine ja ?_ ?_|intro _))<;>first|omega|exact jb|exact jc ‹False›|skip
 all_goals((repeat(first|rewrite [if_pos (by first|omega|assumption|(simp only [*,or_self,or_true,true_or,or_false,false_or,jf,jg,jd,je,and_self,and_true,true_and];done)|(simp only [*];omega)|(simp [*];done)|(simp [*];omega))] at he|rewrite [if_neg (by first|omega|assumption|(simp only [*,or_self,or_true,true_or,or_false,false_or,jf,jg,jd,je,and_self,and_true,true_and];done)|(simp only [*];omega)|(simp [*];done)|(simp [*];omega))] at he));subst he;((repeat(first|rewrite [if_pos (by first|omega|assumption|(simp only [*,or_self,or_true,true_or,or_false,false_or,jf,jg,jd,je,and_self,and_true,true_and];done)|(simp only [*];omega)|(simp [*];done)|(simp [*];omega))] at hi|rewrite [if_neg (by first|omega|assumption|(simp only [*,or_self,or_true,true_or,or_false,false_or,jf,jg,jd,je,and_self,and_true,true_and];done)|(simp only [*];omega)|(simp [*];done)|(simp [*];omega))] at hi)));((repeat(first|rewrite [if_pos (by first|omega|assumption|(simp only [*,or_self,or_true,true_or,or_false,false_or,jf,jg,jd,je,and_self,and_true,true_and];done)|(simp only [*];omega)|(simp [*];done)|(simp [*];omega))] at hl|rewrite [if_neg (by first|omega|assumption|(simp only [*,or_self,or_true,true_or,or_false,false_or,jf,jg,jd,je,and_self,and_true,true_and];done)|(simp only [*];omega)|(simp [*];done)|(simp [*];omega))] at hl)));((repeat(first|rewrite [if_pos (by first|omega|assumption|(simp only [*,or_self,or_true,true_or,or_false,false_or,jf,jg,jd,je,and_self,and_true,true_and];done)|(simp only [*];omega)|(simp [*];done)|(simp [*];omega))] at hN|rewrite [if_neg (by first|omega|assumption|(simp only [*,or_self,or_true,true_or,or_false,false_or,jf,jg,jd,je,and_self,and_true,true_and];done)|(simp only [*];omega)|(simp [*];done)|(simp [*];omega))] at hN)));subst hi;subst hl;subst hN;first|rfl|omega)
def zdN:Know Tryz.prog:=⟨71,rP,V9⟩
def zdM:Know Tryz.prog:=⟨71,fun I=>zu I (rP I),zf V9⟩
def rQ (I:Alg):KU
 |[.v (.one (.ptr 0 0)),.v (.one (.p (.int .i64 id))),.v (.one (.p (.int .i64 off))),.v (.one (.p (.list .byte b)))],[.pack [.obj 90 [.row 1,.p (.int .i64 n)],.row .upl 67 l]]=>(fun(l:List Upl) (b:Str)=>(some (.one ⟨I.hid (zM l n∧b.length≤1000000),(.ret (.v (.one (.p (.int .i64 (I.hid (appC l id off b))))))),[.pack [.obj 90 [.row 1,.p (.int .i64 n)],.row .upl 67 (I.hid (appL l id off b))]]⟩):Option CT)) l b
 |_,_=>none
theorem Uc:zq Tryz.prog 72 (rQ alg):=by
 intro args hp r h;unfold rQ at h;split at h<;>cases h
 rename_i id off b n l
 revert l;intro(l:List Upl)
 simp only [CT.Good,zk];intro hneed;obtain⟨hs,hb⟩:=hneed;have hf:=qL hs;generalize he:appC l id off b=re;generalize hl:appL l id off b=rl
 refine spH Tryz.func72 (by kernel_rfl) { VA with bare:=[66,103],keep:=some [0,1,2,3,8,9,10,11]} [Ub,Ua,zeY,zeX,zhd,zhc,zgs,zgr] (by kernel_rfl) ?_
 intro I X hI hX
 refine orcL ?_;go_invoke;refine orcS (by kernel_rfl) ?_
 simp only [zl,Nat.reduceAdd];subst hI;simp only [nrmA,nrmB,nrlB,reduceCtorEq,HO.pack.injEq,HO.obj.injEq];unfold appL at hl;rw [he] at hl;unfold appC at he;unfold zS upl0 at he hl;simp only [List.flatten_cons,List.flatten_nil,List.append_nil,jk,jh,ji];have hx:atU l id<l.length→_:=fun h=>hs.each _ (yV h);unfold zS upl0 at hx;generalize l.getD (atU l id) ⟨0,0,[],[],0⟩=x at *;have hu0:=tX l;have hb1:=fun h=>(hx h).bl;have hb2:=fun h=>(hx h).s1;have hb3:=fun h=>(hx h).s2
 (repeat' (first|refine ja ?_ ?_|intro _))<;>first|omega|exact jb|exact jc ‹False›|skip
 all_goals first
  |(have:=hb1 (by omega);have:=hb2 (by omega);have:=hb3 (by omega);omega)
  |exact hf.1
  |exact hf.2
  |((repeat(first|rewrite [if_pos (by first|omega|assumption|(simp only [*,or_self,or_true,true_or,or_false,false_or,jf,jg,jd,je,and_self,and_true,true_and];done)|(simp only [*];omega)|(simp [*];done)|(simp [*];omega))] at he|rewrite [if_neg (by first|omega|assumption|(simp only [*,or_self,or_true,true_or,or_false,false_or,jf,jg,jd,je,and_self,and_true,true_and];done)|(simp only [*];omega)|(simp [*];done)|(simp [*];omega))] at he));subst he;((repeat(first|rewrite [if_pos (by first|omega|assumption|(simp only [*,or_self,or_true,true_or,or_false,false_or,jf,jg,jd,je,and_self,and_true,true_and];done)|(simp only [*];omega)|(simp [*];done)|(simp [*];omega))] at hl|rewrite [if_neg (by first|omega|assumption|(simp only [*,or_self,or_true,true_or,or_false,false_or,jf,jg,jd,je,and_self,and_true,true_and];done)|(simp only [*];omega)|(simp [*];done)|(simp [*];omega))] at hl)));subst hl;first|rfl|omega)
def zdP:Know Tryz.prog:=⟨72,rQ,Uc⟩
def zdO:Know Tryz.prog:=⟨72,fun I=>zu I (rQ I),zf Uc⟩
end Go.Proofs.YtcclfkakcgnacaaGreatDoor
namespace Go.Proofs.YtcclfkakcgnacaaGreatDoor
open Go Go.Sep Go.Ab
set_option maxRecDepth 100000
def uG (I:Alg):KU
 |[.v (.one (.ptr 0 0)),.v (.one (.p (.int .i64 id))),.v (.one (.p (.int .i64 size)))],[.pack [.obj 90 [.row 1,.p (.int .i64 n)],.row .upl 67 l]]=>(fun(l:List Upl)=>(some (.one ⟨I.hid (zM l n),(.ret (.v (.one (.p (.int .i64 (I.hid (decC l id size))))))),[.pack [.obj 90 [.row 1,.p (.int .i64 n)],.row .upl 67 (I.hid (decL l id size))]]⟩):Option CT)) l
 |_,_=>none
theorem WG:zq Tryz.prog 73 (uG alg):=by
 intro args hp r h;unfold uG at h;split at h<;>cases h
 rename_i id size n l
 revert l;intro(l:List Upl)
 simp only [CT.Good,zk];intro hneed;have hs:=hneed;have hf:=qL hs;generalize he:decC l id size=re;generalize hl:decL l id size=rl
 refine spH Tryz.func73 (by kernel_rfl) { VA with bare:=[66],keep:=some [0,1,2,6,7,8]} [Ub,Ua] (by kernel_rfl) ?_
 intro I X hI hX
 refine orcL ?_;go_invoke;refine orcS (by kernel_rfl) ?_
 simp only [zl,Nat.reduceAdd];subst hI;simp only [nrmA,nrmB,nrlB,reduceCtorEq,HO.pack.injEq,HO.obj.injEq];unfold decL at hl;rw [he] at hl;unfold decC at he;unfold zS upl0 at he hl;generalize l.getD (atU l id) ⟨0,0,[],[],0⟩=x at *
 (repeat' (first|refine ja ?_ ?_|intro _))<;>first|omega|exact jb|exact jc ‹False›|skip
 all_goals first
  |exact hf.1
  |((repeat(first|rewrite [if_pos (by first|omega|assumption|(simp only [*,or_self,or_true,true_or,or_false,false_or,jf,jg,jd,je,and_self,and_true,true_and];done)|(simp only [*];omega)|(simp [*];done)|(simp [*];omega))] at he|rewrite [if_neg (by first|omega|assumption|(simp only [*,or_self,or_true,true_or,or_false,false_or,jf,jg,jd,je,and_self,and_true,true_and];done)|(simp only [*];omega)|(simp [*];done)|(simp [*];omega))] at he));subst he;((repeat(first|rewrite [if_pos (by first|omega|assumption|(simp only [*,or_self,or_true,true_or,or_false,false_or,jf,jg,jd,je,and_self,and_true,true_and];done)|(simp only [*];omega)|(simp [*];done)|(simp [*];omega))] at hl|rewrite [if_neg (by first|omega|assumption|(simp only [*,or_self,or_true,true_or,or_false,false_or,jf,jg,jd,je,and_self,and_true,true_and];done)|(simp only [*];omega)|(simp [*];done)|(simp [*];omega))] at hl)));subst hl;first|rfl|omega)
def zaO:Know Tryz.prog:=⟨73,uG,WG⟩
def zaN:Know Tryz.prog:=⟨73,fun I=>zu I (uG I),zf WG⟩
def Xc (I:Alg):KU
 |[.v (.agg [.p (.int .i64 a),.p (.int .i64 b),.p (.str m),.p (.list .byte y),.p (.int .i64 t)])],[]=>(fun(m y:Str)=>(some (.one ⟨I.hid (True),(.ret (.v (.one (.p (.bool (I.hid (b == (y.length:Int)))))))),[]⟩):Option CT)) m y
 |_,_=>none
theorem zbH:zq Tryz.prog 107 (Xc alg):=by
 intro args hp r h;unfold Xc at h;split at h<;>cases h
 rename_i a b m y t;simp only [CT.Good,zk];intro _
 refine spH Tryz.func107 (by kernel_rfl) { keep:=some [0,1,2]} [] (by kernel_rfl) ?_
 intro I X hI hX
 refine orcL ?_;go_invoke;refine orcS (by kernel_rfl) ?_
 simp only [zl,Nat.reduceAdd];subst hI;simp only [nrmA,nrmB]
 try trivial
def zgX:Know Tryz.prog:=⟨107,Xc,zbH⟩
def zgW:Know Tryz.prog:=⟨107,fun I=>zu I (Xc I),zf zbH⟩
def Zx (I:Alg):KU
 |[.v (.one (.ptr 0 0)),.v (.one (.p (.int .i64 id)))],[.pack [.obj 90 [.row 1,.p (.int .i64 n)],.row .upl 67 l]]=>(fun(l:List Upl)=>(some (.one ⟨I.hid (zM l n),(.ret (.v (.one (.p (.int .i64 (I.hid (begC l id))))))),[.pack [.obj 90 [.row 1,.p (.int .i64 n)],.row .upl 67 (I.hid (begL l id))]]⟩):Option CT)) l
 |_,_=>none
theorem RV:zq Tryz.prog 75 (Zx alg):=by
 intro args hp r h;unfold Zx at h;split at h<;>cases h
 rename_i id n l
 revert l;intro(l:List Upl)
 simp only [CT.Good,zk];intro hneed;have hs:=hneed;have hf:=qL hs;generalize he:begC l id=re;generalize hl:begL l id=rl
 refine spH Tryz.func75 (by kernel_rfl) { VA with bare:=[66],keep:=some [0,1,4,5,6]} [Ub,Ua,zgX,zgW] (by kernel_rfl) ?_
 intro I X hI hX
 refine orcL ?_;go_invoke;refine orcS (by kernel_rfl) ?_
 simp only [zl,Nat.reduceAdd];subst hI;simp only [nrmA,nrmB,nrlB,reduceCtorEq,HO.pack.injEq,HO.obj.injEq];unfold begL at hl;rw [he] at hl;unfold begC at he;unfold zS upl0 at he hl;generalize l.getD (atU l id) ⟨0,0,[],[],0⟩=x at *
 (repeat' (first|refine ja ?_ ?_|intro _))<;>first|omega|exact jb|exact jc ‹False›|skip
 all_goals first
  |exact hf.1
  |((repeat(first|rewrite [if_pos (by first|omega|assumption|(simp only [*,or_self,or_true,true_or,or_false,false_or,jf,jg,jd,je,and_self,and_true,true_and];done)|(simp only [*];omega)|(simp [*];done)|(simp [*];omega))] at he|rewrite [if_neg (by first|omega|assumption|(simp only [*,or_self,or_true,true_or,or_false,false_or,jf,jg,jd,je,and_self,and_true,true_and];done)|(simp only [*];omega)|(simp [*];done)|(simp [*];omega))] at he));subst he;((repeat(first|rewrite [if_pos (by first|omega|assumption|(simp only [*,or_self,or_true,true_or,or_false,false_or,jf,jg,jd,je,and_self,and_true,true_and];done)|(simp only [*];omega)|(simp [*];done)|(simp [*];omega))] at hl|rewrite [if_neg (by first|omega|assumption|(simp only [*,or_self,or_true,true_or,or_false,false_or,jf,jg,jd,je,and_self,and_true,true_and];done)|(simp only [*];omega)|(simp [*];done)|(simp [*];omega))] at hl)));subst hl;first|rfl|omega)
def ze5:Know Tryz.prog:=⟨75,Zx,RV⟩
def ze4:Know Tryz.prog:=⟨75,fun I=>zu I (Zx I),zf RV⟩
def Td (I:Alg):KU
 |[.v (.one (.ptr 0 0)),.v (.one (.p (.int .i64 id)))],[.pack [.obj 90 [.row 1,.p (.int .i64 n)],.row .upl 67 l]]=>(fun(l:List Upl)=>(some (.one ⟨I.hid (zM l n),(.ret (.v (.one (.p (.int .i64 (I.hid (endC l id))))))),[.pack [.obj 90 [.row 1,.p (.int .i64 n)],.row .upl 67 (I.hid (endL l id))]]⟩):Option CT)) l
 |_,_=>none
theorem ze3:zq Tryz.prog 76 (Td alg):=by
 intro args hp r h;unfold Td at h;split at h<;>cases h
 rename_i id n l
 revert l;intro(l:List Upl)
 simp only [CT.Good,zk];intro hneed;have hs:=hneed;have hf:=qL hs;generalize he:endC l id=re;generalize hl:endL l id=rl
 refine spH Tryz.func76 (by kernel_rfl) { VA with bare:=[66],keep:=some [0,1,4,5,6]} [Ub,Ua] (by kernel_rfl) ?_
 intro I X hI hX
 refine orcL ?_;go_invoke;refine orcS (by kernel_rfl) ?_
 simp only [zl,Nat.reduceAdd];subst hI;simp only [nrmA,nrmB,nrlB,reduceCtorEq,HO.pack.injEq,HO.obj.injEq];unfold endL at hl;rw [he] at hl;unfold endC at he;unfold zS upl0 at he hl;generalize l.getD (atU l id) ⟨0,0,[],[],0⟩=x at *
 (repeat' (first|refine ja ?_ ?_|intro _))<;>first|omega|exact jb|exact jc ‹False›|skip
 all_goals first
  |exact hf.1
  |((repeat(first|rewrite [if_pos (by first|omega|assumption|(simp only [*,or_self,or_true,true_or,or_false,false_or,jf,jg,jd,je,and_self,and_true,true_and];done)|(simp only [*];omega)|(simp [*];done)|(simp [*];omega))] at he|rewrite [if_neg (by first|omega|assumption|(simp only [*,or_self,or_true,true_or,or_false,false_or,jf,jg,jd,je,and_self,and_true,true_and];done)|(simp only [*];omega)|(simp [*];done)|(simp [*];omega))] at he));subst he;((repeat(first|rewrite [if_pos (by first|omega|assumption|(simp only [*,or_self,or_true,true_or,or_false,false_or,jf,jg,jd,je,and_self,and_true,true_and];done)|(simp only [*];omega)|(simp [*];done)|(simp [*];omega))] at hl|rewrite [if_neg (by first|omega|assumption|(simp only [*,or_self,or_true,true_or,or_false,false_or,jf,jg,jd,je,and_self,and_true,true_and];done)|(simp only [*];omega)|(simp [*];done)|(simp [*];omega))] at hl)));subst hl;first|rfl|omega)
def ziT:Know Tryz.prog:=⟨76,Td,ze3⟩
def ziS:Know Tryz.prog:=⟨76,fun I=>zu I (Td I),zf ze3⟩
def XA (I:Alg):KU
 |[.v (.one (.ptr 0 0))],[.pack [.obj 90 [.row 1,.p (.int .i64 n)],.row .upl 67 l]]=>(fun(l:List Upl)=>(some (.one ⟨I.hid (0≤n∧n≤1000000),(.ret (.v (.one (.p (.int .i64 (I.hid (n+1))))))),[.pack [.obj 90 [.row 1,.p (.int .i64 n)],.row .upl 67 l]]⟩):Option CT)) l
 |_,_=>none
theorem zca:zq Tryz.prog 18 (XA alg):=by
 intro args hp r h;unfold XA at h;split at h<;>cases h
 rename_i n l
 revert l;intro(l:List Upl)
 simp only [CT.Good,zk];intro hneed
 refine spH Tryz.func18 (by kernel_rfl) { VA with keep:=some [0,2]} [] (by kernel_rfl) ?_
 intro I X hI hX
 refine orcL ?_;go_invoke;refine orcS (by kernel_rfl) ?_
 simp only [zl,Nat.reduceAdd];subst hI;simp only [nrmA,nrmB]
 (repeat' (first|refine ja ?_ ?_|intro _))<;>first|omega|exact jb|exact jc ‹False›|skip
def zhf:Know Tryz.prog:=⟨18,XA,zca⟩
def zhe:Know Tryz.prog:=⟨18,fun I=>zu I (XA I),zf zca⟩
def U9 (I:Alg):KU
 |[],[]=>some (.one ⟨I.hid (True),(.ret (.v (.one (.ptr 0 0)))),[.pack [.obj 90 [.row 1,.p (.int .i64 0)],.row .upl 67 (I.hid ([]))]]⟩)
 |_,_=>none
theorem ze0:zq Tryz.prog 25 (U9 alg):=by
 intro args hp r h;unfold U9 at h;split at h<;>cases h
 simp only [CT.Good,zk];intro _
 refine spH Tryz.func25 (by kernel_rfl) { VA with keep:=some [0]} [] (by kernel_rfl) ?_
 intro I X hI hX
 refine orcL ?_;go_invoke;refine orcS (by kernel_rfl) ?_
 simp only [zl,Nat.reduceAdd];trivial
def zaM:Know Tryz.prog:=⟨25,U9,ze0⟩
def zaL:Know Tryz.prog:=⟨25,fun I=>zu I (U9 I),zf ze0⟩
def getB (l:List Upl) (id:Int):Bool:=decide (atU l id<l.length)
def getU (l:List Upl) (id:Int):Upl:=if atU l id<l.length then zS l id else upl0
theorem zh7 (l:List Upl) (n id:Int) (hneed:zM l n):Spc Tryz.prog 41 [.v (.one (.ptr 0 0)),.v (.one (.p (.int .i64 id)))] [.obj 90 [.row 1,.p (.int .i64 n)],.row .upl 67 l] (.ret (.tup [.agg [.p (.int .i64 ((getU l id).id)),.p (.int .i64 ((getU l id).size)),.p (.str ((getU l id).note)),.p (.list .byte ((getU l id).bytes)),.p (.int .i64 ((getU l id).sent))],.one (.p (.bool ((getB l id))))])) [.obj 90 [.row 1,.p (.int .i64 n)],.row .upl 67 l]:=by
 have hs:=hneed;have hf:=qL hs;generalize he:getU l id=re;obtain⟨a,b,c,d,e⟩:=re;generalize hl:getB l id=rl
 refine spH Tryz.func41 (by kernel_rfl) { VA with flat:=true,bare:=[66],keep:=some [0,1,4,5,6,7,8]} [X4,X3,Ub,Ua] (by kernel_rfl) ?_
 intro I X hI hX
 refine orcL ?_;go_invoke;refine orcS (by kernel_rfl) ?_
 simp only [zl,Nat.reduceAdd];subst hI;simp only [nrmA,nrmB,nrlB,reduceCtorEq];unfold getU at he;unfold getB at hl;unfold zS upl0 at he;have hx:atU l id<l.length→_:=fun h=>(hs.each _ (yV h)).bl;unfold zS upl0 at hx;generalize l.getD (atU l id) ⟨0,0,[],[],0⟩=x at *
 by_cases h:atU l id<l.length
 · rw [if_pos h] at he
   rw [decide_eq_true h] at hl;subst he;subst hl;have hx:=hx h
   (repeat' (first|refine ja ?_ ?_|intro _))<;>first|omega|exact jb|exact jc ‹False›|skip
   all_goals first|exact hf.1|rfl
 · rw [if_neg h] at he
   rw [decide_eq_false h] at hl;cases he;subst hl
   (repeat' (first|refine ja ?_ ?_|intro _))<;>first|omega|exact jb|exact jc ‹False›|skip
   all_goals first|exact hf.1|rfl|assumption
def XE (I:Alg):KU
 |[.v (.one (.ptr 0 0)),.v (.one (.p (.int .i64 id)))],[.obj 90 [.row 1,.p (.int .i64 n)],.row .upl 67 l]=>(fun(l:List Upl)=>(some (.one ⟨I.hid (zM l n),(.ret (.tup [.agg [.p (.int .i64 (I.hid ((getU l id).id))),.p (.int .i64 (I.hid ((getU l id).size))),.p (.str (I.hid ((getU l id).note))),.p (.list .byte (I.hid ((getU l id).bytes))),.p (.int .i64 (I.hid ((getU l id).sent)))],.one (.p (.bool (I.hid (getB l id))))])),[.obj 90 [.row 1,.p (.int .i64 n)],.row .upl 67 l]⟩):Option CT)) l
 |_,_=>none
theorem zcc:zq Tryz.prog 41 (XE alg):=by
 intro args hp r h;unfold XE at h
 split at h
 · cases h;exact fun hn=>zh7 _ _ _ hn
 · cases h
def rO:Know Tryz.prog:=⟨41,XE,zcc⟩
def rM:Know Tryz.prog:=⟨41,fun I=>zu I (XE I),zf zcc⟩
theorem zkZ (l:List Upl) (n id:Int) (hneed:zM l n):Spc Tryz.prog 41 [.v (.one (.ptr 0 0)),.v (.one (.p (.int .i64 id)))] [.pack [.obj 90 [.row 1,.p (.int .i64 n)],.row .upl 67 l]] (.ret (.tup [.agg [.p (.int .i64 ((getU l id).id)),.p (.int .i64 ((getU l id).size)),.p (.str ((getU l id).note)),.p (.list .byte ((getU l id).bytes)),.p (.int .i64 ((getU l id).sent))],.one (.p (.bool ((getB l id))))])) [.pack [.obj 90 [.row 1,.p (.int .i64 n)],.row .upl 67 l]]:=
 Spc.packed (ex:=[]) (zh7 l n id hneed) rfl (by simp) rfl
def Tc (I:Alg):KU
 |[.v (.one (.ptr 0 0)),.v (.one (.p (.int .i64 id)))],[.pack [.obj 90 [.row 1,.p (.int .i64 n)],.row .upl 67 l]]=>(fun(l:List Upl)=>(some (.one ⟨I.hid (zM l n),(.ret (.tup [.agg [.p (.int .i64 (I.hid ((getU l id).id))),.p (.int .i64 (I.hid ((getU l id).size))),.p (.str (I.hid ((getU l id).note))),.p (.list .byte (I.hid ((getU l id).bytes))),.p (.int .i64 (I.hid ((getU l id).sent)))],.one (.p (.bool (I.hid (getB l id))))])),[.pack [.obj 90 [.row 1,.p (.int .i64 n)],.row .upl 67 l]]⟩):Option CT)) l
 |_,_=>none
theorem ze2:zq Tryz.prog 41 (Tc alg):=by
 intro args hp r h;unfold Tc at h
 split at h
 · cases h;exact fun hn=>zkZ _ _ _ hn
 · cases h
def Yg:Know Tryz.prog:=⟨41,Tc,ze2⟩
def Yf:Know Tryz.prog:=⟨41,fun I=>zu I (Tc I),zf ze2⟩
theorem zjn {l:List Upl} (h:l.Pairwise fun a b=>a.id<b.id) {i:Nat} (hi:i<l.length):getU l (l.getD i ⟨0,0,[],[],0⟩).id=l.getD i ⟨0,0,[],[],0⟩:=by
 have e:l.getD i ⟨0,0,[],[],0⟩=l[i]:=by simp [hi]
 have ha:=zkP h hi;rw [e,getU,ha,if_pos hi,zS,ha]
 simp [hi]
theorem ze1 (l:List Upl) (n:Int) (hneed:zM l n):Spc Tryz.prog 15 [.v (.one (.ptr 0 0))] [.obj 90 [.row 1,.p (.int .i64 n)],.row .upl 67 l] (.ret (.v (.one (.row 2)))) [.obj 90 [.row 1,.p (.int .i64 n)],.row .upl 67 l,.row .upl 67 l]:=by
 have hs:=hneed;have hf:=qL hs
 refine spH Tryz.func15 (by kernel_rfl) { VA with flat:=true,bare:=[41],nr:=[3],keep:=some [0,2,3,5,6,11,12,13]} [rO,rM,Yg,Yf] (by kernel_rfl) ?_
 intro I X hI hX
 refine orcL ?_;go_invoke;refine orcS (by kernel_rfl) ?_
 simp only [zl,Nat.reduceAdd]
 refine lpH hI [rO,rM,Yg,Yf] hX [0,3,11,12,13] (fun(g:Nat × List Upl)=>match g with|(i,o)=>i≤l.length∧o=l.take i) (fun(g:Nat × List Upl)=>match g with|(i,o)=>⟨[(0,.v (.one (.ptr 0 0))),(3,.v (.one (.row 2))),(11,.v (.one (.row 1))),(12,.v (.one (.p (.int .i64 ((I.len (α:=Upl) l)))))),(13,.v (.one (.p (.int .i64 i))))],[.obj 90 [.row 1,.p (.int .i64 n)],.row .upl 67 l,.row .upl 67 o],30,none⟩) (fun(g:Nat × List Upl)=>match g with|(i,o)=>l.length - i) (0,[]) (by kernel_rfl) (by kernel_rfl) ?_ ?_
 · exact⟨jL _,rfl⟩
 rintro⟨i,o⟩ ⟨h1,h2⟩ A hA;simp only at hA
 refine orcL ?_;go_invoke;refine orcS (by kernel_rfl) ?_
 simp only [zl,Nat.reduceAdd];subst hI;simp only [nrmA,nrmB,nrlB,reduceCtorEq];have hx:i<l.length→_:=zjn hs.srt
 have hy:i<l.length→l.take (i+1)=l.take i++[l.getD i ⟨0,0,[],[],0⟩]:=fun h=>by rw [jA h];simp [h]
 have hw: ¬ i<l.length→o=l:=fun h=>by rw [h2,jq (by omega)]
 have hol:o.length≤i:=by rw [h2,jr];omega
 refine⟨fun c=> ?_,fun c=>hw (by omega)⟩
 rw [hx (by omega)]
 have hy:=hy (by omega)
 generalize l.getD i ⟨0,0,[],[],0⟩=x at *;simp only [jh,ji]
 (repeat' (first|refine ja ?_ ?_|intro _))<;>first|omega|exact jb|exact jc ‹False›|skip
 all_goals first
  |exact hs
  |exact hA (i+1,_) ⟨by simp only;omega,by simp only;rw [hy,h2]⟩ (by simp only;omega)
def Zw (I:Alg):KU
 |[.v (.one (.ptr 0 0))],[.obj 90 [.row 1,.p (.int .i64 n)],.row .upl 67 l]=>(fun(l:List Upl)=>(some (.one ⟨I.hid (zM l n),(.ret (.v (.one (.row 2)))),[.obj 90 [.row 1,.p (.int .i64 n)],.row .upl 67 l,.row .upl 67 l]⟩):Option CT)) l
 |_,_=>none
theorem RU:zq Tryz.prog 15 (Zw alg):=by
 intro args hp r h;unfold Zw at h
 split at h
 · cases h;exact fun hn=>ze1 _ _ hn
 · cases h
def Zv:Know Tryz.prog:=⟨15,Zw,RU⟩
def Zu:Know Tryz.prog:=⟨15,fun I=>zu I (Zw I),zf RU⟩
theorem zjY (l:List Upl) (n:Int) (hneed:zM l n):Spc Tryz.prog 15 [.v (.one (.ptr 0 0))] [.pack [.obj 90 [.row 1,.p (.int .i64 n)],.row .upl 67 l]] (.ret (.v (.one (.row 1)))) [.pack [.obj 90 [.row 1,.p (.int .i64 n)],.row .upl 67 l],.row .upl 67 l]:=
 Spc.packed (os':=[_,_]) (ex:=[_]) (ze1 l n hneed) rfl (by simp) rfl
def XD (I:Alg):KU
 |[.v (.one (.ptr 0 0))],[.pack [.obj 90 [.row 1,.p (.int .i64 n)],.row .upl 67 l]]=>(fun(l:List Upl)=>(some (.one ⟨I.hid (zM l n),(.ret (.v (.one (.row 1)))),[.pack [.obj 90 [.row 1,.p (.int .i64 n)],.row .upl 67 l],.row .upl 67 l]⟩):Option CT)) l
 |_,_=>none
theorem zcb:zq Tryz.prog 15 (XD alg):=by
 intro args hp r h;unfold XD at h
 split at h
 · cases h;exact fun hn=>zjY _ _ hn
 · cases h
def XC:Know Tryz.prog:=⟨15,XD,zcb⟩
def XB:Know Tryz.prog:=⟨15,fun I=>zu I (XD I),zf zcb⟩
def XG (I:Alg):KU
 |[.v (.one (.ptr 0 0))],[.pack [.obj 90 [.row 1,.p (.int .i64 n)],.row .upl 67 l]]=>(fun(l:List Upl)=>(some (.one ⟨I.hid (zM l n),(.ret (.v (.one (.ptr 1 0)))),[.pack [.obj 90 [.row 1,.p (.int .i64 n)],.row .upl 67 l],.pack [.obj 90 [.row 1,.p (.int .i64 n)],.row .upl 67 l]]⟩):Option CT)) l
 |_,_=>none
theorem zce:zq Tryz.prog 115 (XG alg):=by
 intro args hp r h;unfold XG at h;split at h<;>cases h
 rename_i n l
 revert l;intro(l:List Upl)
 simp only [CT.Good,zk];intro hneed
 refine spH Tryz.func115 (by kernel_rfl) { VA with keep:=some [0,2]} [Zv,Zu,XC,XB] (by kernel_rfl) ?_
 intro I X hI hX
 refine orcL ?_;go_invoke;refine orcS (by kernel_rfl) ?_
 simp only [zl,Nat.reduceAdd];subst hI;simp only [nrmA,nrmB,nrlB,reduceCtorEq,HO.pack.injEq,HO.obj.injEq];exact⟨hneed,hneed⟩
def zhj:Know Tryz.prog:=⟨115,XG,zce⟩
def zhi:Know Tryz.prog:=⟨115,fun I=>zu I (XG I),zf zce⟩
def Xo (I:Alg):KU
 |[.v (.agg [.p (.int .i64 a),.p (.int .i64 b),.p (.str m),.p (.list .byte y),.p (.int .i64 t)]),.v (.one (.ptr 0 0))],[.pack [.obj 3 [.p (.int .i64 d)]]]=>(fun(m y:Str)=>(some (.one ⟨I.hid (True),(.ret (.v (.one (.p (.bool (I.hid (a == d))))))),[.pack [.obj 3 [.p (.int .i64 d)]]]⟩):Option CT)) m y
 |_,_=>none
theorem zb0:zq Tryz.prog 106 (Xo alg):=by
 intro args hp r h;unfold Xo at h;split at h<;>cases h
 rename_i a b m y t d;simp only [CT.Good,zk];intro _
 refine spH Tryz.func106 (by kernel_rfl) { keep:=some [0,1,2,3]} [] (by kernel_rfl) ?_
 intro I X hI hX
 refine orcL ?_;go_invoke;refine orcS (by kernel_rfl) ?_
 simp only [zl,Nat.reduceAdd];subst hI;simp only [nrmA,nrmB,nrlB,reduceCtorEq,HO.pack.injEq,HO.obj.injEq]
def Zq:Know Tryz.prog:=⟨106,Xo,zb0⟩
def zg7:Know Tryz.prog:=⟨106,fun I=>zu I (Xo I),zf zb0⟩
def Xn (I:Alg):KU
 |[.v (.one (.p (.list .upl l))),.v (.one (.fn 106 [.ptr 0 0]))],[.pack [.obj 3 [.p (.int .i64 d)]]]=>(fun(l:List Upl)=>(some (.one ⟨I.hid (l.length≤1000000),(.ret (.v (.one (.p (.int .i64 (I.hid (ixU l d))))))),[.pack [.obj 3 [.p (.int .i64 d)]]]⟩):Option CT)) l
 |_,_=>none
theorem zbZ:zq Tryz.prog 97 (Xn alg):=by
 intro args hp r h;unfold Xn at h;split at h<;>cases h
 rename_i l d
 revert l;intro(l:List Upl)
 simp only [CT.Good,zk];intro hneed
 refine spH Tryz.func97 (by kernel_rfl) { keep:=some [0,1,4,5,7,8]} [Zq,Yc,Yb] (by kernel_rfl) ?_
 intro I X hI hX
 refine orcL ?_;go_invoke;refine orcS (by kernel_rfl) ?_
 simp only [zl,Nat.reduceAdd]
 refine lpH hI [Zq,Yc,Yb] hX [0,1,7,8] (fun(i:Nat)=>i≤l.length∧i≤atU l d) (fun(i:Nat)=>⟨[(0,.v (.one (.p (.list .upl l)))),(1,.v (.one (.fn 106 [.ptr 0 0]))),(7,.v (.one (.p (.int .i64 ((I.len (α:=Upl) l)))))),(8,.v (.one (.p (.int .i64 i))))],[.pack [.obj 3 [.p (.int .i64 d)]]],19,none⟩) (fun(i:Nat)=>l.length - i) 0 (by kernel_rfl) (by kernel_rfl) ?_ ?_
 · exact⟨jL _,jL _⟩
 rintro i ⟨h1,h2⟩ A hA
 refine orcL ?_;go_invoke;refine orcS (by kernel_rfl) ?_
 simp only [zl,Nat.reduceAdd];subst hI;simp only [nrmA,nrmB];have hx:=fun h=>zdx (l:=l) (id:=d) (i:=i) h h2;have hle:=zgA l d;have e0:(⟨0,0,[],[],0⟩:Upl)=upl0:=rfl;simp only [e0];unfold ixU
 (repeat' (first|refine ja ?_ ?_|intro _))<;>first|omega|exact jb|exact jc ‹False›|skip
 all_goals first
  |(have h3:=hx (by omega);rw [if_pos (by assumption)] at h3;rw [if_pos (by omega),h3])
  |(have h3:=hx (by omega);rw [if_neg (by assumption)] at h3;exact hA (i+1) ⟨by omega,h3⟩ (by omega))
  |(rw [if_neg (by omega)])
def zbY:Know Tryz.prog:=⟨97,Xn,zbZ⟩
def zbX:Know Tryz.prog:=⟨97,fun I=>zu I (Xn I),zf zbZ⟩
def notU (d:Int) (u:Upl):Bool:= !(u.id == d)
def Xp (I:Alg):KU
 |[.v (.one (.row 0)),.v (.one (.fn 106 [.ptr 1 0]))],[.row .upl 67 l,.pack [.obj 3 [.p (.int .i64 d)]]]=>(fun(l:List Upl)=>(some (.one ⟨I.hid (l.length≤1000000),(.ret (.v (.one (.row 2)))),[.gone,.pack [.obj 3 [.p (.int .i64 d)]],.row .upl 67 (I.hid (l.filter (notU d)))]⟩):Option CT)) l
 |_,_=>none
theorem zb1:zq Tryz.prog 105 (Xp alg):=by
 intro args hp r h;unfold Xp at h;split at h<;>cases h
 rename_i l d
 revert l;intro(l:List Upl)
 simp only [CT.Good,zk];intro hneed
 refine spH Tryz.func105 (by kernel_rfl) { mv:=[0],cut:=[4],keep:=some [0,1,4,5,6,7]} [Zq,Yc,Yb,zbY,zbX] (by kernel_rfl) ?_
 intro I X hI hX
 refine orcL ?_;go_invoke;refine orcS (by kernel_rfl) ?_
 simp only [zl,Nat.reduceAdd]
 have hfd: ∀ i,i≤atU l d→(l.take i).filter (notU d)=l.take i:=fun i hi=>List.filter_eq_self.2 fun u hu=>by
  obtain⟨j,hj⟩:=List.getElem?_of_mem hu;rw [jC] at hj
  split at hj
  · rename_i hji
    obtain⟨hjl,he⟩:=jl.1 hj
    have:=List.not_of_lt_findIdx (p:=fun u:Upl=>u.id == d) (xs:=l) (i:=j) (by unfold atU at hi;omega)
    rw [← he]
    simpa [notU] using this
  · cases hj
 by_cases hk:atU l d<l.length
 · have hix:=zfL hk
   have e1:I.hid (ixU l d)=((atU l d:Nat):Int):=by subst hI;exact hix
   have e2:I.add ((atU l d:Nat):Int) 1=((atU l d+1:Nat):Int):=by subst hI;rfl
   rw [e1,e2]
   have hst:(l.take (atU l d+1)).filter (notU d)=l.take (atU l d):=by
    rw [jA hk,List.filter_append,hfd _ (jK _)];have:=rC hk;rw [y5 hk] at this
    simp [notU,this]
   have hu0:=rC hk;generalize atU l d=k at *
   refine⟨by subst hI;exact hneed,fun h=> ?_,fun _=>⟨by subst hI;rw [Yx,TW,TY];omega,?_⟩⟩
   · subst hI
     simp only [nrmA,nrmB] at h;omega
   refine lpH hI [Zq,Yc,Yb,zbY,zbX] hX [0,1,5,6] (fun(g:Nat × Nat × List Upl)=>match g with|(i,j,c)=>i<j∧j≤l.length∧c.length=l.length∧c.take i=(l.take j).filter (notU d)∧c.drop j=l.drop j) (fun(g:Nat × Nat × List Upl)=>match g with|(i,j,c)=>⟨[(0,.v (.one (.row 2))),(1,.v (.one (.fn 106 [.ptr 1 0]))),(5,.v (.one (.p (.int .i64 i)))),(6,.v (.one (.p (.int .i64 j))))],[.gone,.pack [.obj 3 [.p (.int .i64 d)]],.row .upl 67 c],42,none⟩) (fun(g:Nat × Nat × List Upl)=>match g with|(i,j,c)=>l.length - j) (k,k+1,l) (by kernel_rfl) (by kernel_rfl) ?_ ?_
   · exact⟨by omega,by omega,rfl,hst.symm,rfl⟩
   rintro⟨i,j,c⟩ ⟨h1,h2,h3,h4,h5⟩ A hA;simp only at hA h1 h2 h3 h4 h5
   refine orcL ?_;go_invoke;refine orcS (by kernel_rfl) ?_
   simp only [zl,Nat.reduceAdd];subst hI;simp only [nrmA,nrmB,nrlB,reduceCtorEq]
   have hx:j<l.length→c.getD j ⟨0,0,[],[],0⟩=l.getD j ⟨0,0,[],[],0⟩:=fun h=>by
    have e:=congrArg (fun m:List Upl=>m[0]?) h5;simp only [jF,Nat.add_zero] at e;simp only [jG,e]
   have hf:j<l.length→(l.take (j+1)).filter (notU d)=(l.take j).filter (notU d)++(if notU d (l.getD j ⟨0,0,[],[],0⟩) then [l.getD j ⟨0,0,[],[],0⟩] else []):=fun h=>by
    rw [jA h,List.filter_append]
    simp [h,List.filter_cons]
   have hdr: ∀ c':List Upl,c'.drop j=l.drop j→c'.drop (j+1)=l.drop (j+1):=fun c' h=>by
    have:=congrArg (List.drop 1) h
    simpa [List.drop_drop] using this
   have hend: ¬ j<l.length→c.take i=l.filter (notU d):=fun h=>by rw [h4,jq (by omega)]
   rw [show(c.length:Int)=(l.length:Int) by rw [h3]]
   have hset: ∀ u:Upl,i<c.length→(c.set i u).take (i+1)=c.take i++[u]:=fun u h=>by
    rw [jA (by rw [List.length_set];exact h),List.getElem_set_self,List.take_set_of_le (jK _)]
   have hsd: ∀ u:Upl,(c.set i u).drop j=l.drop j:=fun u=>by rw [List.drop_set_of_lt h1,h5]
   refine⟨fun c1=> ?_,fun c1=> ?_⟩
   · have hj:j<l.length:=by omega
     rw [hx hj];have hf:=hf hj;generalize l.getD j ⟨0,0,[],[],0⟩=x at *
     (repeat' (first|refine ja ?_ ?_|intro _))<;>first|omega|exact jb|exact jc ‹False›|skip
     · rename_i hne
       refine hA (i+1,j+1,c.set i x) ⟨by simp only;omega,by simp only;omega,by simp only [List.length_set];exact h3,?_,hdr _ (hsd x)⟩ (by simp only;omega)
       simp only
       rw [hset x (by omega),hf,if_pos (by simp [notU,hne]),h4]
     · rename_i heq
       refine hA (i,j+1,c) ⟨by simp only;omega,by simp only;omega,h3,?_,hdr _ h5⟩ (by simp only;omega)
       simp only
       rw [hf,if_neg (by simp [notU,heq]),List.append_nil,h4]
   · have he:=hend (by omega)
     have hl:(c.take i).length=i:=by rw [jr];omega
     (repeat' (first|refine ja ?_ ?_|intro _))<;>first|omega|exact jb|exact jc ‹False›|skip
     all_goals first
      |(simp only [jk,jr,List.length_replicate];omega)
      |(rw [List.take_append_of_le_length (by omega),List.take_take,Nat.min_self,he])
 · have hix:=zfM hk
   have e1:I.hid (ixU l d)=(-1:Int):=by subst hI;exact hix
   rw [e1]
   have hall:l.filter (notU d)=l:=by
    have:=hfd l.length (by have:=zgA l d;omega)
    rwa [List.take_length] at this
   rw [hall]
   refine⟨by subst hI;exact hneed,fun _=>⟨trivial,rfl⟩,fun h=> ?_⟩
   subst hI
   simp [alg] at h
def zg9:Know Tryz.prog:=⟨105,Xp,zb1⟩
def zg8:Know Tryz.prog:=⟨105,fun I=>zu I (Xp I),zf zb1⟩
def XF (I:Alg):KU
 |[.v (.one (.ptr 0 0)),.v (.one (.p (.int .i64 id)))],[.pack [.obj 90 [.row 1,.p (.int .i64 n)],.row .upl 67 l]]=>(fun(l:List Upl)=>(some (.one ⟨I.hid (zM l n),(.ret (.v (.one (.p (.int .i64 (I.hid (droC l id))))))),[.pack [.obj 90 [.row 1,.p (.int .i64 n)],.row .upl 67 (I.hid (droL l id))]]⟩):Option CT)) l
 |_,_=>none
theorem zcd:zq Tryz.prog 74 (XF alg):=by
 intro args hp r h;unfold XF at h;split at h<;>cases h
 rename_i id n l
 revert l;intro(l:List Upl)
 simp only [CT.Good,zk];intro hneed;have hs:=hneed;have hf:=qL hs;have hfl:l.filter (notU id)=droL l id:=zf5 hs.srt id;generalize he:droC l id=re;generalize hl:droL l id=rl at hfl
 refine spH Tryz.func74 (by kernel_rfl) { VA with bare:=[66],keep:=some [0,1,3,4,6]} [Ub,Ua,Zq,zg7,zg9,zg8] (by kernel_rfl) ?_
 intro I X hI hX
 refine orcL ?_;go_invoke;refine orcS (by kernel_rfl) ?_
 simp only [zl,Nat.reduceAdd];subst hI;simp only [nrmA,nrmB,nrlB,reduceCtorEq,HO.pack.injEq,HO.obj.injEq];unfold droC at he
 (repeat' (first|refine ja ?_ ?_|intro _))<;>first|omega|exact jb|exact jc ‹False›|skip
 all_goals first
  |exact hf.1
  |exact hfl
  |((repeat(first|rewrite [if_pos (by first|omega|assumption|(simp only [*,or_self,or_true,true_or,or_false,false_or,jf,jg,jd,je,and_self,and_true,true_and];done)|(simp only [*];omega)|(simp [*];done)|(simp [*];omega))] at he|rewrite [if_neg (by first|omega|assumption|(simp only [*,or_self,or_true,true_or,or_false,false_or,jf,jg,jd,je,and_self,and_true,true_and];done)|(simp only [*];omega)|(simp [*];done)|(simp [*];omega))] at he));subst he;rfl)
  |(rw [← hl];unfold droL;rw [List.eraseIdx_of_length_le (by omega)])
def zhh:Know Tryz.prog:=⟨74,XF,zcd⟩
def zhg:Know Tryz.prog:=⟨74,fun I=>zu I (XF I),zf zcd⟩
end Go.Proofs.YtcclfkakcgnacaaGreatDoor
namespace Go.Jrn
open Go Go.Ab
def sevF:Nat→Nat→Str
 |0,u=>[UInt8.ofNat u]
 |f+1,u=>if u<128 then [UInt8.ofNat u] else UInt8.ofNat (u % 128+128)::sevF f (u / 128)
def sev (u:Nat):Str:=sevF 9 u
theorem RJ: ∀ (f u:Nat),u<128 ^ (f+1)→∀ g,f≤g→sevF g u=sevF f u
 | 0,u,h,g,_=>by
   cases g with
   |zero=>rfl
   |succ g=>simp only [sevF];rw [if_pos (by simpa using h)]
 | f +1,u,h,g,hg=>by
   cases g with
   |zero=>omega
   | succ g=>
     rw [sevF,sevF]
     split
     · rfl
     · rw [RJ f (u / 128) (by rw [Nat.div_lt_iff_lt_mul (by omega)];rw [Nat.pow_succ] at h;exact h) g (by omega)]
theorem sD {u:Nat} (h:u<128):sev u=[UInt8.ofNat u]:=by rw [sev,sevF,if_pos h]
theorem U6 {u:Nat} (h:128≤u) (hu:u<128 ^ 9):sev u=UInt8.ofNat (u % 128+128)::sev (u / 128):=by
 rw [sev,sevF,if_neg (by omega),sev,RJ 8 (u / 128) (Nat.lt_of_le_of_lt (Nat.div_le_self _ _) hu) 9 (by omega)]
theorem yY (u:Nat):1≤(sev u).length∧(sev u).length≤10:=by
 have h: ∀ f u,1≤(sevF f u).length∧(sevF f u).length≤f+1:=by
  intro f
  induction f with
  |zero=>intro u;exact⟨jK _,jK _⟩
  | succ f ih=>
    intro u;rw [sevF]
    split
    · simp
    · have:=ih (u / 128);simp;omega
 exact h 9 u
def numF (i u:Nat):Str→Int × Str × Bool
 |[]=>(0,[],false)
 | c::r=>if 5≤i then(0,[],false) else
   if c.toNat<128 then((u+c.toNat * 128 ^ i:Nat) - 1,r,decide (i=0∨0<c.toNat)) else numF (i+1) (u+c.toNat % 128 * 128 ^ i) r
def num (b:Str):Int × Str × Bool:=numF 0 0 b
def numK (i:Nat):Str→Nat
 |[]=>i
 |c::r=>if 5≤i then i else if c.toNat<128 then i+1 else numK (i+1) r
theorem Qi (b:Str): ∀ (i u:Nat) (l:Str),b.drop i=l→(numF i u l).2.2=true→(numF i u l).2.1=b.drop (numK i l)∧i<numK i l
 |i,u,[],h,ht=>by simp [numF] at ht
 | i, u,c::r,h,ht=>by
   rw [numF] at ht ⊢;rw [numK]
   split at ht
   · cases ht
   · rename_i h5
     rw [if_neg h5,if_neg h5]
     have hr:b.drop (i+1)=r:=by rw [← List.drop_drop,h];rfl
     split
     · rename_i hc;rw [if_pos hc] at ht;exact⟨hr.symm,by omega⟩
     · rename_i hc
       rw [if_neg hc] at ht;have:=Qi b (i+1) _ r hr ht
       exact⟨this.1,by omega⟩
theorem zfy {b:Str} {i:Nat} (u:Nat) (h:i<b.length) (h5:i<5):numF i u (b.drop i)=
  if(b.getD i 0).toNat<128 then(((u+(b.getD i 0).toNat * 128 ^ i:Nat):Int) - 1,b.drop (i+1),decide (i=0∨0<(b.getD i 0).toNat)) else numF (i+1) (u+(b.getD i 0).toNat % 128 * 128 ^ i) (b.drop (i+1)):=by
 rw [jD h,numF,if_neg (by omega)]
 have:b.getD i 0=b[i]:=by simp [h]
 rw [this]
theorem zhx {b:Str} {i:Nat} (u:Nat) (h:b.length≤i∨5≤i):numF i u (b.drop i)=(0,[],false):=by
 cases hd:b.drop i with
 |nil=>rfl
 | cons c r=>
   have:i<b.length:=by
    rcases Nat.lt_or_ge i b.length with h1|h1
    · exact h1
    · rw [jE h1] at hd;cases hd
   rw [numF,if_pos (by omega)]
def few (n:Int):Bool:=decide (-1≤n)&&decide (n<1073741824)
def mayM (e:Ent):Bool:=decide (1≤e.kind)&&decide (e.kind≤6)&&few e.id&&few e.n&&decide (e.text.length<1048576)
def enc3 (e:Ent):Str:=sev (e.kind+1).toNat++sev (e.id+1).toNat++sev (e.n+1).toNat++e.text
def encB (e:Ent):Str:=sev ((enc3 e).length+1)++enc3 e
def encM (e:Ent):Str:=if mayM e then encB e else []
def encC (e:Ent):Int:=if mayM e then 0 else 1
def three (b:Str):Option (Int × Int × Int × Str):=
 match num b with
 | (k,r,true)=>(match num r with
   | (i,r,true)=>(match num r with
     |(n,r,true)=>some (k,i,n,r)
     |_=>none)
   |_=>none)
 |_=>none
def thr (j:Nat) (a b c:Int) (s:Str):Option (Int × Int × Int × Str):=
 match j with
 |0=>three s
 | 1 =>(match num s with
   | (i,r,true)=>(match num r with
     |(n,r,true)=>some (a,i,n,r)
     |_=>none)
   |_=>none)
 | 2=>(match num s with
   |(n,r,true)=>some (a,b,n,r)
   |_=>none)
 |_=>some (a,b,c,s)
def oneX (b:Str):Ent × Str × Bool:=
 match num b with
 | (n,r,true)=>if n<0∨(r.length:Int)<n then(⟨0,0,0,[]⟩,[],false) else
   match three (r.take n.toNat) with
   |some (k,i,m,t)=>(⟨k,i,m,t⟩,r.drop n.toNat,mayM ⟨k,i,m,t⟩)
   |none=>(⟨0,0,0,[]⟩,[],false)
 |_=>(⟨0,0,0,[]⟩,[],false)
def oneM (b:Str):Option (Ent × Str):=if(oneX b).2.2 then some ((oneX b).1,(oneX b).2.1) else none
def decF:Nat→Str→List Ent × Str
 |0,b=>([],b)
 | f+1,b=>match oneM b with
   |some (e,r)=>(e::(decF f r).1,(decF f r).2)
   |none=>([],b)
def dec (b:Str):List Ent × Str:=decF b.length b
theorem WU {b:Str} (h:(num b).2.2=true):(num b).2.1.length<b.length:=by
 obtain⟨h1,h2⟩:=Qi b 0 0 b rfl h;rw [num,h1,jB]
 cases b with
 |nil=>simp [num,numF] at h
 |cons c r=>simp;omega
theorem zfz: ∀ (l:Str) (i u:Nat),(numF i u l).2.1.length≤l.length
 |[],i,u=>jK _
 | c ::r,i,u=>by
   rw [numF]
   split
   · simp
   · split
     · simp
     · have:=zfz r (i+1) (u+c.toNat % 128 * 128 ^ i);simp;omega
theorem WV (b:Str):(num b).2.1.length≤b.length:=zfz b 0 0
theorem zfq {b:Str} (h:(oneX b).2.2=true):(oneX b).2.1.length<b.length:=by
 unfold oneX at h ⊢
 split at h
 · rename_i n r0 hn
   have:=WU (b:=b) (by rw [hn])
   rw [hn] at this;simp only at this
   split at h
   · cases h
   · rename_i hc
     rw [if_neg hc]
     split at h
     · rename_i ht;simp only [ht];simp;omega
     · cases h
 · cases h
theorem TM {b:Str} {e:Ent} {r:Str} (h:oneM b=some (e,r)):r.length<b.length:=by
 unfold oneM at h
 split at h
 · rename_i hx
   simp only [jv,Prod.mk.injEq] at h;rw [← h.2];exact zfq hx
 · cases h
theorem zfs {s:Str} (h:(num s).2.2=false):oneM s=none:=by
 rw [oneM,oneX,show num s=((num s).1,(num s).2.1,false) by rw [← h]];rfl
theorem zhv {s:Str} (h:(num s).1<0∨((num s).2.1.length:Int)<(num s).1):oneM s=none:=by
 cases hk:(num s).2.2 with
 |false=>exact zfs hk
 | true=>
   have hx:oneX s=(⟨0,0,0,[]⟩,[],false):=by
    unfold oneX
    rw [show num s=((num s).1,(num s).2.1,true) by rw [← hk]]
    simp only;rw [if_pos h]
   rw [oneM,hx];rfl
theorem zaf: ∀ (f:Nat) (b:Str),b.length≤f→∀ g,b.length≤g→decF f b=decF g b
 | 0,b,h,g,hg=>by
   have:b=[]:=List.eq_nil_of_length_eq_zero (by omega)
   subst this
   cases g with
   |zero=>rfl
   |succ g=>rfl
 | f + 1,b,h,g,hg=>by
   cases g with
   | zero=>
     have:b=[]:=List.eq_nil_of_length_eq_zero (by omega)
     subst this;rfl
   | succ g=>
     rw [decF,decF]
     cases ho:oneM b with
     |none=>rfl
     | some p=>
       obtain⟨e,r⟩:=p;have:=TM ho;simp only
       rw [zaf f r (by omega) g (by omega)]
theorem SE {b:Str} {e:Ent} {r:Str} (h:oneM b=some (e,r)):dec b=(e::(dec r).1,(dec r).2):=by
 have hl:=TM h
 obtain⟨n,hn⟩: ∃ n,b.length=n+1:=⟨b.length - 1,by omega⟩
 unfold dec;rw [hn,decF,h];simp only
 rw [zaf n r (by omega) r.length (jK _)]
theorem SG {b:Str} (h:oneM b=none):dec b=([],b):=by
 unfold dec
 cases b with
 |nil=>rfl
 |cons c r=>rw [jh,decF,h]
theorem zdi: ∀ (f:Nat) (b:Str),(decF f b).1.length+(decF f b).2.length≤b.length
 |0,b=>by simp [decF]
 | f +1,b=>by
   rw [decF]
   cases ho:oneM b with
   |none=>simp
   | some p=>
     obtain⟨e,r⟩:=p;have:=TM ho;have:=zdi f r;simp only [jh];omega
theorem zgl (b:Str):(dec b).1.length+(dec b).2.length≤b.length:=zdi _ b
end Go.Jrn
namespace Go.Proofs.YtcclfkakcgnacaaGreatDoor
open Go Go.Sep Go.Ab Go.Jrn
set_option maxRecDepth 100000
theorem zk3: ∀ u:Nat,u<256→IntKind.u8.wrap ((BitVec.ofInt IntKind.u8.bits (u:Int)|||BitVec.ofInt IntKind.u8.bits 128).toNat:Int)=((u % 128+128:Nat):Int):=by decide+kernel
theorem zkT: ∀ u:Nat,u<256→IntKind.u8.wrap ((BitVec.ofInt IntKind.u8.bits (u:Int)&&& BitVec.ofInt IntKind.u8.bits 127).toNat:Int)=((u % 128:Nat):Int):=by decide+kernel
theorem wrap_u8 (u:Nat):IntKind.u8.wrap (u:Int)=((u % 256:Nat):Int):=by
 unfold IntKind.wrap
 simp only [show IntKind.u8.signed=false by decide,show IntKind.u8.bits=8 by decide,Bool.false_and,jd,if_false]
 show(u:Int) % 256=_
 omega
theorem wrap_i64 (u:Int) (h: -9223372036854775808≤u∧u≤9223372036854775807):IntKind.i64.wrap u=u:=zax (k:=.i64) (by rw [Yx,TW,TY];exact h)
theorem wrap_u64 (u:Int) (h:0≤u∧u≤9223372036854775807):IntKind.u64.wrap u=u:=zax (k:=.u64) (by
 rw [Yx,show IntKind.u64.min=0 by decide,show IntKind.u64.max=18446744073709551615 by decide];omega)
theorem zkf (u x i:Nat) (hu:u<2 ^ (7 * i)) (hx:x<128) (hi:i≤4):
  IntKind.i64.wrap ((BitVec.ofInt IntKind.i64.bits (u:Int)|||BitVec.ofInt IntKind.i64.bits ((x * 2 ^ (7 * i):Nat):Int)).toNat:Int)=((u+x * 2 ^ (7 * i):Nat):Int):=by
 have h2:2 ^ (7 * i)≤2 ^ 28:=Nat.pow_le_pow_right (by omega) (by omega)
 have h3:x * 2 ^ (7 * i)≤127 * 2 ^ 28:=Nat.mul_le_mul (by omega) h2
 have e:(BitVec.ofInt IntKind.i64.bits (u:Int)|||BitVec.ofInt IntKind.i64.bits ((x * 2 ^ (7 * i):Nat):Int)).toNat=u+x * 2 ^ (7 * i):=by
  rw [BitVec.toNat_or,BitVec.ofInt_natCast,BitVec.ofInt_natCast,BitVec.toNat_ofNat,BitVec.toNat_ofNat,show IntKind.i64.bits=64 by decide,
   Nat.mod_eq_of_lt (show u<2 ^ 64 by omega),Nat.mod_eq_of_lt (show x * 2 ^ (7 * i)<2 ^ 64 by omega),Nat.or_comm,← Nat.shiftLeft_eq,← Nat.shiftLeft_add_eq_or_of_lt hu,Nat.add_comm]
 rw [e,wrap_i64];omega
theorem shr7 (u:Nat):(u:Int).fdiv (2 ^ min (Int.toNat 7) 64)=((u / 128:Nat):Int):=by
 show(u:Int).fdiv 128=_
 rw [Int.fdiv_eq_ediv_of_nonneg _ (by decide)]
 omega
def zch (I:Alg):KU
 |[.v (.one (.row 0)),.v (.one (.p (.int .i64 n)))],[.row .byte 5 l]=>(fun(l:Str)=>(some (.one ⟨I.hid (-1≤n∧n<34359738368∧l.length≤50000000),(.ret (.v (.one (.row 1)))),[.gone,.row .byte 5 (I.hid (l++sev (n+1).toNat))]⟩):Option CT)) l
 |_,_=>none
theorem zid:zq Tryz.prog 142 (zch alg):=by
 intro args hp r h;unfold zch at h;split at h<;>cases h
 rename_i n l;simp only [CT.Good,zk];intro hneed
 refine spH Tryz.func142 (by kernel_rfl) { mv:=[0],keep:=some [0,1,4,5]} [] (by kernel_rfl) ?_
 intro I X hI hX
 refine orcL ?_;go_invoke;refine orcS (by kernel_rfl) ?_
 simp only [zl,Nat.reduceAdd]
 refine⟨(by rw [hI];simp only [nrmA,nrmB];omega),?_⟩
 refine lpH hI [] hX [0,5] (fun(g:Str × Int)=>match g with|(m,u)=>0≤u∧u<68719476736∧m++sev u.toNat=l++sev (n+1).toNat) (fun(g:Str × Int)=>match g with|(m,u)=>⟨[(0,.v (.one (.row 1))),(5,.v (.one (.p (.int .u64 u))))],[.gone,.row .byte 5 m],24,none⟩) (fun(g:Str × Int)=>match g with|(m,u)=>u.toNat) (l,I.wrap .u64 (I.add n 1)) (by kernel_rfl) (by kernel_rfl) ?_ ?_
 · subst hI
   simp only;simp only [nrmA,nrmB]
   rw [wrap_u64 _ (by omega)]
   exact⟨by omega,by omega,rfl⟩
 rintro⟨m,u⟩ ⟨h0,h1,h2⟩ A hA;obtain⟨u,rfl⟩:=Int.eq_ofNat_of_zero_le h0;simp only [jI] at h2;simp only at hA;generalize hu':(u:Int)=u' at *
 refine orcL ?_;go_invoke;refine orcS (by kernel_rfl) ?_
 simp only [zl,Nat.reduceAdd];subst hI hu';simp only [nrmA,nrmB];have hml:=congrArg List.length h2;have hs1:=yY u;have hs2:=yY (n+1).toNat;simp only [jk] at hml
 have hu8:u % 256 % 128=u % 128:=by omega
 rw [wrap_u8 u,zk3 _ (by omega),shr7,hu8,jI,jI]
 have h64:((IntKind.u64.bits:Nat):Int)=64:=by decide
 simp only [jh,ji,h64]
 (repeat' (first|refine ja ?_ ?_|intro _))<;>first|omega|exact jb|exact jc ‹False›|skip
 · have hb:=U6 (u:=u) (by omega) (by omega)
   refine hA (m++[UInt8.ofNat (u % 128+128)],(u / 128:Nat)) ⟨by omega,by omega,?_⟩ (by simp only;omega)
   rw [jI,← h2,hb,jo];rfl
 · rw [← h2,sD (by omega),show u % 256=u by omega]
def zic:Know Tryz.prog:=⟨142,zch,zid⟩
def zib:Know Tryz.prog:=⟨142,fun I=>zu I (zch I),zf zid⟩
def zc9 (I:Alg):KU
 |[.v (.one (.p (.int .i64 n)))],[]=>some (.one ⟨I.hid (True),(.ret (.v (.one (.p (.bool (I.hid (few n))))))),[]⟩)
 |_,_=>none
theorem ziw:zq Tryz.prog 128 (zc9 alg):=by
 intro args hp r h;unfold zc9 at h;split at h<;>cases h
 rename_i n;simp only [CT.Good,zk];intro _
 refine spH Tryz.func128 (by kernel_rfl) { keep:=some [0,2]} [] (by kernel_rfl) ?_
 intro I X hI hX
 refine orcL ?_;go_invoke;refine orcS (by kernel_rfl) ?_
 simp only [zl,Nat.reduceAdd];subst hI;simp only [nrmA,nrmB];unfold few
 (repeat' (first|refine ja ?_ ?_|intro _))<;>first|omega|exact jb|exact jc ‹False›|skip
 · simp [*]
 · simp [*]
def zky:Know Tryz.prog:=⟨128,zc9,ziw⟩
def zkx:Know Tryz.prog:=⟨128,fun I=>zu I (zc9 I),zf ziw⟩
def zcB (I:Alg):KU
 |[.v (.agg [.p (.int .i64 k),.p (.int .i64 i),.p (.int .i64 n),.p (.list .byte t)])],[]=>(fun(t:Str)=>(some (.one ⟨I.hid (True),(.ret (.v (.one (.p (.bool (I.hid (mayM ⟨k,i,n,t⟩))))))),[]⟩):Option CT)) t
 |_,_=>none
theorem zim:zq Tryz.prog 100 (zcB alg):=by
 intro args hp r h;unfold zcB at h;split at h<;>cases h
 rename_i k i n t;simp only [CT.Good,zk];intro _
 refine spH Tryz.func100 (by kernel_rfl) { keep:=some [0,1,2,3]} [zky,zkx] (by kernel_rfl) ?_
 intro I X hI hX
 refine orcL ?_;go_invoke;refine orcS (by kernel_rfl) ?_
 simp only [zl,Nat.reduceAdd];subst hI;simp only [nrmA,nrmB];unfold mayM
 (repeat' (first|refine ja ?_ ?_|intro _))<;>first|omega|exact jb|exact jc ‹False›|skip
 all_goals simp [*]<;>omega
def zcA:Know Tryz.prog:=⟨100,zcB,zim⟩
def zcz:Know Tryz.prog:=⟨100,fun I=>zu I (zcB I),zf zim⟩
def zcZ (I:Alg):KU
 |[.v (.one (.p (.list .byte b)))],[]=>(fun(b:Str)=>(some (.one ⟨I.hid (True),(.ret (.tup [.one (.p (.int .i64 (I.hid ((num b).1)))),.one (.p (.list .byte (I.hid ((num b).2.1)))),.one (.p (.bool (I.hid ((num b).2.2))))])),[]⟩):Option CT)) b
 |_,_=>none
theorem zit:zq Tryz.prog 99 (zcZ alg):=by
 intro args hp r h;unfold zcZ at h;split at h<;>cases h
 rename_i b;simp only [CT.Good,zk];intro _
 refine spH Tryz.func99 (by kernel_rfl) { rl:=[1],keep:=some [0,2,3,4,5,6,9,10]} [] (by kernel_rfl) ?_
 intro I X hI hX
 refine orcL ?_;go_invoke;refine orcS (by kernel_rfl) ?_
 simp only [zl,Nat.reduceAdd];generalize hr:num b=r;obtain⟨r1,r2,r3⟩:=r
 refine lpH hI [] hX [0,5,9,10] (fun(g:Nat × Int)=>match g with|(i,u)=>i≤b.length∧i≤5∧0≤u∧u<(128 ^ i:Nat)∧numF i u.toNat (b.drop i)=num b) (fun(g:Nat × Int)=>match g with|(i,u)=>⟨[(0,.v (.one (.p (.list .byte b)))),(5,.v (.one (.p (.int .i64 u)))),(9,.v (.one (.p (.int .i64 ((I.imin (I.len (α:=UInt8) b) 5)))))),(10,.v (.one (.p (.int .i64 i))))],[],45,none⟩) (fun(g:Nat × Int)=>match g with|(i,u)=>b.length - i) (0,0) (by kernel_rfl) (by kernel_rfl) ?_ ?_
 · exact⟨jL _,by omega,Int.le_refl _,by simp,rfl⟩
 rintro⟨i,u⟩ ⟨h1,h2,h3,h4,h6⟩ A hA;simp only at hA
 refine orcL ?_;go_invoke;refine orcS (by kernel_rfl) ?_
 simp only [zl,Nat.reduceAdd];subst hI;simp only [nrmA,nrmB,nrlB,reduceCtorEq];obtain⟨u,rfl⟩:=Int.eq_ofNat_of_zero_le h3;rw [jI] at h6;have hs1:=fun(h:i<b.length) (h':i<5)=>zfy u h h';generalize hc:(b.getD i 0).toNat=c at hs1 ⊢
 have hc256:c<256:=by rw [← hc];exact UInt8.toNat_lt _
 have hlim:((i:Int)<if((b.length:Nat):Int)≤5 then((b.length:Nat):Int) else 5)↔(i<b.length∧i<5):=by split<;>omega
 have hbits:IntKind.i64.bits=64:=by decide
 have hpw:2 ^ (7 * i)=128 ^ i:=by rw [Nat.pow_mul]
 have hq:i<5→128 ^ i≤128 ^ 4:=fun h=>Nat.pow_le_pow_right (by omega) (by omega)
 have e1:i<5→IntKind.i64.wrap (IntKind.u8.wrap ((BitVec.ofInt IntKind.u8.bits (c:Int)&&& BitVec.ofInt IntKind.u8.bits 127).toNat:Int)) * 2 ^ min (7 * (i:Int)).toNat IntKind.i64.bits=((c % 128 * 2 ^ (7 * i):Nat):Int):=by
  intro h5
  rw [zkT c hc256,wrap_i64 _ (by omega),hbits,show min (7 * (i:Int)).toNat 64=7 * i by omega]
  exact(Int.natCast_mul _ _).symm
 rw [hlim]
 have hW:i<5→∀ W,IntKind.i64.wrap ((BitVec.ofInt IntKind.i64.bits (u:Int)|||BitVec.ofInt IntKind.i64.bits (IntKind.i64.wrap (IntKind.i64.wrap (IntKind.u8.wrap ((BitVec.ofInt IntKind.u8.bits (c:Int)&&& BitVec.ofInt IntKind.u8.bits 127).toNat:Int)) * 2 ^ min (7 * (i:Int)).toNat IntKind.i64.bits))).toNat:Int)=W→W=((u+c % 128 * 128 ^ i:Nat):Int):=by
  intro h5 W h
  have hm:c % 128 * 2 ^ (7 * i)≤127 * 2 ^ (7 * i):=Nat.mul_le_mul_right _ (by omega)
  have h2:2 ^ (7 * i)≤2 ^ 28:=Nat.pow_le_pow_right (by omega) (by omega)
  rw [e1 h5,wrap_i64 ((c % 128 * 2 ^ (7 * i):Nat):Int) (by omega),zkf u (c % 128) i (by rw [hpw];omega) (by omega) (by omega),hpw] at h
  exact h.symm
 generalize hWd:IntKind.i64.wrap ((BitVec.ofInt IntKind.i64.bits (u:Int)|||BitVec.ofInt IntKind.i64.bits (IntKind.i64.wrap (IntKind.i64.wrap (IntKind.u8.wrap ((BitVec.ofInt IntKind.u8.bits (c:Int)&&& BitVec.ofInt IntKind.u8.bits 127).toNat:Int)) * 2 ^ min (7 * (i:Int)).toNat IntKind.i64.bits))).toNat:Int)=W at hW ⊢
 have hW:=fun h=>hW h W rfl;have hp:128 ^ (i+1)=128 ^ i * 128:=Nat.pow_succ ..;have hend:=zhx (b:=b) (i:=i) u;have hr':=hr;rw [← h6] at hr';generalize hQ:128 ^ i=Q at *
 have hm:c % 128 * Q≤127 * Q:=Nat.mul_le_mul_right _ (by omega)
 have hcm:c<128→c * Q=c % 128 * Q:=fun h=>by rw [Nat.mod_eq_of_lt h]
 generalize hX:c % 128 * Q=X at *
 have hcut:List.take (List.length b - ((i:Int)+1).toNat) (List.drop ((i:Int)+1).toNat b)=b.drop (i+1):=by
  rw [show((i:Int)+1).toNat=i+1 by omega,jq (by simp)]
 rw [hcut]
 have hfin: ¬ (i<b.length∧i<5)→0=r1∧([]:Str)=r2∧false=r3:=by
  intro h
  rw [hend (by omega)] at hr'
  simpa using hr'
 have hret:i<b.length∧i<5→c<128→W - 1=r1∧b.drop (i+1)=r2∧decide (i=0∨0<c)=r3:=by
  intro h1 h3;rw [hs1 h1.1 h1.2] at hr';simp only [if_pos h3,hcm h3,Prod.mk.injEq] at hr';rw [hW h1.2];exact hr'
 have hback:i<b.length∧i<5→¬ c<128→A ⟨[(0,.v (.one (.p (.list .byte b)))),(5,.v (.one (.p (.int .i64 W)))),(9,.v (.one (.p (.int .i64 ((if((b.length:Nat):Int)≤5 then((b.length:Nat):Int) else 5)))))),(10,.v (.one (.p (.int .i64 (((i:Int)+1))))))],[],45,none⟩:=by
  intro h1 h3;have g0:=hW h1.2
  have g1:0≤W:=by omega
  have g2:W<((128 ^ (i+1):Nat):Int):=by rw [hp];omega
  refine hA (i+1,W) ⟨h1.1,h1.2,g1,g2,?_⟩ (by simp only;omega)
  rw [← h6,hs1 h1.1 h1.2,if_neg h3,g0,jI]
 (repeat' (first|refine ja ?_ ?_|intro _))<;>first|omega|exact jb|exact jc ‹False›|skip
 all_goals first
  |exact(hfin (by omega)).1
  |exact(hfin (by omega)).2.1
  |exact(hfin (by omega)).2.2
  |exact(hret (by omega) (by omega)).1
  |exact(hret (by omega) (by omega)).2.1
  |exact hback (by omega) (by omega)
  |(rw [← (hret (by omega) (by omega)).2.2];simp;omega)
  |skip
 all_goals trace_state
def zis:Know Tryz.prog:=⟨99,zcZ,zit⟩
def zir:Know Tryz.prog:=⟨99,fun I=>zu I (zcZ I),zf zit⟩
end Go.Proofs.YtcclfkakcgnacaaGreatDoor
namespace Go.Proofs.YtcclfkakcgnacaaGreatDoor
open Go Go.Sep Go.Ab Go.Jrn
set_option maxRecDepth 100000
def pre3 (k i n:Int):Nat→Str
 |0=>[]
 |1=>sev (k+1).toNat
 |2=>sev (k+1).toNat++sev (i+1).toNat
 |_=>sev (k+1).toNat++sev (i+1).toNat++sev (n+1).toNat
def ZQ (I:Alg):KU
 |[.v (.agg [.p (.int .i64 k),.p (.int .i64 i),.p (.int .i64 n),.p (.list .byte t)])],[]=>(fun(t:Str)=>(some (.one ⟨I.hid (True),(.ret (.tup [.one (.row 0),.one (.p (.int .i64 (I.hid (encC ⟨k,i,n,t⟩))))])),[.row .byte 5 (I.hid (encM ⟨k,i,n,t⟩))]⟩):Option CT)) t
 |_,_=>none
theorem Q8:zq Tryz.prog 116 (ZQ alg):=by
 intro args hp r h;unfold ZQ at h;split at h<;>cases h
 rename_i k i n t;simp only [CT.Good,zk];intro _
 refine spH Tryz.func116 (by kernel_rfl) { nr:=[4],own:=[142],keep:=some [0,1,2,3,4,6,16,17,18]} [zic,zib,zcA,zcz] (by kernel_rfl) ?_
 intro I X hI hX
 refine orcL ?_;go_invoke;refine orcS (by kernel_rfl) ?_
 simp only [zl,Nat.reduceAdd]
 refine⟨(by rw [hI];trivial),fun hm=> ?_,fun hm=> ?_⟩
 · subst hI
   simp only [nrmA,nrmB,nrlB,reduceCtorEq] at hm;simp only [nrmA,nrmB,nrlB,reduceCtorEq];simp only [encC,encM,hm,jd,if_false];exact⟨trivial,trivial⟩
 rw [hI] at hm;simp only [nrmA,nrmB] at hm;have hmay:=hm;simp only [mayM,few,jJ,decide_eq_true_eq] at hmay;obtain⟨⟨⟨⟨m1,m2⟩,m3,m4⟩,m5,m6⟩,m7⟩:=hmay;simp only [encC,encM,hm,if_true];generalize hr:encB ⟨k,i,n,t⟩=r
 refine lpH hI [zic,zib,zcA,zcz] hX [1,4,16,17,18] (fun(g:Nat × Str)=>match g with|(j,m)=>j≤3∧m=pre3 k i n j) (fun(g:Nat × Str)=>match g with|(j,m)=>⟨[(1,.v (.one (.ptr 0 0))),(4,.v (.one (.row 1))),(16,.v (.one (.row 2))),(17,.v (.one (.p (.int .i64 ((I.len (α:=Int) [k,i,n])))))),(18,.v (.one (.p (.int .i64 j))))],[.pack [.obj 101 [.p (.int .i64 k),.p (.int .i64 i),.p (.int .i64 n),.p (.list .byte t)]],.row .byte 5 m,.row .int 3 ([k,i,n])],35,none⟩) (fun(g:Nat × Str)=>match g with|(j,m)=>3 - j) (0,[]) (by kernel_rfl) (by kernel_rfl) ?_ ?_
 · exact⟨jL _,rfl⟩
 rintro⟨j,m⟩ ⟨hj,hjm⟩ A hA;simp only at hA
 refine orcL ?_;go_invoke;refine orcS (by kernel_rfl) ?_
 simp only [zl,Nat.reduceAdd];subst hI;simp only [nrmA,nrmB,nrlB,reduceCtorEq];have l1:=yY (k+1).toNat;have l2:=yY (i+1).toNat;have l3:=yY (n+1).toNat;simp only [jh,ji]
 rcases(show j=0∨j=1∨j=2∨j=3 by omega) with rfl|rfl|rfl|rfl
 · have hb:=hA (1,sev (k+1).toNat) ⟨by omega,rfl⟩ (by simp only;omega)
   subst hjm
   (repeat' (first|refine ja ?_ ?_|intro _))<;>first|omega|exact jb|exact jc ‹False›|skip
   · simp only [List.getD_cons_zero];omega
   · simp only [List.getD_cons_zero];omega
   · simp only [pre3,ji];omega
   · exact hb
 · have hb:=hA (2,sev (k+1).toNat++sev (i+1).toNat) ⟨by omega,rfl⟩ (by simp only;omega)
   subst hjm
   (repeat' (first|refine ja ?_ ?_|intro _))<;>first|omega|exact jb|exact jc ‹False›|skip
   · simp only [List.getD_cons_zero,List.getD_cons_succ];omega
   · simp only [List.getD_cons_zero,List.getD_cons_succ];omega
   · simp only [pre3];omega
   · exact hb
 · have hb:=hA (3,sev (k+1).toNat++sev (i+1).toNat++sev (n+1).toNat) ⟨by omega,rfl⟩ (by simp only;omega)
   subst hjm
   (repeat' (first|refine ja ?_ ?_|intro _))<;>first|omega|exact jb|exact jc ‹False›|skip
   · simp only [List.getD_cons_zero,List.getD_cons_succ];omega
   · simp only [List.getD_cons_zero,List.getD_cons_succ];omega
   · simp only [pre3,jk];omega
   · exact hb
 · have hm3:(m++t).length≤1048606:=by rw [hjm];simp only [pre3,jk];omega
   have hml:m.length≤30:=by rw [hjm];simp only [pre3,jk];omega
   have l4:=yY (((m++t).length:Nat)+1:Int).toNat
   (repeat' (first|refine ja ?_ ?_|intro _))<;>first|omega|exact jb|exact jc ‹False›|skip
   · simp only [List.nil_append];omega
   · rw [← hr,hjm]
     simp only [encB,enc3,pre3,List.nil_append];rfl
def zgg:Know Tryz.prog:=⟨116,ZQ,Q8⟩
def zgf:Know Tryz.prog:=⟨116,fun I=>zu I (ZQ I),zf Q8⟩
def TR (I:Alg):KU
 |[.v (.one (.p (.list .byte b)))],[]=>(fun(b:Str)=>(some (.one ⟨I.hid (b.length≤100000000),(.ret (.tup [.agg [.p (.int .i64 (I.hid ((oneX b).1.kind))),.p (.int .i64 (I.hid ((oneX b).1.id))),.p (.int .i64 (I.hid ((oneX b).1.n))),.p (.list .byte (I.hid ((oneX b).1.text)))],.one (.p (.list .byte (I.hid ((oneX b).2.1)))),.one (.p (.bool (I.hid ((oneX b).2.2))))])),[]⟩):Option CT)) b
 |_,_=>none
theorem zfJ:zq Tryz.prog 70 (TR alg):=by
 intro args hp r h;unfold TR at h;split at h<;>cases h
 rename_i b;simp only [CT.Good,zk];intro hneed
 refine spH Tryz.func70 (by kernel_rfl) { rl:=[1],keep:=some [0,2,3,4,5,6,7,8,9,10,11,12,38]} [X4,X3,zcA,zcz,zis,zir] (by kernel_rfl) ?_
 intro I X hI hX
 refine orcL ?_;go_invoke;refine orcS (by kernel_rfl) ?_
 simp only [zl,Nat.reduceAdd];generalize hv:(num b).1=v;generalize hq:(num b).2.1=q;generalize hok:(num b).2.2=ok
 have hnum:num b=(v,q,ok):=by rw [← hv,← hq,← hok]
 generalize hx:oneX b=x;have hx':=hx;rw [oneX,hnum] at hx'
 have hql:q.length≤b.length:=by
  rcases ok with _|_
  · have:=WV b;rw [hnum] at this;exact this
  · have:=WU (b:=b) (by rw [hnum]);rw [hnum] at this;exact Nat.le_of_lt this
 refine⟨(by rw [hI];trivial),fun h1=> ?_,fun h1=>⟨fun h2=> ?_,fun h2=>⟨fun h3=> ?_,fun h3=> ?_⟩⟩⟩
 · subst hI;simp only [nrmA,nrmB] at h1;subst h1;simp only at hx';subst hx';simp only [nrmA,nrmB,nrlB,reduceCtorEq]
 · subst hI;simp only [nrmA,nrmB] at h1;simp only [nrmA,nrmB] at h2;subst h1;simp only at hx';rw [if_pos (.inl h2)] at hx';subst hx';simp only [nrmA,nrmB,nrlB,reduceCtorEq]
 · subst hI;simp only [nrmA,nrmB] at h1;simp only [nrmA,nrmB] at h2;simp only [nrmA,nrmB] at h3;subst h1;simp only at hx';rw [if_pos (.inr h3)] at hx';subst hx';simp only [nrmA,nrmB,nrlB,reduceCtorEq]
 rw [hI] at h1;simp only [nrmA,nrmB] at h1;rw [hI] at h2;simp only [nrmA,nrmB] at h2;rw [hI] at h3;simp only [nrmA,nrmB] at h3;subst h1;simp only at hx'
 rw [if_neg (by omega)] at hx'
 refine⟨(by rw [hI];simp only [nrmA,nrmB];omega),(by rw [hI];simp only [nrmA,nrmB];omega),?_⟩
 have hin:I.cut (α:=UInt8) (I.hid (α:=List UInt8) q) 0 (I.hid (α:=Int) v)=q.take v.toNat:=by rw [hI];simp only [nrmA,nrmB]
 have hbh:I.cut (α:=UInt8) (I.hid (α:=List UInt8) q) (I.hid (α:=Int) v) (I.len (α:=UInt8) (I.hid (α:=List UInt8) q))=q.drop v.toNat:=by
  rw [hI];simp only [nrmA,nrmB];rw [jq (by simp)]
 have hil:(q.take v.toNat).length≤b.length:=by simp;omega
 rw [hin,hbh];generalize q.take v.toNat=inn at *;generalize q.drop v.toNat=bh at *
 refine lpH hI [X4,X3,zcA,zcz,zis,zir] hX [2,8,9,10,38] (fun(g:Nat × Int × Int × Int × Str)=>match g with|(j,a,c,d,s)=>j≤3∧s.length≤b.length∧thr j a c d s=three inn) (fun(g:Nat × Int × Int × Int × Str)=>match g with|(j,a,c,d,s)=>⟨[(2,.v (.one (.ptr 0 0))),(8,.v (.one (.p (.list .byte s)))),(9,.v (.one (.p (.list .byte bh)))),(10,.v (.one (.ptr 1 0))),(38,.v (.one (.p (.int .i64 j))))],[.pack [.obj 101 [.p (.int .i64 0),.p (.int .i64 0),.p (.int .i64 0),.nilS]],.pack [.obj 140 [.p (.int .i64 a),.p (.int .i64 c),.p (.int .i64 d)]]],66,none⟩) (fun(g:Nat × Int × Int × Int × Str)=>match g with|(j,a,c,d,s)=>3 - j) (0,0,0,0,inn) (by kernel_rfl) (by kernel_rfl) ?_ ?_
 · exact⟨jL _,hil,rfl⟩
 rintro⟨j,a,c,d,s⟩ ⟨hj,hsl,hthr⟩ A hA;simp only at hA
 have hu:j<3→∀ e:(num s).2.2=false,thr j a c d s=none:=by
  intro h e
  have e2:num s=((num s).1,(num s).2.1,false):=by rw [← e]
  rcases(show j=0∨j=1∨j=2 by omega) with rfl|rfl|rfl
  · rw [thr,three,e2]
  · rw [thr,e2]
  · rw [thr,e2]
 have hfail:j<3→(num s).2.2=false→x=(⟨0,0,0,[]⟩,[],false):=by
  intro h e;rw [← hthr,hu h e] at hx';exact hx'.symm
 have hnl:=WV s
 have hle:(num s).2.1.length≤b.length:=by omega
 rcases(show j=0∨j=1∨j=2∨j=3 by omega) with rfl|rfl|rfl|rfl
 · refine orcL ?_;go_invoke;refine orcS (by kernel_rfl) ?_
   simp only [zl,Nat.reduceAdd];subst hI;simp only [nrmA,nrmB,nrlB,reduceCtorEq]
   refine⟨fun _=>⟨fun e=> ?_,fun e=>⟨by omega,?_⟩⟩,fun h=>(by omega)⟩
   · rw [hfail (by omega) e];exact⟨rfl,rfl,rfl⟩
   · refine hA (1,(num s).1,c,d,(num s).2.1) ⟨by omega,hle,?_⟩ (by simp only;omega)
     rw [← hthr,thr,thr,three,show num s=((num s).1,(num s).2.1,true) by rw [← e]]
 · refine orcL ?_;go_invoke;refine orcS (by kernel_rfl) ?_
   simp only [zl,Nat.reduceAdd];subst hI;simp only [nrmA,nrmB,nrlB,reduceCtorEq]
   refine⟨fun _=>⟨fun e=> ?_,fun e=>⟨by omega,?_⟩⟩,fun h=>(by omega)⟩
   · rw [hfail (by omega) e];exact⟨rfl,rfl,rfl⟩
   · refine hA (2,a,(num s).1,d,(num s).2.1) ⟨by omega,hle,?_⟩ (by simp only;omega)
     rw [← hthr,thr,thr,show num s=((num s).1,(num s).2.1,true) by rw [← e]]
 · refine orcL ?_;go_invoke;refine orcS (by kernel_rfl) ?_
   simp only [zl,Nat.reduceAdd];subst hI;simp only [nrmA,nrmB,nrlB,reduceCtorEq]
   refine⟨fun _=>⟨fun e=> ?_,fun e=>⟨by omega,?_⟩⟩,fun h=>(by omega)⟩
   · rw [hfail (by omega) e];exact⟨rfl,rfl,rfl⟩
   · refine hA (3,a,c,(num s).1,(num s).2.1) ⟨by omega,hle,?_⟩ (by simp only;omega)
     have e2:num s=((num s).1,(num s).2.1,true):=by rw [← e]
     rw [← hthr];simp only [thr];generalize num s=z at *;obtain⟨z1,z2,z3⟩:=z;simp only at e;subst e;rfl
 · refine orcL ?_;go_invoke;refine orcS (by kernel_rfl) ?_
   simp only [zl,Nat.reduceAdd];subst hI;simp only [nrmA,nrmB,nrlB,reduceCtorEq];rw [← hthr] at hx';simp only [thr] at hx';subst hx'
   have:s.length≤100000000:=by omega
   exact⟨fun h=>(by omega),fun _=>⟨⟨this,rfl,rfl,rfl⟩,this,rfl,rfl,rfl⟩⟩
def zfI:Know Tryz.prog:=⟨70,TR,zfJ⟩
def zfH:Know Tryz.prog:=⟨70,fun I=>zu I (TR I),zf zfJ⟩
end Go.Proofs.YtcclfkakcgnacaaGreatDoor
namespace Go.Proofs.YtcclfkakcgnacaaGreatDoor
open Go Go.Sep Go.Ab Go.Jrn
set_option maxRecDepth 100000
def Wj (b:Str):Int:=(b.length:Int) - ((dec b).2.length:Int)
def ZT (I:Alg):KU
 |[.v (.one (.p (.list .byte b)))],[]=>(fun(b:Str)=>(some (.one ⟨I.hid (b.length≤50000000),(.ret (.tup [.one (.row 0),.one (.p (.int .i64 (I.hid (Wj b))))])),[.row .ent 101 (I.hid ((dec b).1))]⟩):Option CT)) b
 |_,_=>none
theorem zad:zq Tryz.prog 47 (ZT alg):=by
 intro args hp r h;unfold ZT at h;split at h<;>cases h
 rename_i b;simp only [CT.Good,zk];intro hneed
 refine spH Tryz.func47 (by kernel_rfl) { nr:=[4],keep:=some [0,2,3,4,5,6,7,8]} [zfI,zfH] (by kernel_rfl) ?_
 intro I X hI hX
 refine orcL ?_;go_invoke;refine orcS (by kernel_rfl) ?_
 simp only [zl,Nat.reduceAdd];generalize hd1:(dec b).1=d1;generalize hd2:Wj b=d2
 refine lpH hI [zfI,zfH] hX [0,4,5] (fun(g:List Ent × Str)=>match g with|(out,rest)=>out++(dec rest).1=d1∧(dec rest).2=(dec b).2∧out.length+rest.length≤b.length) (fun(g:List Ent × Str)=>match g with|(out,rest)=>⟨[(0,.v (.one (.p (.list .byte b)))),(4,.v (.one (.row 0))),(5,.v (.one (.p (.list .byte rest))))],[.row .ent 101 out],29,none⟩) (fun(g:List Ent × Str)=>match g with|(out,rest)=>rest.length) ([],b) (by kernel_rfl) (by kernel_rfl) ?_ ?_
 · exact⟨hd1,rfl,by simp⟩
 rintro⟨out,rest⟩ ⟨h1,h2,h3⟩ A hA;simp only at hA
 refine orcL ?_;go_invoke;refine orcS (by kernel_rfl) ?_
 simp only [zl,Nat.reduceAdd];subst hI;simp only [nrmA,nrmB,nrlB,reduceCtorEq]
 have hone:(oneX rest).2.2=true→oneM rest=some ((oneX rest).1,(oneX rest).2.1):=fun h=>by rw [oneM,if_pos h]
 have hnone:(oneX rest).2.2=false→oneM rest=none:=fun h=>by rw [oneM,if_neg (by rw [h];decide)]
 refine⟨by omega,fun h=> ?_,fun h=> ?_⟩
 · rw [SG (hnone h)] at h1 h2
   refine⟨by omega,?_,by simpa using h1⟩
   rw [← hd2,Wj,← h2]
 · have hx:=SE (hone h)
   have hlt:=zfq h
   refine⟨by simp only [jh,ji];omega,hA (out++[(oneX rest).1],(oneX rest).2.1) ⟨?_,?_,?_⟩ hlt⟩
   · rw [← h1,hx,jo];rfl
   · rw [← h2,hx]
   · simp only [jk,jh,ji];omega
def zac:Know Tryz.prog:=⟨47,ZT,zad⟩
def zab:Know Tryz.prog:=⟨47,fun I=>zu I (ZT I),zf zad⟩
end Go.Proofs.YtcclfkakcgnacaaGreatDoor
