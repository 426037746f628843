/- Texts of this proof, one behind the other: AbN AbP AbO Tab Laid InZ Shelf Lib ChrA ChrB ChrC ParL ParA ParC ParD Fnd FldA FldB FldG FldD FldE ChrD. -/
import Derived.Deep.LoopGhost
import Derived.Recover
import Derived.Test.YtcclfkakcgnacaaGreatDoorProg
import Derived.WalkKit
import Derived.Lib.ItoaNum
import Derived.Lib.LaidTab
import Derived.WideShapes
import Derived.ChangeArms
import Derived.SizedLaws
import Derived.Shelf.Strings.SlTrimAscii
import Derived.Shelf.Strings.Trim
import Derived.Shelf.Small.Utf8
import Derived.Shelf.Small.Strs
import Derived.Shelf.Small.Wraps
import Derived.Shelf.Strconv.Itoa0
import Derived.Shelf.Strconv.Itoa1
import Derived.Shelf.LaysM
import Derived.Shelf.Strconv.Itoa2
import Derived.Shelf.Strconv.Itoa3
import Derived.Shelf.Strings.Search1
import Derived.Shelf.Strings.Prefix
import Derived.Shelf.Strings.Runes
import Derived.Shelf.Strings.AsciiSet
import Derived.Shelf.Unicode.DecodeSlow
import Derived.Below
import Derived.Test.YtcclfkakcgnacaaGreatDoorMb
set_option linter.all false
namespace Go.Ab
open Go Go.Sep
variable [Facts]
def zm7:U→Bool
  |.byte=>true
  |.int=>true
  |.str=>true
  |.fld=>true
  |_=>false
def noLP:P→Bool
  |.list _ _=>false
  |_=>true
def zhx:Cap→Bool
  |.p x=>noLP x
  |.ptr _ _=>true
def noLC:C→Bool
  |.p x=>noLP x
  |.fpt _ _ _ _=>false
  |.fn _ caps=>caps.all zhx
  |.ifc _ _ ps=>ps.all noLP
  |_=>true
def noLV:V0→Bool
  |.one c=>noLC c
  |.agg cs=>cs.all noLC
def noLD:D→Bool
  |.v x=>noLV x
  |.tup l=>l.all noLV
  |.bad=>true
def noLA:AOut→Bool
  |.ret d=>noLD d
  |.pan c=>noLC c
mutual
def noLO:HO→Bool
  |.obj _ cs=>cs.all noLC
  |.row u _ _=>zm7 u
  |.pack l=>zaO l
  |.abs _=>false
  |.gone=>true
def zaO:List HO→Bool
  |[]=>true
  |o::r=>noLO o&&zaO r
end
theorem V4: ∀ {l:List HO} {i:Nat} {o:HO},zaO l=true→l[i]? =some o→noLO o=true
  |[],i,o,_,h=>by simp at h
  |x::l,0,o,hn,h=>by simp only [zaO,Bool.and_eq_true] at hn;simp at h;subst h;exact hn.1
  |x::l,i+1,o,hn,h=>by simp only [zaO,Bool.and_eq_true] at hn;exact V4 (l:=l) hn.2 (by simpa using h)
section
variable {S S':Frz} {bs:List Value}
theorem MP.noL {p:P} {v:Value} (h:MP S p v) (hn:noLP p=true):MP S' p v:=by
  cases h with
  |int k n=>exact .int k n
  |bool b=>exact .bool b
  |str l h=>exact .str l h
  |list=>cases hn
  |val v h=>exact .val v h
theorem MPs.noL: ∀ {ps:List P} {vs:List Value},MPs S ps vs→ps.all noLP=true→MPs S' ps vs
  |[],[],_,_=>trivial
  |p::ps,v::vs,h,hn=>by simp only [List.all_cons,Bool.and_eq_true] at hn;exact⟨h.1.noL hn.1,MPs.noL h.2 hn.2⟩
  |[],_::_,h,_=>h.elim
  |_::_,[],h,_=>h.elim
theorem MCap.noL {p:Cap} {v:Value} (h:MCap S bs p v) (hn:zhx p=true):MCap S' bs p v:=by
  cases p with
  |p x=>exact MP.noL h hn
  |ptr k off=>exact h
theorem rM.noL: ∀ {ps:List Cap} {vs:List Value},rM S bs ps vs→ps.all zhx=true→rM S' bs ps vs
  |[],[],_,_=>trivial
  |p::ps,v::vs,h,hn=>by simp only [List.all_cons,Bool.and_eq_true] at hn;exact⟨h.1.noL hn.1,rM.noL h.2 hn.2⟩
  |[],_::_,h,_=>h.elim
  |_::_,[],h,_=>h.elim
theorem MC.noL {c:C} {v:Value} (h:MC S bs c v) (hn:noLC c=true):MC S' bs c v:=by
  cases c with
  |p x=>exact MP.noL h hn
  |fpt u l i off=>cases hn
  |fn f caps=>obtain⟨vs,h1,h2⟩:=h;exact⟨vs,h1.noL hn,h2⟩
  | ifc T agg ps=>
    cases agg with
    | false=>cases ps with
      |nil=>exact h.elim
      | cons p ps=>cases ps with
        |nil=>obtain⟨x,h1,h2⟩:=h;exact⟨x,h1.noL (by simpa [noLC] using hn),h2⟩
        |cons _ _=>exact h.elim
    |true=>obtain⟨vs,h1,h2⟩:=h;exact⟨vs,h1.noL hn,h2⟩
  |ptr k off=>exact h
  |ept u k i off=>exact h
  |row k=>exact h
  |sub u k lo hi=>exact h
  |nilS=>exact h
  |any=>exact h
theorem MCs.noL: ∀ {cs:List C} {vs:List Value},MCs S bs cs vs→cs.all noLC=true→MCs S' bs cs vs
  |[],[],_,_=>trivial
  |p::ps,v::vs,h,hn=>by simp only [List.all_cons,Bool.and_eq_true] at hn;exact⟨h.1.noL hn.1,MCs.noL h.2 hn.2⟩
  |[],_::_,h,_=>h.elim
  |_::_,[],h,_=>h.elim
theorem MV.noL {x:V0} {v:Value} (h:MV S bs x v) (hn:noLV x=true):MV S' bs x v:=by
  cases x with
  |one c=>exact MC.noL h hn
  |agg cs=>obtain⟨vs,h1,h2⟩:=h;exact⟨vs,h1.noL hn,h2⟩
theorem MVs.noL: ∀ {cs:List V0} {vs:List Value},MVs S bs cs vs→cs.all noLV=true→MVs S' bs cs vs
  |[],[],_,_=>trivial
  |p::ps,v::vs,h,hn=>by simp only [List.all_cons,Bool.and_eq_true] at hn;exact⟨h.1.noL hn.1,MVs.noL h.2 hn.2⟩
  |[],_::_,h,_=>h.elim
  |_::_,[],h,_=>h.elim
theorem MD.noL {d:D} {v:Value} (h:MD S bs d v) (hn:noLD d=true):MD S' bs d v:=by
  cases d with
  |v x=>exact MV.noL h hn
  |tup l=>obtain⟨vs,h1,h2⟩:=h;exact⟨vs,h1.noL hn,h2⟩
  |bad=>trivial
theorem EOut.noL {o:AOut} {e:Ending} (h:EOut S bs o e) (hn:noLA o=true):EOut S' bs o e:=by
  cases o with
  | ret d=>cases e with
    |returned v=>exact MD.noL h hn
    |panicked ch=>exact h.elim
    |outgrown=>exact h.elim
  | pan c=>cases e with
    |returned v=>exact h.elim
    |panicked ch=>obtain⟨v,h1,h2⟩:=h;exact⟨v,h1,h2.noL hn⟩
    |outgrown=>exact h.elim
theorem zjS {u:U} (hu:zm7 u=true) (x:u.den) {j:Nat} {p:P} (h:(enc alg u x)[j]? =some p):noLP p=true:=by
  cases u<;>cases hu
  all_goals
    rcases j with _|_|j<;>simp [enc,zie] at h<;>subst h<;>rfl
theorem Rel.noL {o:HO} {c:CO} (h:Rel S bs o c):noLO o=true→Rel S' bs o c:=by
  induction h with
  |obj h=>intro hn;exact .obj (h.noL hn)
  |row hlen hx=>intro hn;exact .row hlen fun i x j p v a b c=>(hx i x j p v a b c).noL (zjS hn x b)
  |pack hl h ih=>intro hn;exact .pack hl fun i o c a b=>ih i o c a b (V4 hn a)
  |gone=>intro _;exact .gone
  |abs hl h ih=>intro hn;cases hn
end
theorem At.lend {w:World} {S:Frz} {E size:Nat} {ao:Option Addr} {n cap:Nat} {cs:List Value} {l:List Chunk} (H:At w (rowC E size (.slice ao n cap) n cs::frzC S::l)):
    ∃ S',S.le S'∧At w (frzC S'::l)∧RdS S' size (.slice ao n cap) n cs∧∀ (w':World) (S2:Frz) (m:List Chunk),S'.le S2→At w' (frzC S2::m)→∃ S3,S.le S3∧At w' (rowC E size (.slice ao n cap) n cs::frzC S3::m):=by
  obtain⟨F,A,B,e,dj,hrow,A',B',e',dj',hfrz,hl⟩:=H
  obtain⟨hF,hlen,hv⟩:=hrow
  obtain⟨hA',h1,h2,h3,h4⟩:=hfrz
  rcases hv with⟨hv,hn⟩|⟨g,cap',cur,fz,hv,hg,hfree,hnc,hcm,hcs,ht⟩
  · cases hv
    have hcs:cs=[]:=List.eq_nil_of_length_eq_zero (by simpa using hlen)
    subst hcs
    exact⟨S,Frz.le.refl S,⟨_,A',B',fun _=>Iff.rfl,dj',⟨hA',h1,h2,h3,h4⟩,hl⟩,fun w' _=>⟨_,0,rfl,Nat.le_refl _,Nat.zero_le _,fun _=>rfl,by simp,fun j u h=>by simp at h⟩,
      fun w' S2 m hle hat=>⟨S2,hle,hat.nilRow _ _⟩⟩
  · cases hv
    have hA: ∀ k,A k↔k=g:=fun k=>by rw [hF k];simp [Value.ownBlock,eq_comm]
    have hgn:S.blk g=none:=by
      cases hS:S.blk g with
      |none=>rfl
      | some o=>
        have:A' g:=(hA' g).2 (by rw [hS];rfl)
        exact(dj g ((hA g).2 rfl) ((e' g).2 (.inl this))).elim
    have hext: ∀ k o,S.blk k=some o→(if k=g then some (.cells cur E fz) else S.blk k)=some o:=fun k o ho=>by
      have:k≠g:=fun hk=>by subst hk;rw [hgn] at ho;cases ho
      simp only [this,if_false];exact ho
    refine⟨S.re S (fun k=>if k=g then some (.cells cur E fz) else S.blk k) rfl rfl rfl hext,⟨rfl,rfl,rfl,hext⟩,⟨F,fun k=>A k∨A' k,B',fun k=>by rw [e k,e' k,or_assoc],?_,⟨fun k=> ?_,h1,h2,h3,fun k o ho=> ?_⟩,hl⟩,fun w' hw'=> ?_,fun w' S2 m hle hat=> ?_⟩
    · rintro k (hk|hk) hB
      · exact dj k hk ((e' k).2 (.inr hB))
      · exact dj' k hk hB
    · show(A k∨A' k)↔(if k=g then some (.cells cur E fz) else S.blk k).isSome=true
      rw [hA k,hA' k]
      by_cases hk:k=g<;>simp [hk]
    · have ho:(if k=g then some (.cells cur E fz) else S.blk k)=some o:=ho
      by_cases hk:k=g
      · subst hk;simp only [if_true,Option.some.injEq] at ho;subst ho;exact hg
      · simp only [hk,if_false] at ho;exact h4 k o ho
    · have hgw:w'.heap[g]? =some (.cells cur E fz):=hw'.2.2.2 g _ (by simp [Frz.re])
      exact Owns.rd ⟨hlen,.inr ⟨g,cap,cur,fz,rfl,hgw,hfree,hnc,hcm,hcs,ht⟩⟩
    · obtain⟨F2,A2,B2,e2,d2,⟨hA2,i1,i2,i3,i4⟩,hm⟩:=hat
      have hS2:S2.blk g=some (.cells cur E fz):=hle.2.2.2 g _ (by simp [Frz.re])
      have hgw:w'.heap[g]? =some (.cells cur E fz):=i4 g _ hS2
      have hshr: ∀ k o,S.blk k=some o→(if k=g then none else S2.blk k)=some o:=fun k o ho=>by
        have hk:k≠g:=fun hk=>by subst hk;rw [hgn] at ho;cases ho
        have:=hle.2.2.2 k o (by simp only [Frz.re,hk,if_false];exact ho)
        simp only [hk,if_false];exact this
      refine⟨S.re S2 (fun k=>if k=g then none else S2.blk k) hle.1 hle.2.1 hle.2.2.1 hshr,⟨hle.1,hle.2.1,hle.2.2.1,hshr⟩,F2,A,fun k=>(A2 k∧k≠g)∨B2 k,fun k=> ?_,fun k hk=> ?_,⟨hF,hlen,.inr ⟨g,cap,cur,fz,rfl,hgw,hfree,hnc,hcm,hcs,ht⟩⟩,fun k=>A2 k∧k≠g,B2,fun _=>Iff.rfl,fun k hk=>d2 k hk.1,⟨fun k=> ?_,i1,i2,i3,fun k o ho=> ?_⟩,hm⟩
      · rw [e2 k,hA k]
        by_cases hk:k=g
        · subst hk
          have:A2 k:=(hA2 k).2 (by rw [hS2];rfl)
          simp [this]
        · simp [hk]
      · have hk:=(hA k).1 hk
        subst hk
        rintro(h|h)
        · exact h.2 rfl
        · exact d2 k ((hA2 k).2 (by rw [hS2];rfl)) h
      · show(A2 k∧k≠g)↔(if k=g then none else S2.blk k).isSome=true
        by_cases hk:k=g
        · simp [hk]
        · simp [hk,hA2 k]
      · have ho:(if k=g then none else S2.blk k)=some o:=ho
        by_cases hk:k=g
        · simp [hk] at ho
        · simp only [hk,if_false] at ho;exact i4 k o ho
theorem Spc.zmS {Pr:Program} {f:Nat} {args args1:List D} {hp hp1 hp':List HO} {out:AOut} {k:Nat} {u:U} {E:Nat} {l:List u.den} (h:Spc Pr f args1 hp1 out hp')
    (hk:hp[k]? =some (.row u E l)) (ha:args.map (D.frz alg k u l)=args1) (hh:setN (hp.map (HO.frz alg k u l)) k .gone=hp1) (ho:noLA out=true) (hp0:zaO hp'=true):
    Spc Pr f args hp out (setN hp' k (.row u E l)):=by
  refine⟨h.1,fun S K fr w vs hHR hargs hat=> ?_⟩
  obtain⟨c,hc,hr⟩:=hHR.get hk
  cases hr with
  | @row _ _ _ _ ao cap ws hlen hx=>
    have hbk:=zH hc
    obtain⟨p,r,hp1',hp2,hp3⟩:=yR hc
    have H:=hat
    rw [hp1',zx] at H
    have H:=H.perm (zC _ _ _ _ _)
    obtain⟨S1,hle,hat1,hrd,hback⟩:=At.lend H
    have hf: ∀ c v,MC S (K.map CO.base) c v→MC S1 (K.map CO.base) (c.frz alg k u l) v:=fun c v hm=>
      C.wG (by rw [hbk];rfl) hlen (fun i x j p v a b c=>(hx i x j p v a b c).mono hle) hrd (hm.mono hle (Ext.refl _))
    have hbs:(K.set k (.gone (.slice ao l.length cap))).map CO.base=K.map CO.base:=yH hc rfl
    have hHR1:HR S1 (K.map CO.base) hp1 (K.set k (.gone (.slice ao l.length cap))):=by
      rw [← hh,yj]
      refine HR.set ⟨by simp [hHR.1],fun i o' c' e1 e2=> ?_⟩ k .gone
      rw [List.getElem?_map,Option.map_eq_some_iff] at e1
      obtain⟨o0,e3,rfl⟩:=e1
      have:=hHR.2 i o0 c' e3 e2
      cases this with
      |obj hm=>exact .obj (hm.map hf)
      |row a b=>exact .row a fun i x j p v q1 q2 q3=>(b i x j p v q1 q2 q3).mono hle
      |pack a b=>exact .pack a fun i o c q1 q2=>(b i o c q1 q2).mono hle (Ext.refl _)
      |abs a b=>exact .abs a fun i o c q1 q2=>(b i o c q1 q2).mono hle (Ext.refl _)
      |gone=>exact .gone
    have hargs1:MDs S1 (K.map CO.base) args1 vs:=by
      rw [← ha]
      clear h hHR hHR1 hp2 hp3 ha
      induction args generalizing vs with
      |nil=>cases vs with|nil=>trivial|cons _ _=>exact hargs.elim
      |cons d ds ih=>cases vs with|nil=>exact hargs.elim|cons v vs=>exact⟨D.wG hf hargs.1,ih vs hargs.2⟩
    have hat2:At w (frzC S1::(CO.zn (K.set k (.gone (.slice ao l.length cap)))++fr)):=by
      rw [hp3,zx]
      exact(At.void hat1).perm (zC _ _ _ _ _).symm
    refine(h.2 S1 _ fr w vs (by rw [hbs];exact hHR1) (by rw [hbs];exact hargs1) hat2).mono fun e w' he=> ?_
    obtain⟨S2,K2,hle2,hex,hHR2,hat3,heo⟩:=he
    rw [hbs] at hex
    obtain⟨S3,hle3,hat4⟩:=hback w' S2 _ hle2 hat3
    have hb2:=hex k _ hbk
    have hk2:k<K2.length:=by simpa using (List.getElem?_eq_some_iff.1 hb2).1
    have hbs2:(K2.set k (.row E u.size ao l.length cap ws)).map CO.base=K2.map CO.base:=zay hb2
    refine⟨S3,K2.set k (.row E u.size ao l.length cap ws),hle3,by rw [hbs2];exact hex,?_,?_,by rw [hbs2];exact heo.noL ho⟩
    · rw [hbs2,yj]
      exact HR.set ⟨hHR2.1,fun i o c e1 e2=>(hHR2.2 i o c e1 e2).noL (V4 hp0 e1)⟩ k (.row hlen fun i x j p v a b c=>(hx i x j p v a b c).mono hle3)
    · refine At.put hk2 (fr:=fr) (hat4.perm ?_)
      exact(List.Perm.swap _ _ _).trans (List.Perm.cons _ List.perm_middle.symm)
theorem Spc.lend {Pr:Program} {f:Nat} {args args0:List D} {hp0 hp1:List HO} {out0:AOut} (h:Spc Pr f args0 hp0 out0 hp1) (u:U) (E:Nat) (l:List u.den) {os hpr:List HO}
    (hh:(hp0++[HO.row u E l]).map (HO.frz alg hp0.length u l)=hp0++[.row u E l]) (ht:wJ (upto 0 hp0.length) (hp0++[.gone])=some (os,hpr)) (hos:os.map (HO.ren fun q=>idx q (upto 0 hp0.length) 0)=hp0)
    (ha:(args.map (D.frz alg hp0.length u l)).map (D.ren fun q=>idx q (upto 0 hp0.length) 0)=args0)
    (ho:noLA (out0.ren (ZH (upto 0 hp0.length) (hp0++[HO.gone]).length))=true) (hn:zaO (ug (ZH (upto 0 hp0.length) (hp0++[HO.gone]).length) (upto 0 hp0.length) hp1 hpr)=true):
    Spc Pr f args (hp0++[.row u E l]) (out0.ren (ZH (upto 0 hp0.length) (hp0++[HO.gone]).length)) (setN (ug (ZH (upto 0 hp0.length) (hp0++[HO.gone]).length) (upto 0 hp0.length) hp1 hpr) hp0.length (.row u E l)):=
  (h.frame (upto 0 hp0.length) ht hos ha).zmS (by simp) rfl (by rw [hh,yj];simp) ho hn
end Go.Ab
namespace Go.Ab
open Go Go.Sep
variable [Facts]
theorem zcZ {α:Type} (x:α):alg.hid x=x:=rfl
theorem ziF (k:IntKind) (x y:Int):alg.shl k x y=k.wrap (x * 2 ^ (min y.toNat k.bits)):=rfl
theorem ziE (x y:Int):alg.shr x y=x.fdiv (2 ^ (min y.toNat 64)):=rfl
theorem zeW (op:BinOp) (k:IntKind) (x y:Int):alg.bits op k x y=k.wrap (match op with
    |.and=>(BitVec.ofInt k.bits x&&& BitVec.ofInt k.bits y).toNat
    |.or=>(BitVec.ofInt k.bits x|||BitVec.ofInt k.bits y).toNat
    |_=>(BitVec.ofInt k.bits x ^^^ BitVec.ofInt k.bits y).toNat:Nat):=rfl
theorem Ud:IntKind.i64.min= -9223372036854775808:=by decide
theorem Ue:IntKind.i64.max=9223372036854775807:=by decide
theorem zj6:IntKind.u8.min=0:=by decide
theorem zj7:IntKind.u8.max=255:=by decide
theorem zaL (c:UInt8):UInt8.ofNat ((c.toNat:Int)).toNat=c:=by simp
theorem uy (c d:UInt8):((c.toNat:Int)=(d.toNat:Int))↔c=d:=by
  constructor
  · intro h;exact UInt8.toNat_inj.1 (by omega)
  · intro h;rw [h]
theorem Spc.UE {Pr:Program} {f:Nat} {args:List D} {hp:List HO} {out:AOut} {hp':List HO} (h:Spc Pr f args (UE hp) out (Ab.UE hp')):Spc Pr f args hp out hp':=by
  refine⟨h.1,fun S K fr w vs hHR hM hA=>(h.2 S K fr w vs (HR.zai.2 hHR) hM hA).mono fun e w' he=> ?_⟩
  obtain⟨S',K',h1,h2,h3,h4,h5⟩:=he
  exact⟨S',K',h1,h2,HR.zai.1 h3,h4,h5⟩
structure CR where
  need:Prop
  out:AOut
  hp:List HO
inductive CT where
  |one (r:CR)
  |br (b:Bool) (t f:CT)
def CT.Good (Pr:Program) (f:Nat) (args:List D) (hp:List HO):CT→Prop
  |.one r=>r.need→Spc Pr f args hp r.out r.hp
  |.br b t e=>(b=true→t.Good Pr f args hp)∧(b=false→e.Good Pr f args hp)
def CT.map (g:CR→CR):CT→CT
  |.one r=>.one (g r)
  |.br b t e=>.br b (t.map g) (e.map g)
def CT.mapO (g:CR→Option CR):CT→Option CT
  |.one r=>match g r with|some r=>some (.one r)|none=>none
  |.br b t e=>match t.mapO g,e.mapO g with|some t,some e=>some (.br b t e)|_,_=>none
def CT.tree (k:CR→Tree):CT→Tree
  |.one r=>k r
  |.br b t e=>.br b (t.tree k) (e.tree k)
theorem CT.Good.map {Pr:Program} {f f':Nat} {args args':List D} {hp hp':List HO} {g:CR→CR} (h: ∀ r:CR,(r.need→Spc Pr f args hp r.out r.hp)→(g r).need→Spc Pr f' args' hp' (g r).out (g r).hp): ∀ {c:CT},c.Good Pr f args hp→(c.map g).Good Pr f' args' hp'
  |.one r,hc=>h r hc
  |.br _ _ _,hc=>⟨fun e=>CT.Good.map h (hc.1 e),fun e=>CT.Good.map h (hc.2 e)⟩
theorem CT.Good.mapO {Pr:Program} {f f':Nat} {args args':List D} {hp hp':List HO} {g:CR→Option CR} (h: ∀ r r':CR,g r=some r'→(r.need→Spc Pr f args hp r.out r.hp)→r'.need→Spc Pr f' args' hp' r'.out r'.hp): ∀ {c c':CT},c.mapO g=some c'→c.Good Pr f args hp→c'.Good Pr f' args' hp'
  | .one r,c',e,hc=>by
    simp only [CT.mapO] at e
    split at e
    · rename_i r' hr;cases e;exact h r r' hr hc
    · cases e
  | .br b t f,c',e,hc=>by
    simp only [CT.mapO] at e
    split at e
    · rename_i t' f' ht hf;cases e;exact⟨fun e=>CT.Good.mapO h ht (hc.1 e),fun e=>CT.Good.mapO h hf (hc.2 e)⟩
    · cases e
structure Know (Pr:Program) where
  f:Nat
  c:Alg→List D→List HO→Option CT
  ok: ∀ args hp r,c alg args hp=some r→r.Good Pr f args hp
def zke:List D→List Nat
  |[]=>[]
  |d::ds=>zjt d++zke ds
def Rk (hp:List HO) (args:List D):List Nat:=gather hp 60 (zke args) []
def frameC (c:List D→List HO→Option CT) (args:List D) (hp:List HO):Option CT:=
  match wJ (Rk hp args) hp with
  |none=>none
  | some (os,hpr)=>match c (args.map (D.ren fun q=>idx q (Rk hp args) 0)) (os.map (HO.ren fun q=>idx q (Rk hp args) 0)) with
    |none=>none
    |some r=>some (r.map fun r=>⟨r.need,r.out.ren (ZH (Rk hp args) hp.length),ug (ZH (Rk hp args) hp.length) (Rk hp args) r.hp hpr⟩)
def V9 (I:Alg) (c:List D→List HO→Option CT):Nat→List D→List HO→Option CT
  |0,args,hp=>frameC c args hp
  | n + 1,args,hp=>match nth hp n with
    | some (.row u E l)=>(match V9 I c n (args.map (D.frz I n u l)) (setN (hp.map (HO.frz I n u l)) n .gone) with
      | some r=>r.mapO fun r=>(match noLA r.out,zaO r.hp with
        |true,true=>some ⟨r.need,r.out,setN r.hp n (.row u E l)⟩
        |_,_=>none)
      |none=>none)
    |_=>V9 I c n args hp
def zu (I:Alg) (c:List D→List HO→Option CT) (args:List D) (hp:List HO):Option CT:=V9 I c hp.length args hp
def ask {Pr:Program} (I:Alg):List (Know Pr)→Nat→List D→List HO→Option CT
  |[],_,_,_=>none
  | k::r,f,args,hp=>match Nat.beq k.f f with
    |true=>(match frameC (k.c I) args hp with|some x=>some x|none=>ask I r f args hp)
    |false=>ask I r f args hp
def drive (q:Nat→List D→List HO→Option CT):Tree→Tree
  |.need p t=>.need p (drive q t)
  |.br b t f=>.br b (drive q t) (drive q f)
  | .call f args hp k=>Si hp fun hp=>match q f args hp with
    |some r=>r.tree fun r=>.need r.need (Si r.hp fun h=>drive q (k r.out h))
    |none=>.call f args hp fun o h=>drive q (k o h)
  |.code c st k=>.code c st k
  |.fin o hp=>.fin o hp
  |.both t f=>.both (drive q t) (drive q f)
  |.qed=>.qed
  |.stop n=>.stop n
def zo (Pr:Program) (f:Nat) (c:List D→List HO→Option CT):Prop:=∀ args hp r,c args hp=some r→r.Good Pr f args hp
section
variable {Pr:Program} {T:Tab} {X:Ctx} {G:AOut→List HO→Prop} {a:Act} {w:World}
theorem Ui {f:Nat} {c:List D→List HO→Option CT} (h:zo Pr f c):zo Pr f (frameC c):=by
  intro args hp r hr
  unfold frameC at hr
  split at hr
  · cases hr
  · rename_i os hpr ht
    split at hr
    · cases hr
    · rename_i r0 hc
      cases hr
      exact CT.Good.map (g:=fun r=>⟨r.need,r.out.ren (ZH (Rk hp args) hp.length),ug (ZH (Rk hp args) hp.length) (Rk hp args) r.hp hpr⟩) (fun r hs hn=>(hs hn).frame _ ht rfl rfl) (h _ _ _ hc)
theorem ql {f:Nat} {c:List D→List HO→Option CT} (h:zo Pr f c): ∀ n,zo Pr f (V9 alg c n)
  |0=>Ui h
  | n + 1 =>by
    intro args hp r hr
    unfold V9 at hr
    split at hr
    · rename_i u E l ho
      rw [zN] at ho
      split at hr
      · rename_i r0 hc
        refine CT.Good.mapO (fun r r' hrr hs hn=> ?_) hr (ql h n _ _ _ hc)
        split at hrr
        · rename_i h1 h2
          cases hrr
          exact Spc.zmS (hs hn) ho rfl rfl h1 h2
        · cases hrr
      · cases hr
    · exact ql h n _ _ _ hr
theorem zf {f:Nat} {c:List D→List HO→Option CT} (h:zo Pr f c):zo Pr f (zu alg c):=fun args hp=>ql h hp.length args hp
theorem sZ: ∀ {kn:List (Know Pr)} {f:Nat},zo Pr f (ask alg kn f)
  |[],f=>fun args hp r hr=>by cases hr
  | k ::r,f=>fun args hp x hr=>by
    unfold ask at hr
    split at hr
    · rename_i hb
      obtain rfl:=Nat.eq_of_beq_eq_true hb
      split at hr
      · rename_i y hy;cases hr;exact Ui k.ok args hp _ hy
      · exact sZ args hp x hr
    · exact sZ args hp x hr
theorem CT.xw {f:Nat} {args:List D} {hp:List HO} {k:AOut→List HO→Tree} {k':AOut→List HO→Tree} (ih: ∀ o h,(k' o h).ok Pr X G→(k o h).ok Pr X G): ∀ {c:CT},c.Good Pr f args hp→(c.tree fun r=>.need r.need (k' r.out r.hp)).ok Pr X G→∃ out hp',Spc Pr f args hp out hp'∧(k out hp').ok Pr X G
  |.one r,hc,h=>⟨r.out,r.hp,hc h.1,ih _ _ h.2⟩
  | .br b t e,hc,h=>by
    cases b with
    |true=>exact CT.xw ih (hc.1 rfl) (h.1 rfl)
    |false=>exact CT.xw ih (hc.2 rfl) (h.2 rfl)
theorem YF {q:Nat→List D→List HO→Option CT} (hq: ∀ f,zo Pr f (q f)): ∀ {t:Tree},(drive q t).ok Pr X G→t.ok Pr X G:=by
  intro t
  induction t with
  |need p t ih=>exact fun h=>⟨h.1,ih h.2⟩
  |br b t f ih1 ih2=>exact fun h=>⟨fun e=>ih1 (h.1 e),fun e=>ih2 (h.2 e)⟩
  | call f args hp k ih=>
    intro h
    simp only [drive,Uk] at h
    split at h
    · rename_i r hr;exact CT.xw (k':=fun o h=>drive q (k o h)) (fun o h=>ih o h) (hq f args hp r hr) h
    · obtain⟨o,hp',h1,h2⟩:=h;exact⟨o,hp',h1,ih _ _ h2⟩
  |code c st k ih=>exact fun h=>h
  |fin o hp=>exact fun h=>h
  |both t f ih1 ih2=>exact fun h=>⟨ih1 h.1,ih2 h.2⟩
  |qed=>exact fun h=>h
  |stop n=>exact fun h=>h
structure Rt where
  B:Code
  K:AEx→St→Tree
def xP (fn:Func):Code:=match fn.body with|some c=>c|none=>.skip
def loopBody:Code→Code
  |.loop b=>b
  |c=>c
def cAt:List Nat→Code→Code
  |[],c=>c
  | n::p,c=>match c with
    |.seq a b=>(match n with|0=>cAt p a|_=>cAt p b)
    |.cond _ t e=>(match n with|0=>cAt p t|_=>cAt p e)
    |.block _ b=>cAt p b
    |c=>c
def kAt (I:Alg) (T:Tab) (cfg:Cfg):List Nat→Code→(AEx→St→Tree)→AEx→St→Tree
  |[],_,K=>K
  | n ::p,c,K=>match c with
    |.seq a b=>(match n with|0=>kAt I T cfg p a (fun e st=>match e with|.normal=>vc I T cfg b K st|e=>K e st)|_=>kAt I T cfg p b K)
    |.cond _ t e=>(match n with|0=>kAt I T cfg p t K|_=>kAt I T cfg p e K)
    | .block id b=>kAt I T cfg p b (fun e st=>match e with
      |.exit j=>(match Nat.beq j id with|true=>K .normal st|false=>K (.exit j) st)
      |e=>K e st)
    |_=>K
def rtAt:Nat→List Rt→Rt
  |_,[]=>⟨.skip,fun _ _=>.stop 50⟩
  |0,r::_=>r
  |n+1,_::l=>rtAt n l
def leaf (I:Alg) (T:Tab) (cfg:Cfg) (R:List Rt) (i:Nat) (p:List Nat) (st:St):Tree:=
  .code (cAt p (rtAt i R).B) st (kAt I T cfg p (rtAt i R).B (rtAt i R).K)
def zm2 (I:Alg) (T:Tab) (cfg:Cfg) (c:Code) (K:AEx→St→Tree) (st:St):Tree:=
  match c with
  |.region _ ops draw=>regT I T cfg ops draw K (st.tidy cfg.keep)
  |c=>vc I T cfg c K st
def go (I:Alg) (T:Tab) (cfg:Cfg) (kn:List (Know Pr)) (R:List Rt) (i:Nat) (p:List Nat) (st:St):Tree:=
  drive (ask I kn) (zm2 I T cfg (cAt p (rtAt i R).B) (kAt I T cfg p (rtAt i R).B (rtAt i R).K) st)
def cutM (cfg:Cfg) (k0:Nat) (dom:List Nat) (st:St):Option St:=St.cut cfg.fsl k0 dom (Zz cfg.mv st)
def zmr (cfg:Cfg) (k0:Nat) (dom:List Nat) (A:St→Prop) (k:AEx→St→Tree):AEx→St→Tree:=fun e st=>
  match e with
  |.normal=>(match cutM cfg k0 dom st with|some s=>.need (A s) .qed|none=>.stop 19)
  |e=>k e st
def round (I:Alg) (T:Tab) (cfg:Cfg) (k0:Nat) (dom:List Nat) (A:St→Prop) (R:List Rt) (i:Nat) (p:List Nat):Rt:=
  ⟨loopBody (cAt p (rtAt i R).B),zmr cfg k0 dom A (kAt I T cfg p (rtAt i R).B (rtAt i R).K)⟩
inductive PT where
  |need (p:Prop) (t:PT)
  |br (b:Bool) (t f:PT)
  |code (i:Nat) (p:List Nat) (st:St)
  |fin (o:AOut) (hp:List HO)
  |both (t f:PT)
  |qed
  |stop (n:Nat)
def PT.inst (I:Alg) (T:Tab) (cfg:Cfg) (R:List Rt):PT→Tree
  |.need p t=>.need p (t.inst I T cfg R)
  |.br b t f=>.br b (t.inst I T cfg R) (f.inst I T cfg R)
  |.code i p st=>leaf I T cfg R i p st
  |.fin o hp=>.fin o hp
  |.both t f=>.both (t.inst I T cfg R) (f.inst I T cfg R)
  |.qed=>.qed
  |.stop n=>.stop n
theorem zh {I:Alg} {cfg:Cfg} {kn:List (Know Pr)} {R:List Rt} {i:Nat} {p:List Nat} {st:St} (pt:PT) (h:go I T cfg kn R i p st=pt.inst I T cfg R) (k:Ok Pr X G (pt.inst I T cfg R)):Ok Pr X G (go I T cfg kn R i p st):=h▸k
theorem za3 {I:Alg} {cfg:Cfg} {R:List Rt} {p:Prop} {t:PT}:Ok Pr X G (PT.inst I T cfg R (.need p t))↔p∧Ok Pr X G (t.inst I T cfg R):=zk8
theorem zhJ {I:Alg} {cfg:Cfg} {R:List Rt} {b:Bool} {t f:PT}:Ok Pr X G (PT.inst I T cfg R (.br b t f))↔(b=true→Ok Pr X G (t.inst I T cfg R))∧(b=false→Ok Pr X G (f.inst I T cfg R)):=znR
theorem za5 {I:Alg} {cfg:Cfg} {R:List Rt} {t f:PT}:Ok Pr X G (PT.inst I T cfg R (.both t f))↔Ok Pr X G (t.inst I T cfg R)∧Ok Pr X G (f.inst I T cfg R):=zk9
theorem zea {I:Alg} {cfg:Cfg} {R:List Rt} {o:AOut} {hp:List HO}:Ok Pr X G (PT.inst I T cfg R (.fin o hp))↔G o hp:=zmM
theorem zd9 {I:Alg} {cfg:Cfg} {R:List Rt}:Ok Pr X G (PT.inst I T cfg R .qed)↔True:=zmL
theorem za2 {I:Alg} {cfg:Cfg} {R:List Rt} {n:Nat}:Ok Pr X G (PT.inst I T cfg R (.stop n))↔False:=zk7
theorem za4 {I:Alg} {cfg:Cfg} {R:List Rt} {i:Nat} {p:List Nat} {st:St}:Ok Pr X G (PT.inst I T cfg R (.code i p st))↔Ok Pr X G (leaf I T cfg R i p st):=Iff.rfl
def Yv (cfg:Cfg):Code→Bool
  |.region id _ _=>memN id cfg.seam
  |_=>false
theorem spcG {P:Program} {T:Tab} (hT:T.fits P) (hm:P.follows .mixedOrders=true) {f:Nat} {fn:Func} (hf:P.funcs[f]? =some fn) (hn:(fn.name == "runtime.NumGoroutine")=false) (cfg:Cfg) (kn:List (Know P)) {args:List D} {hp:List HO} {out:AOut} {hp':List HO}
    (hb:(fn.body.isSome&& !Yv cfg (xP fn)&&Nat.ble args.length fn.ntmps)=true)
    (h: ∀ (I:Alg) (X:Ctx),I=alg→X.bs0.length=hp.length→Ok P X (fun o h=>o=out∧h=hp') (go I T cfg kn [⟨xP fn,finK I T cfg hp.length fn⟩] 0 [] { env:=UN 0 args,hp:=hp,n:=fn.ntmps})):Spc P f args hp out hp':=by
  simp only [Bool.and_eq_true,Bool.not_eq_true'] at hb
  refine ze6 hT hm hf hn (cfg:=cfg) hb.1.1 hb.2 fun I X hI hX=> ?_
  subst hI
  have h1:=(h alg X rfl hX).out
  have h2:=YF (fun f=>sZ) h1
  have hs:=hb.1.2
  unfold funT
  unfold xP at h2 hs
  cases hbd:fn.body with
  |none=>rw [hbd] at hb;cases hb.1.1
  | some c=>
    rw [hbd] at h2 hs
    simp only [rtAt,cAt,kAt] at h2
    simp only at hs ⊢
    cases c<;>first|exact h2|skip
    simp only [Yv] at hs
    simp only [vc,hs]
    exact h2
theorem sN (hT:T.fits Pr) (hm:Pr.follows .mixedOrders=true) {cfg:Cfg} {c:Code} {K:AEx→St→Tree} {st:St} (h:(zm2 alg T cfg c K st).ok Pr X G) (hn:Now X st a w):c.wp Pr (Post X fun e st'=>(K e st').ok Pr X G) a w:=by
  cases c with
  |region id ops draw=>exact Tn hT hm h (hn.tidy cfg.keep)
  |_=>exact zc6 hT hm (cfg:=cfg) h hn
theorem Xg {cfg:Cfg} {k0:Nat} (hk:X.bs0.length=k0) {dom:List Nat} {st s:St} (hc:cutM cfg k0 dom st=some s) (hn:Now X st a w):Now X s a w:=by
  obtain⟨S,K,hH,hE⟩:=hn
  obtain⟨K',h1,h2⟩:=sK cfg.mv hH hE
  exact zil hk hc ⟨S,K',h1,h2⟩
theorem zA {I:Alg} (hI:I=alg) (hT:T.fits Pr) (hm:Pr.follows .mixedOrders=true) {cfg:Cfg} (kn:List (Know Pr)) {R:List Rt} {i:Nat} {p:List Nat} {st:St} {k0:Nat} (hk:X.bs0.length=k0) (dom:List Nat) {ι:Type} (Inv:ι→Prop) (Iv:ι→St) (μ:ι→Nat) (g0:ι)
    (hc:(match cAt p (rtAt i R).B with|.loop b=> !Yv cfg b|_=>false)=true) (h0:cutM cfg k0 dom st=some (Iv g0)) (hg0:Inv g0)
    (hr: ∀ (g:ι),Inv g→∀ (A:St→Prop),(∀ g',Inv g'→μ g'<μ g→A (Iv g'))→Ok Pr X G (go I T cfg kn (round I T cfg k0 dom A R i p::R) 0 [] (Iv g))):Ok Pr X G (leaf I T cfg R i p st):=by
  subst hI
  constructor
  unfold leaf
  intro S K a w hH hE
  obtain⟨b,hb⟩: ∃ b,cAt p (rtAt i R).B=.loop b:=by
    cases h:cAt p (rtAt i R).B<;>rw [h] at hc<;>first|exact⟨_,rfl⟩|cases hc
  rw [hb]
  refine wp_loop_ghost (fun n a w=>∃ g,Inv g∧μ g=n∧Now X (Iv g) a w) (μ g0) ⟨g0,hg0,rfl,Xg hk h0 ⟨S,K,hH,hE⟩⟩ ?_
  rintro n a w ⟨g,hg,rfl,hn⟩
  have h1:=(hr g hg (fun s=>∃ g',Inv g'∧μ g'<μ g∧s=Iv g') (fun g' hi hl=>⟨g',hi,hl,rfl⟩)).out
  have h2:=YF (fun f=>sZ) h1
  simp only [rtAt,cAt,kAt,round,hb,loopBody] at h2
  refine wp_mono (sN hT hm h2 hn) fun e a' w' hq=> ?_
  obtain⟨e',st',h1,S',K',hH',hE',hem⟩:=hq
  generalize kAt alg T cfg p (rtAt i R).B (rtAt i R).K=k at h1
  have keep: ∀ {e:Exit} {e':AEx},(∀ (h:e'=.normal),False)→EM S' (K'.map CO.base) e e'→(k e' st').ok Pr X G→Post X (fun e st'=>(k e st').ok Pr X G) e a' w':=fun {e e'} _ hem h=>⟨e',st',h,S',K',hH',hE',hem⟩
  cases e' with
  | normal=>
    cases e with
    | normal=>
      have h1:((match cutM cfg k0 dom st' with|some s=>Tree.need (∃ g',Inv g'∧μ g'<μ g∧s=Iv g') .qed|none=>.stop 19):Tree).ok Pr X G:=h1
      split at h1
      · rename_i s hs
        obtain⟨⟨g',hi,hlt,rfl⟩,_⟩:=h1
        exact⟨μ g',hlt,g',hi,rfl,Xg hk hs ⟨S',K',hH',hE'⟩⟩
      · exact h1.elim
    |exit i=>exact hem.elim
    |goto l=>exact hem.elim
    |ret=>exact hem.elim
    |panic ch=>exact hem.elim
    |outgrown=>exact hem.elim
  | exit j=>cases e with
    |exit i=>exact keep (fun h=>by cases h) hem h1
    |normal=>exact hem.elim
    |goto l=>exact hem.elim
    |ret=>exact hem.elim
    |panic ch=>exact hem.elim
    |outgrown=>exact hem.elim
  | ret=>cases e with
    |ret=>exact keep (fun h=>by cases h) hem h1
    |normal=>exact hem.elim
    |goto l=>exact hem.elim
    |exit j=>exact hem.elim
    |panic ch=>exact hem.elim
    |outgrown=>exact hem.elim
  | pan c=>cases e with
    |panic ch=>exact keep (fun h=>by cases h) hem h1
    |normal=>exact hem.elim
    |goto l=>exact hem.elim
    |exit j=>exact hem.elim
    |ret=>exact hem.elim
    |outgrown=>exact hem.elim
theorem seam {I:Alg} (hI:I=alg) (hT:T.fits Pr) (hm:Pr.follows .mixedOrders=true) {cfg:Cfg} (kn:List (Know Pr)) {R:List Rt} {i:Nat} {p:List Nat} {st:St} {k0:Nat} (hk:X.bs0.length=k0) (dom:List Nat) (st1:St)
    (h0:cutM cfg k0 dom st=some st1) (hr:Ok Pr X G (go I T cfg kn R i p st1)):Ok Pr X G (leaf I T cfg R i p st):=by
  subst hI
  constructor
  intro S K a w hH hE
  exact sN hT hm (YF (fun f=>sZ) hr.out) (Xg hk h0 ⟨S,K,hH,hE⟩)
end
inductive AM where
  |ret
  |pan (c:C)
def MAM (S:Frz) (bs:List Value):AM→FrameMode→Prop
  |.ret,u=>u=.returning
  |.pan c,u=>∃ v,u=.panicking [{ v:=v,recovered:=false}]∧MC S bs c v
def SpcD (Pr:Program) (g:Nat) (caps:List Cap) (m:AM) (hp:List HO) (m':AM) (hp':List HO):Prop:=
  (∃ fn,Pr.funcs[g]? =some fn∧(fn.name == "runtime.NumGoroutine")=false∧fn.body.isNone=false)∧
  ∀ (S:Frz) (K:List CO) (fr:List Chunk) (w:World) (vs:List Value) (u:FrameMode),HR S (K.map CO.base) hp K→rM S (K.map CO.base) caps vs→At w (frzC S::(CO.zn K++fr))→MAM S (K.map CO.base) m u→
    CallsD Pr g vs.toArray u w fun e u' w'=>(∃ v,e=.returned v)∧∃ S' K',S.le S'∧Ext (K.map CO.base) (K'.map CO.base)∧HR S' (K'.map CO.base) hp' K'∧At w' (frzC S'::(CO.zn K'++fr))∧MAM S' (K'.map CO.base) m' (settle u')
structure Door (Pr:Program) where
  g:Nat
  c:Alg→AM→List Cap→List HO→Option (Prop × AM × List HO)
  ok: ∀ m caps hp p m' hp',c alg m caps hp=some (p,m',hp')→p→SpcD Pr g caps m hp m' hp'
def AM.out:AM→AEx
  |.ret=>.ret
  |.pan c=>.pan c
def zmP:AEx→Option AM
  |.normal=>some .ret
  |.ret=>some .ret
  |.pan c=>some (.pan c)
  |.exit _=>none
def zm9 {Pr:Program} (I:Alg) (T:Tab) (cfg:Cfg) (k0:Nat) (fn:Func) (dk:Door Pr) (e:AEx) (st:St):Tree:=
  match st.df with
  |none=>zjO I T cfg k0 fn e st
  | some (g,caps)=>match Nat.beq g dk.g,zmP e with
    | true,some m=>(match dk.c I m caps st.hp with
      |some (p,m',hp')=>.need p (zjO I T cfg k0 fn m'.out { st with hp:=hp',df:=none})
      |none=>.stop 91)
    |_,_=>.stop 92
section
variable {Pr:Program} {T:Tab} {a:Act} {w:World}
theorem zfN {g:Nat} {fn:Func} (hfn:Pr.funcs[g]? =some fn) (hname:(fn.name == "runtime.NumGoroutine")=false) (hbody:fn.body.isNone=false) (args:Array Value):(callFunc g args).run Pr w=.ok (.enter g args) w:=by
  have hname': ¬ fn.name= "runtime.NumGoroutine" :=by simpa using hname
  have hbody': ¬ fn.body=none:=by cases hb:fn.body with|none=>rw [hb] at hbody;cases hbody|some c=>simp
  simp [callFunc,program,hfn,Sem.run]
  rw [if_neg hname',if_neg hbody']
theorem zme {P:Program} {T:Tab} (hT:T.fits P) (hm:P.follows .mixedOrders=true) {f:Nat} {fn:Func} (hf:P.funcs[f]? =some fn) (hn:(fn.name == "runtime.NumGoroutine")=false) (cfg:Cfg) (kn:List (Know P)) (dk:Door P) {args:List D} {hp:List HO} {out:AOut} {hp':List HO}
    (hb:(fn.body.isSome&& !Yv cfg (xP fn)&&Nat.ble args.length fn.ntmps)=true)
    (h: ∀ (I:Alg) (X:Ctx),I=alg→X.bs0.length=hp.length→Ok P X (fun o h=>o=out∧h=hp') (go I T cfg kn [⟨xP fn,zm9 I T cfg hp.length fn dk⟩] 0 [] { env:=UN 0 args,hp:=hp,n:=fn.ntmps})):Spc P f args hp out hp':=by
  simp only [Bool.and_eq_true,Bool.not_eq_true'] at hb
  obtain⟨⟨hb1,hb2⟩,hb3⟩:=hb
  obtain⟨c,hc⟩:=Option.isSome_iff_exists.1 hb1
  have hbo:xP fn=c:=by unfold xP;rw [hc]
  refine⟨⟨fn,hf,hn,by rw [hc];rfl⟩,fun S K fr w vs hHR hargs hat=> ?_⟩
  have h1:=(h alg ⟨S,K.map CO.base,fr⟩ rfl (by simp [hHR.1])).out
  have h2:=YF (fun f=>sZ) h1
  simp only [rtAt,cAt,kAt,hbo] at h2
  have hal:=hargs.length
  have hle:=Nat.le_of_ble_eq_true hb3
  have hnow:Now ⟨S,K.map CO.base,fr⟩ { env:=UN 0 args,hp:=hp,n:=fn.ntmps} { tmps:=vs.toArray++Array.replicate (fn.ntmps - vs.toArray.size) undef,defers:=[]} w:=by
    refine⟨S,K,⟨Frz.le.refl S,Ext.refl _,hHR,hat⟩,⟨?_,rfl,fun t d hd=> ?_⟩⟩
    · simp [hal];omega
    · obtain⟨_,v,h1,h2⟩:=qW hargs hd
      simp only [Nat.sub_zero] at h1
      have hlt:=(List.getElem?_eq_some_iff.1 h1).1
      have e:(vs.toArray++Array.replicate (fn.ntmps - vs.toArray.size) undef).getD t undef=v:=by
        rw [Array.getD_eq_getD_getElem?,Array.getElem?_append_left (by simpa using hlt)]
        simp [h1]
      rw [e];exact h2
  refine calls_of_wp_defers hf hc (wp_mono (sN hT hm h2 hnow) fun e a w' hq=> ?_)
  obtain⟨e',st',hk,S',K',hH,hE,hem⟩:=hq
  have hlen:(K.map CO.base).length=hp.length:=by simp [hHR.1]
  unfold zm9 at hk
  split at hk
  · rename_i hdf
    have hd:a.defers=[]:=by have:=hE.defers;rw [hdf] at this;exact this
    have hfin:=zbr (X:=⟨S,K.map CO.base,fr⟩) hT hlen hk hH hE hem
    cases e with
    |normal=>show Leaves P fn a.tmps _ a.defers .returning w';rw [hd];exact hfin
    |ret=>show Leaves P fn a.tmps _ a.defers .returning w';rw [hd];exact hfin
    |panic ch=>show Leaves P fn a.tmps _ a.defers (.panicking ch) w';rw [hd];exact hfin
    |exit i=>exact hfin.elim
    |goto l=>exact hfin.elim
    |outgrown=>exact hfin.elim
  · rename_i g caps hdf
    split at hk
    · rename_i m hg hmo
      have hg:=Nat.eq_of_beq_eq_true hg
      split at hk
      · rename_i p m' hp2 hc2
        obtain⟨hpn,hk⟩:=hk
        have hds:=hE.defers
        rw [hdf] at hds
        obtain⟨us,hcap,hds⟩:=hds
        have hspec:=dk.ok _ _ _ _ _ _ hc2 hpn
        rw [← hg] at hspec
        obtain⟨⟨gn,hgn,hgname,hgbody⟩,hspec⟩:=hspec
        have key: ∀ u,MAM S' (K'.map CO.base) m u→u≠ .run→Leaves P fn a.tmps (fun e w'=>∃ S' K',S.le S'∧Ext (K.map CO.base) (K'.map CO.base)∧HR S' (K'.map CO.base) hp' K'∧At w' (frzC S'::(CO.zn K'++fr))∧EOut S' (K'.map CO.base) out e) a.defers u w':=by
          intro u hu hrun
          rw [hds]
          refine⟨hrun,_,_,g,us.toArray,rfl,?_,CallsD.mono (hspec S' K' fr w' us u hH.2.2.1 hcap hH.2.2.2 hu) ?_⟩
          · simp only [invoke,Array.empty_append]
            exact zfN hgn hgname hgbody _
          · rintro e2 u' w2 ⟨⟨v,rfl⟩,S2,K2,hle2,hex2,hHR2,hat2,hm2⟩
            simp only
            have hH2:Heap ⟨S,K.map CO.base,fr⟩ hp2 S2 K2 w2:=⟨hH.1.trans hle2,hH.2.1.trans hex2,hHR2,hat2⟩
            have hE2:Env S2 (K2.map CO.base) { st' with hp:=hp2,df:=none} { a with defers:=[]}:=⟨hE.size,rfl,fun t d hd=>(hE.slots t d hd).mono hle2 hex2⟩
            cases m' with
            | ret=>
              have:settle u'=.returning:=hm2
              rw [this]
              exact zbr (X:=⟨S,K.map CO.base,fr⟩) (e:=.ret) hT hlen hk hH2 hE2 trivial
            | pan c=>
              obtain⟨v2,h5,h6⟩:=hm2
              rw [h5]
              exact zbr (X:=⟨S,K.map CO.base,fr⟩) (e:=.panic _) hT hlen hk hH2 hE2 ⟨v2,rfl,h6⟩
        cases e with
        |normal=>cases e'<;>first|exact hem.elim|(cases hmo;exact key .returning rfl (by simp))
        |ret=>cases e'<;>first|exact hem.elim|(cases hmo;exact key .returning rfl (by simp))
        |panic ch=>cases e'<;>first|exact hem.elim|(cases hmo;exact key (.panicking ch) (by obtain⟨v,h1,h2⟩:=hem;exact⟨v,by rw [h1],h2⟩) (by simp))
        |exit i=>cases e'<;>first|exact hem.elim|(cases hmo;done)
        |goto l=>cases e'<;>exact hem.elim
        |outgrown=>cases e'<;>exact hem.elim
      · exact hk.elim
    · exact hk.elim
def recC:AM→C
  |.ret=>.p (.val .nilIface)
  |.pan c=>c
theorem YV {P:Program} {T:Tab} (hT:T.fits P) (hm:P.follows .mixedOrders=true) {f:Nat} {fn:Func} (hf:P.funcs[f]? =some fn) (hn:(fn.name == "runtime.NumGoroutine")=false) (cfg:Cfg) (kn:List (Know P))
    {id t t2 ty0 ty1:Nat} {pos0 pos1:String} {af0 af1:Array Edge} {rest:Code}
    (hb:fn.body=some (.seq (.region id #[⟨some t,.call ⟨.builtin .recover,#[],#[]⟩,ty0,pos0,af0,none⟩,⟨some t2,.assign (.tmp t),ty1,pos1,af1,none⟩] false) rest))
    {m:AM} {caps:List Cap} {hp hp':List HO}
    (hbb:(Nat.blt t fn.ntmps&&Nat.blt t2 fn.ntmps&& !Nat.beq t t2&&Nat.ble caps.length fn.ntmps&& !Yv cfg rest)=true)
    (h: ∀ (I:Alg) (X:Ctx),I=alg→X.bs0.length=hp.length→Ok P X (fun o h=>o=.ret (.tup [])∧h=hp') (go I T cfg kn [⟨xP fn,finK I T cfg hp.length fn⟩] 0 [1] (({ env:=UN 0 (caps.map dP),hp:=hp,n:=fn.ntmps}:St).put (some t) (.v (.one (recC m))) |>.put (some t2) (.v (.one (recC m)))))):SpcD P f caps m hp .ret hp':=by
  simp only [Bool.and_eq_true,Bool.not_eq_true'] at hbb
  obtain⟨⟨⟨⟨ht,ht2⟩,hne⟩,hle⟩,hseam⟩:=hbb
  have ht:t<fn.ntmps:=by simpa using ht
  have ht2:t2<fn.ntmps:=by simpa using ht2
  have hne:t≠t2:=Nat.ne_of_beq_eq_false hne
  have hle:=Nat.le_of_ble_eq_true hle
  refine⟨⟨fn,hf,hn,by rw [hb];rfl⟩,fun S K fr w vs u hHR hcap hat hmode=> ?_⟩
  have h1:=(h alg ⟨S,K.map CO.base,fr⟩ rfl (by simp [hHR.1])).out
  have h2:=YF (fun f=>sZ) h1
  have hbo:xP fn=.seq (.region id #[⟨some t,.call ⟨.builtin .recover,#[],#[]⟩,ty0,pos0,af0,none⟩,⟨some t2,.assign (.tmp t),ty1,pos1,af1,none⟩] false) rest:=by unfold xP;rw [hb]
  simp only [rtAt,hbo,cAt,kAt] at h2
  have hal:=hcap.mds.length
  rw [List.length_map] at hal
  have hlen:(K.map CO.base).length=hp.length:=by simp [hHR.1]
  refine callsD_of_wpS hf hb fun c₀ cs hu=> ?_
  obtain⟨x,u1,hrec,hx,hset⟩: ∃ x u1,(match recoverD (c₀::cs) with|some (v,cs')=>(v,cs')|none=>(.nilIface,c₀::cs))=(x,{ c₀ with mode:=u1}::cs)∧MC S (K.map CO.base) (recC m) x∧settle u1=.returning:=by
    cases m with
    | ret=>
      have hmode:u=.returning:=hmode
      subst hmode
      refine⟨.nilIface,.returning,?_,.val _ rfl,rfl⟩
      simp only [recoverD,hu]
      cases c₀;simp at hu;subst hu;rfl
    | pan c=>
      obtain⟨v,rfl,hv⟩:=hmode
      refine⟨v,.panicking [{ v:=v,recovered:=true}],?_,hv,rfl⟩
      simp [recoverD,hu]
  have hnow:Now ⟨S,K.map CO.base,fr⟩ (({ env:=UN 0 (caps.map dP),hp:=hp,n:=fn.ntmps}:St).put (some t) (.v (.one (recC m))) |>.put (some t2) (.v (.one (recC m)))) (({ tmps:=vs.toArray++Array.replicate (fn.ntmps - vs.toArray.size) undef,defers:=[]}:Act).put (some t) x |>.put (some t2) x) w:=by
    have hE0:Env S (K.map CO.base) { env:=UN 0 (caps.map dP),hp:=hp,n:=fn.ntmps} { tmps:=vs.toArray++Array.replicate (fn.ntmps - vs.toArray.size) undef,defers:=[]}:=by
      refine⟨?_,rfl,fun t d hd=> ?_⟩
      · simp [hal];omega
      · obtain⟨_,v,h1,h2⟩:=qW hcap.mds hd
        simp only [Nat.sub_zero] at h1
        have hlt:=(List.getElem?_eq_some_iff.1 h1).1
        have e:(vs.toArray++Array.replicate (fn.ntmps - vs.toArray.size) undef).getD t undef=v:=by
          rw [Array.getD_eq_getD_getElem?,Array.getElem?_append_left (by simpa using hlt)]
          simp [h1]
        rw [e];exact h2
    exact⟨S,K,by rw [wM,wM];exact⟨Frz.le.refl S,Ext.refl _,hHR,hat⟩,(hE0.put (some t) (d:=.v (.one (recC m))) hx).put (some t2) (d:=.v (.one (recC m))) hx⟩
  have hw:=sN hT hm h2 hnow
  refine wpS_seq (wpS_region ?_)
  have hsz:t<(vs.toArray++Array.replicate (fn.ntmps - vs.toArray.size) undef).size:=by simp [hal];omega
  have hev:({ tmps:=(vs.toArray++Array.replicate (fn.ntmps - vs.toArray.size) undef).setIfInBounds t x,defers:=[]}:Act).eval (.tmp t)=x:=by
    simp only [Act.eval]
    rw [Array.getD_eq_getD_getElem?,Array.getElem?_setIfInBounds_self_of_lt hsz];rfl
  have hgoal:rest.wpS P (bodyPostS P fn c₀ cs fun e u' w'=>(∃ v,e=.returned v)∧∃ S' K',S.le S'∧Ext (K.map CO.base) (K'.map CO.base)∧HR S' (K'.map CO.base) hp' K'∧At w' (frzC S'::(CO.zn K'++fr))∧MAM S' (K'.map CO.base) .ret (settle u'))
      (({ tmps:=vs.toArray++Array.replicate (fn.ntmps - vs.toArray.size) undef,defers:=[]}:Act).put (some t) x |>.put (some t2) x) ({ c₀ with mode:=u1}::cs) w:=by
    refine wpS_of_wp (wp_mono hw fun e a' w' hq=> ?_)
    obtain⟨e',st',hk,S',K',hH,hE,hem⟩:=hq
    unfold finK at hk
    split at hk
    case h_2=>exact hk.elim
    rename_i hdf
    have hd:a'.defers=[]:=by have:=hE.defers;rw [hdf] at this;exact this
    have hfin:=zbr (X:=⟨S,K.map CO.base,fr⟩) hT hlen hk hH hE hem
    cases e with
    |normal=>obtain⟨v,hv,S2,K2,h5,h6,h7,h8,_⟩:=hfin;exact⟨hd,u1,rfl,v,hv,⟨v,rfl⟩,S2,K2,h5,h6,h7,h8,hset⟩
    |ret=>obtain⟨v,hv,S2,K2,h5,h6,h7,h8,_⟩:=hfin;exact⟨hd,u1,rfl,v,hv,⟨v,rfl⟩,S2,K2,h5,h6,h7,h8,hset⟩
    |panic ch=>obtain⟨S2,K2,h5,h6,h7,h8,h9⟩:=hfin;exact h9.elim
    |exit i=>exact hfin.elim
    |goto l=>exact hfin.elim
    |outgrown=>exact hfin.elim
  clear hnow hw
  generalize vs.toArray++Array.replicate (fn.ntmps - vs.toArray.size) undef=tm at hev hgoal hsz ⊢
  have hr0: ∀ (a:Act),(execOp a.eval ⟨some t,.call ⟨.builtin .recover,#[],#[]⟩,ty0,pos0,af0,none⟩).run P w=.ok .recover w:=by
    intro a;simp [execOp,Go.resolve,invoke,builtin]
  simp only [List.size_toArray,List.length_cons,List.length_nil,Nat.zero_add,Nat.reduceAdd,List.range_succ_eq_map,List.range_zero,List.map_cons,List.map_nil]
  simp only [wpOpsS,List.getElem?_toArray,List.getElem?_cons_zero,List.getElem?_cons_succ,Region.wanted,if_true,hr0]
  cases hq:recoverD (c₀::cs) with
  | none=>
    rw [hq] at hrec
    simp only [Prod.mk.injEq] at hrec
    obtain⟨rfl,hcs⟩:=hrec
    simp only [Act.put,execOp,Sem.run_pure,hev,Oper.upon,Exit.thenS]
    rw [hcs]
    exact hgoal
  | some y=>
    obtain⟨y,cs'⟩:=y
    rw [hq] at hrec
    simp only [Prod.mk.injEq] at hrec
    obtain⟨rfl,rfl⟩:=hrec
    simp only [Act.put,execOp,Sem.run_pure,hev,Oper.upon,Exit.thenS]
    exact hgoal
end
theorem nrmA:type_of% (And.intro @zc1 <| And.intro @ziH <| And.intro @wo <| And.intro @rf <| And.intro @zcY <| And.intro @zcX <| And.intro @ziG <| And.intro @zeV <| And.intro @Q7 <| And.intro @Q8 <| And.intro @Q9 <| And.intro @zaa <| And.intro @Xj <| And.intro @rD <| And.intro @UB <| And.intro @zc0 <| And.intro @Uz <| And.intro @zQ <| And.intro @Xk <| And.intro @xQ <| And.intro @zab <| And.intro @zcW <| And.intro @UA <| And.intro @ZI <| And.intro @ru <| And.intro @YR <| And.intro @Zg <| And.intro @rC <| And.intro @Q5 <| And.intro @Xi <| And.intro @zcZ <| And.intro @ziF <| And.intro @ziE <| @zeW):=And.intro @zc1 <| And.intro @ziH <| And.intro @wo <| And.intro @rf <| And.intro @zcY <| And.intro @zcX <| And.intro @ziG <| And.intro @zeV <| And.intro @Q7 <| And.intro @Q8 <| And.intro @Q9 <| And.intro @zaa <| And.intro @Xj <| And.intro @rD <| And.intro @UB <| And.intro @zc0 <| And.intro @Uz <| And.intro @zQ <| And.intro @Xk <| And.intro @xQ <| And.intro @zab <| And.intro @zcW <| And.intro @UA <| And.intro @ZI <| And.intro @ru <| And.intro @YR <| And.intro @Zg <| And.intro @rC <| And.intro @Q5 <| And.intro @Xi <| And.intro @zcZ <| And.intro @ziF <| And.intro @ziE <| @zeW
theorem nrmB:type_of% (And.intro @decide_eq_true_eq <| And.intro @decide_eq_false_iff_not <| And.intro @beq_iff_eq.{0} <| And.intro @beq_eq_false_iff_ne.{0} <| And.intro @Bool.not_eq_true' <| And.intro @Bool.not_eq_false' <| And.intro @Bool.and_eq_true <| And.intro @Bool.and_true <| And.intro @Bool.true_and <| And.intro @and_true <| And.intro @true_and <| And.intro @ne_eq.{1} <| And.intro @Int.toNat_zero <| And.intro @Nat.sub_zero <| And.intro @List.drop_zero.{0} <| And.intro @Ud <| And.intro @Ue <| And.intro @zj6 <| And.intro @zj7 <| And.intro @zaL <| And.intro @uy <| And.intro @Int.toNat_natCast <| And.intro @Int.ofNat_eq_natCast <| And.intro @UInt8.ofNat_toNat <| And.intro @AOut.ret.injEq <| And.intro @AOut.pan.injEq <| And.intro @C.ifc.injEq <| And.intro @D.v.injEq <| And.intro @D.tup.injEq <| And.intro @V0.one.injEq <| And.intro @C.p.injEq <| And.intro @P.bool.injEq <| And.intro @P.int.injEq <| And.intro @P.str.injEq <| And.intro @Bool.false_eq_true <| And.intro @Bool.true_eq_false <| And.intro @imp_false <| And.intro @Decidable.not_not <| And.intro @not_true_eq_false <| @not_false_eq_true):=And.intro @decide_eq_true_eq <| And.intro @decide_eq_false_iff_not <| And.intro @beq_iff_eq.{0} <| And.intro @beq_eq_false_iff_ne.{0} <| And.intro @Bool.not_eq_true' <| And.intro @Bool.not_eq_false' <| And.intro @Bool.and_eq_true <| And.intro @Bool.and_true <| And.intro @Bool.true_and <| And.intro @and_true <| And.intro @true_and <| And.intro @ne_eq.{1} <| And.intro @Int.toNat_zero <| And.intro @Nat.sub_zero <| And.intro @List.drop_zero.{0} <| And.intro @Ud <| And.intro @Ue <| And.intro @zj6 <| And.intro @zj7 <| And.intro @zaL <| And.intro @uy <| And.intro @Int.toNat_natCast <| And.intro @Int.ofNat_eq_natCast <| And.intro @UInt8.ofNat_toNat <| And.intro @AOut.ret.injEq <| And.intro @AOut.pan.injEq <| And.intro @C.ifc.injEq <| And.intro @D.v.injEq <| And.intro @D.tup.injEq <| And.intro @V0.one.injEq <| And.intro @C.p.injEq <| And.intro @P.bool.injEq <| And.intro @P.int.injEq <| And.intro @P.str.injEq <| And.intro @Bool.false_eq_true <| And.intro @Bool.true_eq_false <| And.intro @imp_false <| And.intro @Decidable.not_not <| And.intro @not_true_eq_false <| @not_false_eq_true
theorem nrlB:type_of% (And.intro @List.cons.injEq.{0} <| And.intro @P.list.injEq <| And.intro @HO.row.injEq <| And.intro @heq_eq_eq.{1} <| And.intro @false_and <| @and_false):=And.intro @List.cons.injEq.{0} <| And.intro @P.list.injEq <| And.intro @HO.row.injEq <| And.intro @heq_eq_eq.{1} <| And.intro @false_and <| @and_false
theorem zl:type_of% (And.intro @za3 <| And.intro @zhJ <| And.intro @za5 <| And.intro @zea <| And.intro @zd9 <| And.intro @za2 <| @za4):=And.intro @za3 <| And.intro @zhJ <| And.intro @za5 <| And.intro @zea <| And.intro @zd9 <| And.intro @za2 <| @za4
end Go.Ab
namespace Go.Ab
open Go Go.Sep Go.RowKit
variable [Facts]
def Holds (W:World):Prop:=∀ w:World,(∀ (k:Nat) (o:Obj),W.heap[k]? =some o→w.heap[k]? =some o)→Facts.p w
def frzW (W:World) (hF:Holds W):Frz:=⟨fun k=>W.heap[k]?,W.os,W.tape,W.output,fun w hw=>hF w hw.2.2.2⟩
theorem tabIs_of {Pr:Program} {W w:World} (h: ∀ (k:Nat) (o:Obj),W.heap[k]? =some o→w.heap[k]? =some o) {name:String} {cs:Array Value} (hv:W.var? Pr name=some cs):w.var? Pr name=some cs:=by
  unfold World.var? at hv ⊢
  cases hg:Pr.globalNamed name with
  |none=>rw [hg] at hv;cases hv
  | some g=>
    rw [hg] at hv
    simp only [Option.bind_some] at hv ⊢
    split at hv
    · rename_i cs' t f hc;rw [h _ _ hc];exact hv
    · cases hv
theorem zlx (W:World) (hF:Holds W):At W [frzC (frzW W hF)]:=
  ⟨fun k=>(W.heap[k]?).isSome=true,fun k=>(W.heap[k]?).isSome=true,fun _=>False,fun k=>by simp,fun _ _ h=>h,⟨fun _=>Iff.rfl,rfl,rfl,rfl,fun _ _ h=>h⟩,fun _ h=>h⟩
theorem TV {W w:World} {hF:Holds W} (h:(frzW W hF).on w):Below W.heap.size W w:=by
  obtain⟨h1,h2,h3,h4⟩:=h
  have hb: ∀ k,k<W.heap.size→w.heap[k]? =W.heap[k]? :=fun k hk=>by
    have:W.heap[k]? =some W.heap[k]:=by simp [hk]
    rw [h4 k _ this,this]
  refine⟨h1,h2,h3,?_,hb⟩
  rcases Nat.lt_or_ge w.heap.size W.heap.size with hlt|hge
  · have:=hb w.heap.size hlt
    simp at this
    omega
  · exact hge
theorem zlw {W:World} {hF:Holds W} {size:Nat} {v:Value} {n:Nat} {cs:List Value} (h:Rd W size v n cs):RdS (frzW W hF) size v n cs:=by
  intro w hw
  obtain⟨ao,cap,e,h1,h2,h4,h3,hc⟩:=h
  refine⟨ao,cap,e,h1,h2,h4,h3,fun j u hu=> ?_⟩
  obtain⟨hs,hcell⟩:=hc j u hu
  exact⟨hs,((TV hw).cell (block_lt hcell)).trans hcell⟩
theorem Spc.law {Pr:Program} {f:Nat} {args:List D} {hp':List HO} {W:World} {hF:Holds W} {vs:List Value} (h:Spc Pr f args [] (.ret (.v (.one (.p (.bool true))))) hp') (ha:MDs (frzW W hF) [] args vs):
    Calls Pr f vs.toArray W fun e w'=>e=.returned (.bool true)∧Below W.heap.size W w':=by
  refine(h.2 (frzW W hF) [] [] W vs ⟨rfl,fun i o c h=>by simp at h⟩ ha (zlx W hF)).mono fun e w' he=> ?_
  obtain⟨S',K',hle,_,_,hat,ho⟩:=he
  refine⟨?_,TV ((At.frz hat).mono hle)⟩
  cases e with
  |returned v=>cases ho;rfl
  |panicked ch=>exact ho.elim
  |outgrown=>exact ho.elim
theorem Qr {W:World} {hF:Holds W} {v:Value} {u:U} {R:Sep.Rel u.den} (hR: ∀ cs x,R W cs x→MPs (frzW W hF) (enc alg u x) cs) {xs:List u.den} (h:RSl u.size R W [v] xs):MD (frzW W hF) [] (.v (.one (.p (.list u xs)))) v:=by
  obtain⟨v',vs,e,hr,hx⟩:=h
  cases e
  have hlen:=hr.len
  obtain⟨ao,cap,rfl,_⟩:=id hr
  refine MP.list u xs ao cap vs hlen (zlw hr) fun i x j p v hi hj hv=> ?_
  have hm:=hR _ _ (hx i x hi)
  obtain⟨v',h1,h2⟩:=hm.get hj
  rw [List.getElem?_take] at h1
  split at h1
  · rw [List.getElem?_drop,hv] at h1
    cases h1;exact h2
  · cases h1
theorem zhK {W:World} {hF:Holds W} {cs:List Value} {x:UInt8} (h:zfW W cs x):MPs (frzW W hF) (enc alg .byte x) cs:=by
  rw [show cs=[bv x] from h];exact⟨.int _ _,trivial⟩
theorem zm0 {W:World} {hF:Holds W} {cs:List Value} {x:Int} (h:RInt .i64 W cs x):MPs (frzW W hF) (enc alg .int x) cs:=by
  rw [h.1];exact⟨.int _ _,trivial⟩
theorem zmZ {W:World} {hF:Holds W} {cs:List Value} {x:Str} (h:RStr W cs x):MPs (frzW W hF) (enc alg .str x) cs:=by
  rw [h.1];exact⟨.str _ h.2,trivial⟩
theorem in_bytes {W:World} {hF:Holds W} {v:Value} {bs:List UInt8} (h:RSl 1 zfW W [v] bs):MD (frzW W hF) [] (.v (.one (.p (.list .byte bs)))) v:=Qr (u:=.byte) (fun _ _=>zhK) h
theorem in_ints {W:World} {hF:Holds W} {v:Value} {xs:List Int} (h:RSl 1 (RInt .i64) W [v] xs):MD (frzW W hF) [] (.v (.one (.p (.list .int xs)))) v:=Qr (u:=.int) (fun _ _=>zm0) h
theorem in_strs {W:World} {hF:Holds W} {v:Value} {xs:List Str} (h:RSl 1 RStr W [v] xs):MD (frzW W hF) [] (.v (.one (.p (.list .str xs)))) v:=Qr (u:=.str) (fun _ _=>zmZ) h
end Go.Ab
namespace Go.Proofs.YtcclfkakcgnacaaGreatDoor
open Go Go.Ab
instance facts:Facts:= { p:=fun w=>Lib.TabIs Tryz.prog w "internal/strconv.uint64pow10" .u64 Lib.pow10Tab,sh:=fun _=>[],ab:=fun _=>none,abok:=fun _ _ h=>by cases h}
def tabT:TT:=
 (.node (.node (.node (.node (.node (.node (.node (.node .nil 0 ⟨.other,1,0,none,none⟩
 .nil) 1 ⟨.other,1,8,(some [.val .nilFunc]),none⟩
 (.node .nil 2 ⟨.int .i64,1,8,(some [.int .i64 0]),none⟩
 .nil)) 3 ⟨.int .i64,1,8,(some [.int .i64 0]),none⟩
 (.node (.node .nil 4 ⟨.bool,1,1,(some [.bool false]),none⟩
 .nil) 5 ⟨.int .u8,1,1,(some [.int .u8 0]),none⟩
 .nil)) 6 ⟨.int .u8,1,1,(some [.int .u8 0]),none⟩
 (.node (.node (.node .nil 9 ⟨.str,1,16,(some [.str []]),none⟩
 .nil) 10 ⟨.str,1,16,(some [.str []]),none⟩
 .nil) 11 ⟨.str,1,16,(some [.str []]),none⟩
 (.node (.node .nil 12 ⟨.int .u64,1,8,(some [.int .u64 0]),none⟩
 .nil) 15 ⟨.ptr,1,8,(some [.val (.pointer none)]),none⟩
 .nil))) 16 ⟨.ptr,1,8,(some [.val (.pointer none)]),none⟩
 (.node (.node (.node (.node .nil 17 ⟨.ptr,1,8,(some [.val (.pointer none)]),none⟩
 .nil) 20 ⟨.iface,1,16,(some [.val .nilIface]),none⟩
 (.node .nil 21 ⟨.int .i32,1,4,(some [.int .i32 0]),none⟩
 .nil)) 22 ⟨.slice 37,1,24,(some [.list .ask []]),(some .ask)⟩
 (.node (.node .nil 23 ⟨.other,1,8,(some [.val .nilFunc]),none⟩
 .nil) 24 ⟨.other,1,8,(some [.val .nilFunc]),none⟩
 .nil)) 25 ⟨.ptr,1,8,(some [.val (.pointer none)]),none⟩
 (.node (.node (.node .nil 26 ⟨.other,1,8,(some [.val .nilFunc]),none⟩
 .nil) 27 ⟨.ptr,1,8,(some [.val (.pointer none)]),none⟩
 .nil) 28 ⟨.other,1,8,(some [.val .nilFunc]),none⟩
 (.node (.node .nil 29 ⟨.slice 58,1,24,(some [.list .fld []]),(some .fld)⟩
 .nil) 30 ⟨.slice 5,1,24,(some [.list .byte []]),(some .byte)⟩
 .nil)))) 31 ⟨.struct [(0,3),(1,29),(2,30)],3,56,(some [.int .i64 0,.list .fld [],.list .byte []]),none⟩
 (.node (.node (.node (.node (.node .nil 32 ⟨.struct [(0,3),(1,29),(2,30)],3,56,(some [.int .i64 0,.list .fld [],.list .byte []]),none⟩
 .nil) 33 ⟨.other,1,8,(some [.val .nilFunc]),none⟩
 (.node .nil 34 ⟨.struct [(0,9),(1,9),(2,3),(3,29),(4,3)],5,72,(some [.str [],.str [],.int .i64 0,.list .fld [],.int .i64 0]),none⟩
 .nil)) 35 ⟨.struct [(0,9),(1,9),(2,3),(3,29),(4,3)],5,72,(some [.str [],.str [],.int .i64 0,.list .fld [],.int .i64 0]),none⟩
 (.node (.node .nil 36 ⟨.struct [(0,35),(5,30)],6,96,(some [.str [],.str [],.int .i64 0,.list .fld [],.int .i64 0,.list .byte []]),none⟩
 .nil) 37 ⟨.struct [(0,35),(5,30)],6,96,(some [.str [],.str [],.int .i64 0,.list .fld [],.int .i64 0,.list .byte []]),none⟩
 .nil)) 38 ⟨.other,1,8,(some [.val .nilFunc]),none⟩
 (.node (.node (.node .nil 39 ⟨.other,1,0,none,none⟩
 .nil) 40 ⟨.other,1,8,(some [.val .nilFunc]),none⟩
 .nil) 41 ⟨.other,1,8,(some [.val .nilFunc]),none⟩
 (.node (.node .nil 42 ⟨.other,1,8,(some [.val .nilFunc]),none⟩
 .nil) 43 ⟨.slice 67,1,24,(some [.list .upl []]),(some .upl)⟩
 .nil))) 44 ⟨.other,1,8,(some [.val .nilFunc]),none⟩
 (.node (.node (.node (.node .nil 45 ⟨.ptr,1,8,(some [.val (.pointer none)]),none⟩
 .nil) 46 ⟨.ptr,1,8,(some [.val (.pointer none)]),none⟩
 (.node .nil 47 ⟨.struct [(0,45),(1,46)],2,16,(some [.val (.pointer none),.val (.pointer none)]),none⟩
 .nil)) 48 ⟨.struct [(0,45),(1,46)],2,16,(some [.val (.pointer none),.val (.pointer none)]),none⟩
 (.node (.node .nil 49 ⟨.struct [(0,43),(1,3)],2,32,(some [.list .upl [],.int .i64 0]),none⟩
 .nil) 50 ⟨.struct [(0,43),(1,3)],2,32,(some [.list .upl [],.int .i64 0]),none⟩
 .nil)) 51 ⟨.ptr,1,8,(some [.val (.pointer none)]),none⟩
 (.node (.node (.node .nil 52 ⟨.struct [(0,51),(1,30),(2,3)],3,40,(some [.val (.pointer none),.list .byte [],.int .i64 0]),none⟩
 .nil) 53 ⟨.struct [(0,51),(1,30),(2,3)],3,40,(some [.val (.pointer none),.list .byte [],.int .i64 0]),none⟩
 .nil) 54 ⟨.other,1,8,(some [.val .nilFunc]),none⟩
 (.node (.node .nil 55 ⟨.other,1,8,(some [.val .nilFunc]),none⟩
 .nil) 56 ⟨.other,1,8,(some [.val .nilFunc]),none⟩
 .nil))))) 57 ⟨.struct [(0,9),(1,9)],2,32,(some [.str [],.str []]),none⟩
 (.node (.node (.node (.node (.node (.node .nil 58 ⟨.struct [(0,9),(1,9)],2,32,(some [.str [],.str []]),none⟩
 .nil) 59 ⟨.slice 30,1,24,(some [.list .bytes []]),(some .bytes)⟩
 (.node .nil 60 ⟨.other,1,0,none,none⟩
 .nil)) 61 ⟨.other,1,8,(some [.val .nilFunc]),none⟩
 (.node (.node .nil 62 ⟨.other,1,0,none,none⟩
 .nil) 63 ⟨.other,1,8,(some [.val .nilFunc]),none⟩
 .nil)) 64 ⟨.other,1,8,(some [.val .nilFunc]),none⟩
 (.node (.node (.node .nil 65 ⟨.other,1,8,(some [.val .nilFunc]),none⟩
 .nil) 66 ⟨.struct [(0,3),(1,3),(2,9),(3,30),(4,3)],5,64,(some [.int .i64 0,.int .i64 0,.str [],.list .byte [],.int .i64 0]),none⟩
 .nil) 67 ⟨.struct [(0,3),(1,3),(2,9),(3,30),(4,3)],5,64,(some [.int .i64 0,.int .i64 0,.str [],.list .byte [],.int .i64 0]),none⟩
 (.node (.node .nil 68 ⟨.other,1,8,(some [.val .nilFunc]),none⟩
 .nil) 69 ⟨.other,1,8,(some [.val .nilFunc]),none⟩
 .nil))) 70 ⟨.other,1,8,(some [.val .nilFunc]),none⟩
 (.node (.node (.node (.node .nil 71 ⟨.other,1,8,(some [.val .nilFunc]),none⟩
 .nil) 72 ⟨.other,1,8,(some [.val .nilFunc]),none⟩
 (.node .nil 73 ⟨.struct [(0,3),(1,29),(2,30)],3,56,(some [.int .i64 0,.list .fld [],.list .byte []]),none⟩
 .nil)) 74 ⟨.other,1,0,none,none⟩
 (.node (.node .nil 75 ⟨.other,1,8,(some [.val .nilFunc]),none⟩
 .nil) 76 ⟨.ptr,1,8,(some [.val (.pointer none)]),none⟩
 .nil)) 77 ⟨.struct [(0,25),(1,35)],6,80,(some [.val (.pointer none),.str [],.str [],.int .i64 0,.list .fld [],.int .i64 0]),none⟩
 (.node (.node (.node .nil 78 ⟨.struct [(0,25),(1,35)],6,80,(some [.val (.pointer none),.str [],.str [],.int .i64 0,.list .fld [],.int .i64 0]),none⟩
 .nil) 79 ⟨.other,1,8,(some [.val .nilFunc]),none⟩
 .nil) 80 ⟨.other,1,8,(some [.val .nilFunc]),none⟩
 (.node (.node .nil 81 ⟨.other,1,8,(some [.val .nilFunc]),none⟩
 .nil) 82 ⟨.other,1,0,none,none⟩
 .nil)))) 83 ⟨.other,1,8,(some [.val .nilFunc]),none⟩
 (.node (.node (.node (.node (.node .nil 84 ⟨.other,1,8,(some [.val .nilFunc]),none⟩
 .nil) 85 ⟨.slice 9,1,24,(some [.list .str []]),(some .str)⟩
 (.node .nil 86 ⟨.other,1,8,(some [.val .nilFunc]),none⟩
 .nil)) 87 ⟨.other,1,8,(some [.val .nilFunc]),none⟩
 (.node (.node .nil 88 ⟨.other,1,8,(some [.val .nilFunc]),none⟩
 .nil) 89 ⟨.struct [(0,43),(1,3)],2,32,(some [.list .upl [],.int .i64 0]),none⟩
 .nil)) 90 ⟨.struct [(0,43),(1,3)],2,32,(some [.list .upl [],.int .i64 0]),none⟩
 (.node (.node (.node .nil 91 ⟨.other,1,0,none,none⟩
 .nil) 92 ⟨.other,1,8,(some [.val .nilFunc]),none⟩
 .nil) 93 ⟨.other,1,8,(some [.val .nilFunc]),none⟩
 (.node (.node .nil 94 ⟨.other,1,8,(some [.val .nilFunc]),none⟩
 .nil) 95 ⟨.other,1,8,(some [.val .nilFunc]),none⟩
 .nil))) 96 ⟨.other,1,8,(some [.val .nilFunc]),none⟩
 (.node (.node (.node (.node .nil 97 ⟨.slice 101,1,24,(some [.list .ent []]),(some .ent)⟩
 .nil) 98 ⟨.other,1,0,none,none⟩
 .nil) 99 ⟨.other,1,8,(some [.val .nilFunc]),none⟩
 (.node (.node .nil 100 ⟨.struct [(0,3),(1,3),(2,3),(3,30)],4,48,(some [.int .i64 0,.int .i64 0,.int .i64 0,.list .byte []]),none⟩
 .nil) 101 ⟨.struct [(0,3),(1,3),(2,3),(3,30)],4,48,(some [.int .i64 0,.int .i64 0,.int .i64 0,.list .byte []]),none⟩
 .nil)) 102 ⟨.other,1,8,(some [.val .nilFunc]),none⟩
 (.node (.node (.node .nil 103 ⟨.struct [(0,30),(1,3)],2,32,(some [.list .byte [],.int .i64 0]),none⟩
 .nil) 104 ⟨.struct [(0,30),(1,3)],2,32,(some [.list .byte [],.int .i64 0]),none⟩
 .nil) 105 ⟨.other,1,8,(some [.val .nilFunc]),none⟩
 (.node (.node .nil 106 ⟨.other,1,0,none,none⟩
 .nil) 107 ⟨.other,1,8,(some [.val .nilFunc]),none⟩
 .nil)))))) 108 ⟨.other,1,8,(some [.val .nilFunc]),none⟩
 (.node (.node (.node (.node (.node (.node (.node .nil 109 ⟨.other,1,8,(some [.val .nilFunc]),none⟩
 .nil) 110 ⟨.other,1,8,(some [.val .nilFunc]),none⟩
 (.node .nil 111 ⟨.other,1,8,(some [.val .nilFunc]),none⟩
 .nil)) 112 ⟨.struct [(0,3),(1,3),(2,3),(3,30)],4,48,(some [.int .i64 0,.int .i64 0,.int .i64 0,.list .byte []]),none⟩
 (.node (.node .nil 113 ⟨.slice 135,1,24,(some [.list .fld []]),(some .fld)⟩
 .nil) 114 ⟨.struct [(0,9),(1,113)],2,40,(some [.str [],.list .fld []]),none⟩
 .nil)) 115 ⟨.struct [(0,9),(1,113)],2,40,(some [.str [],.list .fld []]),none⟩
 (.node (.node (.node .nil 116 ⟨.other,1,0,none,none⟩
 .nil) 117 ⟨.other,1,8,(some [.val .nilFunc]),none⟩
 .nil) 118 ⟨.other,1,8,(some [.val .nilFunc]),none⟩
 (.node (.node .nil 119 ⟨.other,1,8,(some [.val .nilFunc]),none⟩
 .nil) 120 ⟨.other,1,8,(some [.val .nilFunc]),none⟩
 .nil))) 121 ⟨.other,1,8,(some [.val .nilFunc]),none⟩
 (.node (.node (.node (.node .nil 122 ⟨.ptr,1,8,(some [.val (.pointer none)]),none⟩
 .nil) 123 ⟨.other,1,0,none,none⟩
 (.node .nil 124 ⟨.other,1,8,(some [.val .nilFunc]),none⟩
 .nil)) 125 ⟨.other,1,8,(some [.val .nilFunc]),none⟩
 (.node (.node .nil 126 ⟨.other,1,0,none,none⟩
 .nil) 127 ⟨.other,1,8,(some [.val .nilFunc]),none⟩
 .nil)) 128 ⟨.other,1,8,(some [.val .nilFunc]),none⟩
 (.node (.node (.node .nil 129 ⟨.other,1,8,(some [.val .nilFunc]),none⟩
 .nil) 130 ⟨.other,1,8,(some [.val .nilFunc]),none⟩
 .nil) 131 ⟨.other,1,8,(some [.val .nilFunc]),none⟩
 (.node (.node .nil 132 ⟨.other,1,8,(some [.val .nilFunc]),none⟩
 .nil) 133 ⟨.other,1,8,(some [.val .nilFunc]),none⟩
 .nil)))) 134 ⟨.other,1,8,(some [.val .nilFunc]),none⟩
 (.node (.node (.node (.node (.node .nil 135 ⟨.struct [(0,9),(1,9)],2,32,(some [.str [],.str []]),none⟩
 .nil) 136 ⟨.other,1,8,(some [.val .nilFunc]),none⟩
 (.node .nil 137 ⟨.other,1,8,(some [.val .nilFunc]),none⟩
 .nil)) 138 ⟨.other,1,0,none,none⟩
 (.node (.node .nil 139 ⟨.other,1,8,(some [.val .nilFunc]),none⟩
 .nil) 140 ⟨.array 3 3,3,24,(some [.int .i64 0,.int .i64 0,.int .i64 0]),none⟩
 .nil)) 141 ⟨.other,1,8,(some [.val .nilFunc]),none⟩
 (.node (.node (.node .nil 142 ⟨.other,1,8,(some [.val .nilFunc]),none⟩
 .nil) 143 ⟨.other,1,8,(some [.val .nilFunc]),none⟩
 .nil) 144 ⟨.other,1,8,(some [.val .nilFunc]),none⟩
 (.node (.node .nil 145 ⟨.int .i64,1,8,(some [.int .i64 0]),none⟩
 .nil) 146 ⟨.other,1,0,none,none⟩
 .nil))) 147 ⟨.ptr,1,8,(some [.val (.pointer none)]),none⟩
 (.node (.node (.node (.node .nil 148 ⟨.struct [(0,9)],1,16,(some [.str []]),none⟩
 .nil) 149 ⟨.struct [(0,9)],1,16,(some [.str []]),none⟩
 (.node .nil 150 ⟨.other,1,8,(some [.val .nilFunc]),none⟩
 .nil)) 151 ⟨.other,1,8,(some [.val .nilFunc]),none⟩
 (.node (.node .nil 152 ⟨.other,1,8,(some [.val .nilFunc]),none⟩
 .nil) 153 ⟨.other,1,8,(some [.val .nilFunc]),none⟩
 .nil)) 154 ⟨.other,1,8,(some [.val .nilFunc]),none⟩
 (.node (.node (.node .nil 155 ⟨.other,1,8,(some [.val .nilFunc]),none⟩
 .nil) 156 ⟨.other,1,8,(some [.val .nilFunc]),none⟩
 .nil) 157 ⟨.other,1,8,(some [.val .nilFunc]),none⟩
 (.node (.node .nil 158 ⟨.other,1,8,(some [.val .nilFunc]),none⟩
 .nil) 159 ⟨.other,1,8,(some [.val .nilFunc]),none⟩
 .nil))))) 160 ⟨.other,1,8,(some [.val .nilFunc]),none⟩
 (.node (.node (.node (.node (.node (.node .nil 161 ⟨.other,1,8,(some [.val .nilFunc]),none⟩
 .nil) 162 ⟨.other,1,8,(some [.val .nilFunc]),none⟩
 (.node .nil 163 ⟨.other,1,8,(some [.val .nilFunc]),none⟩
 .nil)) 164 ⟨.slice 3,1,24,(some [.list .int []]),(some .int)⟩
 (.node (.node .nil 165 ⟨.other,1,8,(some [.val .nilFunc]),none⟩
 .nil) 166 ⟨.array 256 4,256,256,none,none⟩
 .nil)) 167 ⟨.array 256 4,256,256,none,none⟩
 (.node (.node (.node .nil 168 ⟨.other,1,0,none,none⟩
 .nil) 169 ⟨.other,1,8,(some [.val .nilFunc]),none⟩
 .nil) 170 ⟨.other,1,8,(some [.val .nilFunc]),none⟩
 (.node (.node .nil 171 ⟨.ptr,1,8,(some [.val (.pointer none)]),none⟩
 .nil) 172 ⟨.array 24 5,24,24,(some [.int .u8 0,.int .u8 0,.int .u8 0,.int .u8 0,.int .u8 0,.int .u8 0,.int .u8 0,.int .u8 0,.int .u8 0,.int .u8 0,.int .u8 0,.int .u8 0,.int .u8 0,.int .u8 0,.int .u8 0,.int .u8 0,.int .u8 0,.int .u8 0,.int .u8 0,.int .u8 0,.int .u8 0,.int .u8 0,.int .u8 0,.int .u8 0]),none⟩
 .nil))) 173 ⟨.int .u64,1,8,(some [.int .u64 0]),none⟩
 (.node (.node (.node (.node .nil 174 ⟨.other,1,8,(some [.val .nilFunc]),none⟩
 .nil) 175 ⟨.other,1,8,(some [.val .nilFunc]),none⟩
 (.node .nil 176 ⟨.other,1,0,none,none⟩
 .nil)) 177 ⟨.other,1,8,(some [.val .nilFunc]),none⟩
 (.node (.node .nil 178 ⟨.other,1,8,(some [.val .nilFunc]),none⟩
 .nil) 179 ⟨.other,1,8,(some [.val .nilFunc]),none⟩
 .nil)) 180 ⟨.other,1,8,(some [.val .nilFunc]),none⟩
 (.node (.node (.node .nil 181 ⟨.int .u64,1,8,(some [.int .u64 0]),none⟩
 .nil) 182 ⟨.other,1,0,none,none⟩
 .nil) 183 ⟨.other,1,8,(some [.val .nilFunc]),none⟩
 (.node (.node .nil 184 ⟨.other,1,8,(some [.val .nilFunc]),none⟩
 .nil) 185 ⟨.other,1,8,(some [.val .nilFunc]),none⟩
 .nil)))) 186 ⟨.array 20 173,20,160,(some [.int .u64 0,.int .u64 0,.int .u64 0,.int .u64 0,.int .u64 0,.int .u64 0,.int .u64 0,.int .u64 0,.int .u64 0,.int .u64 0,.int .u64 0,.int .u64 0,.int .u64 0,.int .u64 0,.int .u64 0,.int .u64 0,.int .u64 0,.int .u64 0,.int .u64 0,.int .u64 0]),none⟩
 (.node (.node (.node (.node (.node .nil 187 ⟨.int .u32,1,4,(some [.int .u32 0]),none⟩
 .nil) 188 ⟨.array 65 5,65,65,(some [.int .u8 0,.int .u8 0,.int .u8 0,.int .u8 0,.int .u8 0,.int .u8 0,.int .u8 0,.int .u8 0,.int .u8 0,.int .u8 0,.int .u8 0,.int .u8 0,.int .u8 0,.int .u8 0,.int .u8 0,.int .u8 0,.int .u8 0,.int .u8 0,.int .u8 0,.int .u8 0,.int .u8 0,.int .u8 0,.int .u8 0,.int .u8 0,.int .u8 0,.int .u8 0,.int .u8 0,.int .u8 0,.int .u8 0,.int .u8 0,.int .u8 0,.int .u8 0,.int .u8 0,.int .u8 0,.int .u8 0,.int .u8 0,.int .u8 0,.int .u8 0,.int .u8 0,.int .u8 0,.int .u8 0,.int .u8 0,.int .u8 0,.int .u8 0,.int .u8 0,.int .u8 0,.int .u8 0,.int .u8 0,.int .u8 0,.int .u8 0,.int .u8 0,.int .u8 0,.int .u8 0,.int .u8 0,.int .u8 0,.int .u8 0,.int .u8 0,.int .u8 0,.int .u8 0,.int .u8 0,.int .u8 0,.int .u8 0,.int .u8 0,.int .u8 0,.int .u8 0]),none⟩
 (.node .nil 189 ⟨.other,1,8,(some [.val .nilFunc]),none⟩
 .nil)) 190 ⟨.other,1,8,(some [.val .nilFunc]),none⟩
 (.node (.node .nil 191 ⟨.other,1,8,(some [.val .nilFunc]),none⟩
 .nil) 192 ⟨.other,1,8,(some [.val .nilFunc]),none⟩
 .nil)) 193 ⟨.array 256 5,256,256,none,none⟩
 (.node (.node (.node .nil 194 ⟨.struct [(0,5),(1,5)],2,2,(some [.int .u8 0,.int .u8 0]),none⟩
 .nil) 195 ⟨.struct [(0,5),(1,5)],2,2,(some [.int .u8 0,.int .u8 0]),none⟩
 .nil) 196 ⟨.array 16 195,32,32,(some [.int .u8 0,.int .u8 0,.int .u8 0,.int .u8 0,.int .u8 0,.int .u8 0,.int .u8 0,.int .u8 0,.int .u8 0,.int .u8 0,.int .u8 0,.int .u8 0,.int .u8 0,.int .u8 0,.int .u8 0,.int .u8 0,.int .u8 0,.int .u8 0,.int .u8 0,.int .u8 0,.int .u8 0,.int .u8 0,.int .u8 0,.int .u8 0,.int .u8 0,.int .u8 0,.int .u8 0,.int .u8 0,.int .u8 0,.int .u8 0,.int .u8 0,.int .u8 0]),none⟩
 (.node (.node .nil 197 ⟨.other,1,8,(some [.val .nilFunc]),none⟩
 .nil) 198 ⟨.other,1,8,(some [.val .nilFunc]),none⟩
 .nil))) 199 ⟨.array 32 5,32,32,(some [.int .u8 0,.int .u8 0,.int .u8 0,.int .u8 0,.int .u8 0,.int .u8 0,.int .u8 0,.int .u8 0,.int .u8 0,.int .u8 0,.int .u8 0,.int .u8 0,.int .u8 0,.int .u8 0,.int .u8 0,.int .u8 0,.int .u8 0,.int .u8 0,.int .u8 0,.int .u8 0,.int .u8 0,.int .u8 0,.int .u8 0,.int .u8 0,.int .u8 0,.int .u8 0,.int .u8 0,.int .u8 0,.int .u8 0,.int .u8 0,.int .u8 0,.int .u8 0]),none⟩
 (.node (.node (.node (.node .nil 200 ⟨.array 64 5,64,64,(some [.int .u8 0,.int .u8 0,.int .u8 0,.int .u8 0,.int .u8 0,.int .u8 0,.int .u8 0,.int .u8 0,.int .u8 0,.int .u8 0,.int .u8 0,.int .u8 0,.int .u8 0,.int .u8 0,.int .u8 0,.int .u8 0,.int .u8 0,.int .u8 0,.int .u8 0,.int .u8 0,.int .u8 0,.int .u8 0,.int .u8 0,.int .u8 0,.int .u8 0,.int .u8 0,.int .u8 0,.int .u8 0,.int .u8 0,.int .u8 0,.int .u8 0,.int .u8 0,.int .u8 0,.int .u8 0,.int .u8 0,.int .u8 0,.int .u8 0,.int .u8 0,.int .u8 0,.int .u8 0,.int .u8 0,.int .u8 0,.int .u8 0,.int .u8 0,.int .u8 0,.int .u8 0,.int .u8 0,.int .u8 0,.int .u8 0,.int .u8 0,.int .u8 0,.int .u8 0,.int .u8 0,.int .u8 0,.int .u8 0,.int .u8 0,.int .u8 0,.int .u8 0,.int .u8 0,.int .u8 0,.int .u8 0,.int .u8 0,.int .u8 0,.int .u8 0]),none⟩
 .nil) 203 ⟨.array 0 16,0,0,(some []),none⟩
 .nil) 206 ⟨.int .u8,1,1,(some [.int .u8 0]),none⟩
 (.node (.node .nil 207 ⟨.int .u8,1,1,(some [.int .u8 0]),none⟩
 .nil) 208 ⟨.other,1,8,(some [.val .nilFunc]),none⟩
 .nil)) 209 ⟨.ptr,1,8,(some [.val (.pointer none)]),none⟩
 (.node (.node (.node .nil 210 ⟨.int .i32,1,4,(some [.int .i32 0]),none⟩
 .nil) 211 ⟨.int .i32,1,4,(some [.int .i32 0]),none⟩
 .nil) 212 ⟨.struct [(0,12),(1,12),(2,187),(3,206),(4,5),(5,5),(6,207),(7,208),(8,209),(9,210),(10,211)],11,48,(some [.int .u64 0,.int .u64 0,.int .u32 0,.int .u8 0,.int .u8 0,.int .u8 0,.int .u8 0,.val .nilFunc,.val (.pointer none),.int .i32 0,.int .i32 0]),none⟩
 (.node (.node .nil 213 ⟨.struct [(0,12),(1,12),(2,187),(3,206),(4,5),(5,5),(6,207),(7,208),(8,209),(9,210),(10,211)],11,48,(some [.int .u64 0,.int .u64 0,.int .u32 0,.int .u8 0,.int .u8 0,.int .u8 0,.int .u8 0,.val .nilFunc,.val (.pointer none),.int .i32 0,.int .i32 0]),none⟩
 .nil) 214 ⟨.other,1,8,none,none⟩
 .nil)))))))
def tab:Tab:=tabT.get
theorem zi:tab.fits Tryz.prog:=Tab.zly (by kernel_rfl)
theorem mixed:Tryz.prog.follows .mixedOrders=true:=by kernel_rfl
end Go.Proofs.YtcclfkakcgnacaaGreatDoor
namespace Go.Ab
open Go
theorem laid_tail {P:Program} {x:String × DataW Unit} {rest:List (String × DataW Unit)} {w:World} (h:laidMet P (x::rest) w):laidMet P rest w:=by
  obtain⟨ps,⟨g,t,cs,fuel,p,q,h1,h2,h3,h4,h5,rfl⟩,hn,hc⟩:=h
  exact⟨q,h5,(List.nodup_append.1 hn).2.1,fun b off hm=>hc b off (List.mem_append_right _ hm)⟩
theorem pow10_of {P:Program} {W:World} {d:DataW Unit} {rest:List (String × DataW Unit)} (g t e:Nat) (hd:d=Lib.tabData .u64 Lib.pow10Tab)
    (hg:P.globalNamed "internal/strconv.uint64pow10" =some g) (hty:(P.globals[g]?).map (·.type)=some t) (ht:P.underlying t=some (.array 20 e)) (he:P.underlying e=some (.int .u64)) (hce:P.cellsOf e=1) (hct:P.cellsOf t=20)
    (h:laidMet P (("internal/strconv.uint64pow10",d)::rest) W):Lib.TabIs P W "internal/strconv.uint64pow10" .u64 Lib.pow10Tab:=by
  subst hd
  exact Lib.tabIs_of_head hg hty ht he hce hct h
end Go.Ab
namespace Go.Ab
open Go Go.Sep
variable [Facts]
def wfI (n:Int):Prop:= -9223372036854775808≤n∧n≤9223372036854775807
theorem zlT {n:Int} (h:(Lit.int .i64 n).wf=true):wfI n:=by
  simp only [Lit.wf,Bool.and_eq_true,decide_eq_true_eq] at h
  have h1:IntKind.i64.min= -9223372036854775808:=by decide
  have h2:IntKind.i64.max=9223372036854775807:=by decide
  rw [h1,h2] at h;exact h
theorem wfY_of {n:Int} (h:(Lit.int .u8 n).wf=true):0≤n∧n≤255:=by
  simp only [Lit.wf,Bool.and_eq_true,decide_eq_true_eq] at h
  have h1:IntKind.u8.min=0:=by decide
  have h2:IntKind.u8.max=255:=by decide
  rw [h1,h2] at h;exact h
def wfS {α:Type} (s:List α):Prop:=s.length≤140737488355328
def ziV (f:Fld):Prop:=wfS f.name∧wfS f.value
def wfHd (h:Hd):Prop:=wfS h.method∧wfS h.target∧wfI h.minor∧(wfS h.fields∧∀ f ∈ h.fields,ziV f)∧wfI h.length
def zlS (p:Prt):Prop:=wfS p.name∧wfS p.file∧wfS p.type∧wfS p.bytes
def wfZ:(u:U)→u.den→Prop
  |.byte,_=>True
  |.int,n=>wfI n
  |.str,(s:Str)=>wfS s
  |.fld,f=>ziV f
  |.bytes,(b:Str)=>wfS b
  |.hd,h=>wfHd h
  |.prt,p=>zlS p
  |.evt,(e:Evt)=>wfI e.kind∧wfHd e.head∧wfS e.bytes∧zlS e.part∧wfI e.code
  |.upl,(x:Upl)=>wfI x.id∧wfI x.size∧wfS x.note∧wfS x.bytes∧wfI x.sent
  |.ent,(e:Ent)=>wfI e.kind∧wfI e.id∧wfI e.n∧wfS e.text
  |.stp,(e:Stp)=>wfI e.kind∧wfI e.conn∧wfI e.n∧wfS e.bytes
  |.ask,(a:Ask)=>wfHd a.h∧wfS a.body
  |.cal,(c:Cal)=>wfI c.conn∧wfS c.b
  |.lst,(e:Lst)=>wfI e.op∧wfI e.n∧wfS e.b
  |.sst,(e:Sst)=>wfI e.op∧wfI e.id∧wfI e.n∧wfS e.text
  |.rpl,(r:Rpl)=>wfI r.status∧(wfS r.fields∧∀ f ∈ r.fields,ziV f)∧wfS r.body
  |.med,(m:Med)=>wfS m.word∧(wfS m.params∧∀ f ∈ m.params,ziV f)
  |_,_=>True
abbrev Small {H:Type} (Pr:Program) (t:TypeId) (d:DataW H):Prop:=(d.weights Pr t).all (· ≤reachBytes)=true
section
variable {H:Type} {hsh:TypeId × Value→H} {Pr:Program} {w:World} {hF:Holds w} {base:Nat} {spare:Nat→Bool} {held:Bool}
def vY (hsh:TypeId × Value→H) (Pr:Program) (w:World) (hF:Holds w) (base:Nat) (spare:Nat→Bool) (held:Bool) (t:TypeId) (Q:List P→Prop):Prop:=
  ∀ fuel cs y,DataW.trod hsh Pr w base spare held fuel t cs=some y→Small Pr t y.1→∃ ps,MPs (frzW w hF) ps cs∧Q ps
theorem vY.mono {t:TypeId} {Q Q':List P→Prop} (h:vY hsh Pr w hF base spare held t Q) (hq: ∀ ps,Q ps→Q' ps):vY hsh Pr w hF base spare held t Q':=by
  intro fuel cs y hy hs
  obtain⟨ps,h1,h2⟩:=h fuel cs y hy hs
  exact⟨ps,h1,hq _ h2⟩
def QU (u:U) (ps:List P):Prop:=∃ x:u.den,ps=enc alg u x∧wfZ u x
def QB (ps:List P):Prop:=∃ b,ps=[.bool b]
def QL (u:U) (ps:List P):Prop:=∃ l:List u.den,ps=[.list u l]∧wfS l∧∀ x ∈ l,wfZ u x
theorem op_int {t:TypeId} (ht:Pr.underlying t=some (.int .i64)):vY hsh Pr w hF base spare held t (QU .int):=by
  intro fuel cs y h _
  obtain⟨n,rfl,hn⟩:=zg4 ht fuel cs y h
  exact⟨[.int .i64 n],⟨.int _ _,trivial⟩,n,rfl,zlT hn⟩
theorem op_bool {t:TypeId} (ht:Pr.underlying t=some .bool):vY hsh Pr w hF base spare held t QB:=by
  intro fuel cs y h _
  obtain⟨b,rfl⟩:=zfk ht fuel cs y h
  exact⟨[.bool b],⟨.bool _,trivial⟩,b,rfl⟩
theorem op_byte {t:TypeId} (ht:Pr.underlying t=some (.int .u8)):vY hsh Pr w hF base spare held t (QU .byte):=by
  intro fuel cs y h _
  obtain⟨c,hc⟩:=zfj ht fuel cs y h
  exact⟨enc alg .byte c,zhK hc,c,rfl,trivial⟩
theorem zdI {n:Nat} (h:n≤reachBytes):n≤140737488355328:=Nat.le_trans h (by decide)
theorem op_str {t:TypeId} (ht:Pr.underlying t=some .string):vY hsh Pr w hF base spare held t (QU .str):=by
  intro fuel cs y h hs
  obtain⟨s,rfl,hy,hl⟩:=DataW.trod_string ht h
  have e:Sep.S s.data.toList=s:=by cases s;rfl
  refine⟨[.str s.data.toList],⟨by rw [← e];exact .str _ (by simpa using hl),trivial⟩,s.data.toList,rfl,?_⟩
  rw [hy] at hs
  simp only [Small,DataW.weights,List.all_cons,List.all_nil,Bool.and_true,decide_eq_true_eq] at hs
  exact zdI hs
def elemsOf:DataW H→List (DataW H)
  |.slice es _=>es
  |_=>[]
theorem zb6 {α:Type} {t e:TypeId} {size:Nat} {R:Sep.Rel α} (ht:Pr.underlying t=some (.slice e)) (hs:Pr.cellsOf e=size) {fuel:Nat} {cs:List Value} {y:DataW H × List MemPlace}
    (h:DataW.trod hsh Pr w base spare held fuel t cs=some y) (he: ∀ n ci z,z.1 ∈ elemsOf y.1→DataW.trod hsh Pr w base spare held n e ci=some z→∃ x,R w ci x):
    ∃ xs,RSl size R w cs xs∧xs.length=(elemsOf y.1).length:=by
  rcases DataW.trod_slice ht h with⟨rfl,rfl⟩|⟨a,len,cap,elems,rest,n,_,rfl,rfl,_,hl,hm,hlen,hel,_,_⟩
  · exact⟨[],⟨_,[],rfl,⟨none,0,rfl,Nat.le_refl _,Nat.zero_le _,fun _=>rfl,by simp,fun j u h=>by simp at h⟩,fun i x h=>by simp at h⟩,rfl⟩
  · subst hs
    have each: ∀ i,i<len→∃ ci:List Value,ci.length=Pr.cellsOf e∧(∀ j u,ci[j]? =some u→w.cell? ((a.add (i * Pr.cellsOf e)).add j)=some u)∧∃ x,R w ci x:=by
      intro i hi
      have h1:=hel i hi
      rw [List.getElem?_eq_getElem (by omega),Option.bind_eq_some_iff] at h1
      obtain⟨ci,hci,hy⟩:=h1
      obtain⟨h2,h3⟩:=cells?_get hci
      exact⟨ci,h2,h3,he n ci _ (List.mem_map_of_mem (List.getElem_mem _)) hy⟩
    have all: ∀ m,m≤len→∃ (vs:List Value) (xs:List α),xs.length=m∧vs.length=m * Pr.cellsOf e∧(∀ j u,vs[j]? =some u→w.cell? (a.add j)=some u)∧∀ i x,xs[i]? =some x→R w ((vs.drop (i * Pr.cellsOf e)).take (Pr.cellsOf e)) x:=by
      intro m
      induction m with
      |zero=>intro _;exact⟨[],[],rfl,by simp,fun j u h=>by simp at h,fun i x h=>by simp at h⟩
      | succ m ih=>
        intro hm'
        obtain⟨vs,xs,h1,h2,h3,h4⟩:=ih (by omega)
        obtain⟨ci,c1,c2,x,c3⟩:=each m (by omega)
        refine⟨vs++ci,xs++[x],by simp [h1],by simp [h2,c1,Nat.succ_mul],fun j u hj=> ?_,fun i z hi=> ?_⟩
        · rcases Nat.lt_or_ge j vs.length with hj1|hj1
          · rw [List.getElem?_append_left hj1] at hj;exact h3 j u hj
          · rw [List.getElem?_append_right hj1] at hj
            have h5:=c2 _ _ hj
            rw [Addr.add_add,h2,show m * Pr.cellsOf e+(j - m * Pr.cellsOf e)=j by omega] at h5
            exact h5
        · rcases Nat.lt_or_ge i xs.length with hi1|hi1
          · rw [List.getElem?_append_left hi1] at hi
            have h5:=h4 i z hi
            have h6:i * Pr.cellsOf e+Pr.cellsOf e≤vs.length:=by rw [h2,← Nat.succ_mul];exact Nat.mul_le_mul_right _ (by omega)
            rw [List.drop_append_of_le_length (by omega),List.take_append_of_le_length (by simp;omega)]
            exact h5
          · rw [List.getElem?_append_right hi1] at hi
            have hi2:i=m:=by
              have:=(List.getElem?_eq_some_iff.1 hi).1
              simp at this;omega
            subst hi2
            rw [h1,Nat.sub_self] at hi
            simp at hi
            subst hi
            rw [← h2,List.drop_left,List.take_of_length_le (by omega)]
            exact c3
    obtain⟨vs,xs,h1,h2,h3,h4⟩:=all len (Nat.le_refl _)
    refine⟨xs,⟨_,vs,rfl,⟨some a,cap,by rw [h1],by omega,hm,(fun h=>by cases h),by rw [h1];exact h2,fun j u hj=> ?_⟩,h4⟩,by simp [elemsOf,h1,hlen]⟩
    have hsp:a.spot=none:=by
      cases hv:vs with
      |nil=>rw [hv] at hj;simp at hj
      | cons u0 r=>
        have:=h3 0 u0 (by rw [hv];rfl)
        rw [show a.add 0=a by simp [Addr.add]] at this
        exact zgv this
    exact⟨⟨a,rfl,hsp⟩,by rw [← rE hsp];exact h3 j u hj⟩
theorem weightsAll_mem {e:TypeId}: ∀ {es:List (DataW H)} {d:DataW H},d ∈ es→∀ n ∈ d.weights Pr e,n ∈ DataW.weightsAll Pr e es
  | x::es,d,hd,n,hn=>by
    simp only [DataW.weightsAll,List.mem_append]
    rcases List.mem_cons.1 hd with rfl|hd
    · exact .inl hn
    · exact .inr (weightsAll_mem hd n hn)
theorem ze7 {t e:TypeId} (ht:Pr.underlying t=some (.slice e)) {d z:DataW H} (h:Small Pr t d) (hz:z ∈ elemsOf d):Small Pr e z:=by
  cases d<;>simp only [elemsOf,List.not_mem_nil] at hz
  refine List.all_eq_true.2 fun n hn=>List.all_eq_true.1 h n ?_
  simp only [DataW.weights,ht,List.mem_cons,List.mem_append]
  exact .inr (.inl (weightsAll_mem hz n hn))
theorem zgy {t e:TypeId} (ht:Pr.underlying t=some (.slice e)) (hb:Nat.blt 0 (Pr.bytesOf e)=true) {d:DataW H} (h:Small Pr t d):(elemsOf d).length≤140737488355328:=by
  cases d<;>simp only [elemsOf]<;>try exact Nat.zero_le _
  rename_i es ss
  have h1:=List.all_eq_true.1 h ((es.length+ss.length) * Pr.bytesOf e) (by simp [DataW.weights,ht])
  have hb:0<Pr.bytesOf e:=by simpa [Nat.blt_eq] using hb
  refine zdI (Nat.le_trans (Nat.le_trans (Nat.le_add_right _ ss.length) (Nat.le_mul_of_pos_right _ hb)) (by simpa using h1))
theorem op_list {t e:TypeId} {u:U} (ht:Pr.underlying t=some (.slice e)) (hc:Pr.cellsOf e=u.size) (hb:Nat.blt 0 (Pr.bytesOf e)=true) (he:vY hsh Pr w hF base spare held e (QU u)):
    vY hsh Pr w hF base spare held t (QL u):=by
  intro fuel cs y h hs
  obtain⟨l,hl,hlen⟩:=zb6 (R:=fun _ cs (x:u.den)=>MPs (frzW w hF) (enc alg u x) cs∧wfZ u x) ht hc h (fun n ci z hz ht'=>by
    obtain⟨ps,h1,x,rfl,hx⟩:=he n ci z ht' (ze7 ht hs hz)
    exact⟨x,h1,hx⟩)
  have hl':=hl
  obtain⟨v,vs,rfl,_,hx⟩:=hl
  refine⟨[.list u l],⟨Qr (fun _ _ h=>h.1) hl',trivial⟩,l,rfl,by unfold wfS;rw [hlen];exact zgy ht hb hs,fun x hm=> ?_⟩
  obtain⟨i,hi⟩:=List.getElem?_of_mem hm
  exact(hx i x hi).2
def QAll:List (List P→Prop)→List P→Prop
  |[],ps=>ps=[]
  |Q::Qs,ps=>∃ a b,ps=a++b∧Q a∧QAll Qs b
def lays (Pr:Program):Nat→List Field→Nat→Bool
  |o,[],n=>Nat.beq o n
  |o,f::fs,n=>Nat.beq f.offset o&&lays Pr (o+Pr.cellsOf f.type) fs n
def zbT (hsh:TypeId × Value→H) (Pr:Program) (w:World) (hF:Holds w) (base:Nat) (spare:Nat→Bool) (held:Bool):List Field→List (List P→Prop)→Prop
  |[],[]=>True
  |f::fs,Q::Qs=>vY hsh Pr w hF base spare held f.type Q∧zbT hsh Pr w hF base spare held fs Qs
  |_,_=>False
theorem zbT.nil:zbT hsh Pr w hF base spare held [] []:=trivial
theorem zbT.cons {f:Field} {fs:List Field} {Q:List P→Prop} {Qs:List (List P→Prop)} (h:vY hsh Pr w hF base spare held f.type Q) (k:zbT hsh Pr w hF base spare held fs Qs):zbT hsh Pr w hF base spare held (f::fs) (Q::Qs):=⟨h,k⟩
theorem MPs.append {S:Frz}: ∀ {a b:List P} {x y:List Value},MPs S a x→MPs S b y→MPs S (a++b) (x++y)
  |[],_,[],_,_,h=>h
  |_::_,_,_::_,_,h,k=>⟨h.1,MPs.append h.2 k⟩
theorem zaK {cs:List Value}: ∀ (fs:List Field) (Qs:List (List P→Prop)) (o:Nat),lays Pr o fs cs.length=true→zbT hsh Pr w hF base spare held fs Qs→
    (∀ f ∈ fs,∃ n z,DataW.trod hsh Pr w base spare held n f.type ((cs.drop f.offset).take (Pr.cellsOf f.type))=some z∧Small Pr f.type z.1)→∃ ps,MPs (frzW w hF) ps (cs.drop o)∧QAll Qs ps
  | [],[],o,hl,_,_=>by
    have:=Nat.eq_of_beq_eq_true hl
    exact⟨[],by rw [List.drop_of_length_le (by omega)];trivial,rfl⟩
  | f::fs,Q::Qs,o,hl,hq,hz=>by
    simp only [lays,Bool.and_eq_true] at hl
    have ho:=Nat.eq_of_beq_eq_true hl.1
    obtain⟨n,z,h1,h2⟩:=hz f (by simp)
    rw [ho] at h1
    obtain⟨p1,m1,q1⟩:=hq.1 n _ z h1 h2
    obtain⟨p2,m2,q2⟩:=zaK fs Qs _ hl.2 hq.2 (fun g hg=>hz g (by simp [hg]))
    refine⟨p1++p2,?_,p1,p2,rfl,q1,q2⟩
    have:=m1.append m2
    rwa [← List.drop_drop,List.take_append_drop] at this
  |[],_::_,_,_,h,_=>h.elim
  |_::_,[],_,_,h,_=>h.elim
theorem op_struct {t:TypeId} {fs:Array Field} {Qs:List (List P→Prop)} (ht:Pr.underlying t=some (.struct fs)) (hl:lays Pr 0 fs.toList (Pr.cellsOf t)=true) (hq:zbT hsh Pr w hF base spare held fs.toList Qs):
    vY hsh Pr w hF base spare held t (QAll Qs):=by
  intro fuel cs y h hs
  obtain⟨xs,n,_,rfl,hcl,hxl,hf⟩:=DataW.trod_struct ht h
  have:=zaK fs.toList Qs 0 (by rw [hcl];exact hl) hq (fun f hfm=>by
    obtain⟨i,hi⟩:=List.getElem?_of_mem hfm
    have hi':fs[i]? =some f:=by simpa using hi
    have hlt:i<xs.length:=by rw [hxl];exact(Array.getElem?_eq_some_iff.1 hi').1
    refine⟨n,xs[i],by rw [hf i f hi',List.getElem?_eq_getElem hlt],List.all_eq_true.2 fun k hk=>List.all_eq_true.1 hs k ?_⟩
    simp only [DataW.weights,ht]
    exact DataW.weights_mem_each (j:=i) (t:=f.type) (by simp [hi']) (by simp [hlt]) k hk)
  simpa using this
theorem q_bytes (ps:List P) (h:QL .byte ps):QU .bytes ps:=by
  obtain⟨l,rfl,hl,_⟩:=h
  exact⟨l,rfl,hl⟩
theorem q_fld (ps:List P) (h:QAll [QU .str,QU .str] ps):QU .fld ps:=by
  obtain⟨_,_,rfl,⟨a,rfl,ha⟩,_,_,rfl,⟨b,rfl,hb⟩,rfl⟩:=h
  exact⟨(⟨a,b⟩:Fld),rfl,ha,hb⟩
theorem q_ent (ps:List P) (h:QAll [QU .int,QU .int,QU .int,QL .byte] ps):QU .ent ps:=by
  obtain⟨_,_,rfl,⟨a,rfl,ha⟩,_,_,rfl,⟨b,rfl,hb⟩,_,_,rfl,⟨c,rfl,hc⟩,_,_,rfl,⟨d,rfl,hd,_⟩,rfl⟩:=h
  exact⟨(⟨a,b,c,d⟩:Ent),rfl,ha,hb,hc,hd⟩
theorem q_stp (ps:List P) (h:QAll [QU .int,QU .int,QU .int,QL .byte] ps):QU .stp ps:=by
  obtain⟨_,_,rfl,⟨a,rfl,ha⟩,_,_,rfl,⟨b,rfl,hb⟩,_,_,rfl,⟨c,rfl,hc⟩,_,_,rfl,⟨d,rfl,hd,_⟩,rfl⟩:=h
  exact⟨(⟨a,b,c,d⟩:Stp),rfl,ha,hb,hc,hd⟩
theorem q_sst (ps:List P) (h:QAll [QU .int,QU .int,QU .int,QU .str] ps):QU .sst ps:=by
  obtain⟨_,_,rfl,⟨a,rfl,ha⟩,_,_,rfl,⟨b,rfl,hb⟩,_,_,rfl,⟨c,rfl,hc⟩,_,_,rfl,⟨d,rfl,hd⟩,rfl⟩:=h
  exact⟨(⟨a,b,c,d⟩:Sst),rfl,ha,hb,hc,hd⟩
theorem q_lst (ps:List P) (h:QAll [QU .int,QU .int,QL .byte] ps):QU .lst ps:=by
  obtain⟨_,_,rfl,⟨a,rfl,ha⟩,_,_,rfl,⟨b,rfl,hb⟩,_,_,rfl,⟨d,rfl,hd,_⟩,rfl⟩:=h
  exact⟨(⟨a,b,d⟩:Lst),rfl,ha,hb,hd⟩
theorem q_cal (ps:List P) (h:QAll [QU .int,QB,QL .byte] ps):QU .cal ps:=by
  obtain⟨_,_,rfl,⟨a,rfl,ha⟩,_,_,rfl,⟨b,rfl⟩,_,_,rfl,⟨d,rfl,hd,_⟩,rfl⟩:=h
  exact⟨(⟨a,b,d⟩:Cal),rfl,ha,hd⟩
theorem q_rpl (ps:List P) (h:QAll [QU .int,QL .fld,QL .byte] ps):QU .rpl ps:=by
  obtain⟨_,_,rfl,⟨a,rfl,ha⟩,_,_,rfl,⟨b,rfl,hb⟩,_,_,rfl,⟨d,rfl,hd,_⟩,rfl⟩:=h
  exact⟨(⟨a,b,d⟩:Rpl),rfl,ha,hb,hd⟩
theorem q_med (ps:List P) (h:QAll [QU .str,QL .fld] ps):QU .med ps:=by
  obtain⟨_,_,rfl,⟨a,rfl,ha⟩,_,_,rfl,⟨b,rfl,hb⟩,rfl⟩:=h
  exact⟨(⟨a,b⟩:Med),rfl,ha,hb⟩
theorem q_hd (ps:List P) (h:QAll [QU .str,QU .str,QU .int,QL .fld,QU .int] ps):QU .hd ps:=by
  obtain⟨_,_,rfl,⟨a,rfl,ha⟩,_,_,rfl,⟨b,rfl,hb⟩,_,_,rfl,⟨c,rfl,hc⟩,_,_,rfl,⟨d,rfl,hd⟩,_,_,rfl,⟨e,rfl,he⟩,rfl⟩:=h
  exact⟨(⟨a,b,c,d,e⟩:Hd),rfl,ha,hb,hc,hd,he⟩
theorem q_prt (ps:List P) (h:QAll [QU .str,QU .str,QU .str,QL .byte] ps):QU .prt ps:=by
  obtain⟨_,_,rfl,⟨a,rfl,ha⟩,_,_,rfl,⟨b,rfl,hb⟩,_,_,rfl,⟨c,rfl,hc⟩,_,_,rfl,⟨d,rfl,hd,_⟩,rfl⟩:=h
  exact⟨(⟨a,b,c,d⟩:Prt),rfl,ha,hb,hc,hd⟩
theorem q_ask (ps:List P) (h:QAll [QU .hd,QL .byte] ps):QU .ask ps:=by
  obtain⟨_,_,rfl,⟨a,rfl,ha⟩,_,_,rfl,⟨b,rfl,hb,_⟩,rfl⟩:=h
  exact⟨(⟨a,b⟩:Ask),by simp [enc],ha,hb⟩
theorem q_evt (ps:List P) (h:QAll [QU .int,QU .hd,QL .byte,QU .prt,QU .int] ps):QU .evt ps:=by
  obtain⟨_,_,rfl,⟨a,rfl,ha⟩,_,_,rfl,⟨b,rfl,hb⟩,_,_,rfl,⟨c,rfl,hc,_⟩,_,_,rfl,⟨d,rfl,hd⟩,_,_,rfl,⟨e,rfl,he⟩,rfl⟩:=h
  exact⟨(⟨a,b,c,d,e⟩:Evt),by simp [enc],ha,hb,hc,hd,he⟩
theorem z_one {t:TypeId} {v:Value} {d:DataW H} {ps:List MemPlace} {Q:List P→Prop} (hr:v.oneCell'=true) (h:DataW.Trod hsh Pr w base spare held t v d ps) (hs:Small Pr t d) (ho:vY hsh Pr w hF base spare held t Q): ∃ qs,MPs (frzW w hF) qs [v]∧Q qs:=by
  obtain⟨fuel,hf⟩:=h
  have hc:v.cells.toList=[v]:=by cases v<;>first|rfl|cases hr
  rw [hc] at hf
  exact ho fuel _ _ hf hs
theorem z_agg {t:TypeId} {cs:Array Value} {d:DataW H} {ps:List MemPlace} {Q:List P→Prop} (h:DataW.Trod hsh Pr w base spare held t (.agg cs) d ps) (hs:Small Pr t d) (ho:vY hsh Pr w hF base spare held t Q): ∃ qs,MPs (frzW w hF) qs cs.toList∧Q qs:=by
  obtain⟨fuel,hf⟩:=h
  exact ho fuel _ _ hf hs
theorem md_agg {S:Frz} {cs:Array Value} {u:U} {x:u.den} (h:MPs S (enc alg u x) cs.toList):MD S [] (.v (.agg ((enc alg u x).map C.p))) (.agg cs):=⟨cs.toList,h.mcs,by simp⟩
theorem small_nth {ts:List TypeId} {ds:List (DataW H)} (h:(DataW.weightsEach Pr ts ds).all (· ≤reachBytes)=true) {j:Nat} {t:TypeId} {d:DataW H} (ht:ts[j]? =some t) (hd:ds[j]? =some d):Small Pr t d:=
  List.all_eq_true.2 fun n hn=>List.all_eq_true.1 h n (DataW.weights_mem_each ht hd n hn)
end
end Go.Ab
namespace Go.Proofs
open Go.Shelf
def Tryz.zcu:Go.Shelf.Ren:=⟨fun|161=>158|231=>144|227=>146|233=>147|235=>149|228=>163|197=>164|151=>165|260=>173|152=>174|137=>172|119=>179|224=>180|225=>181|217=>178|266=>182|n=>n,fun|9=>9|4=>4|3=>3|5=>5|117=>168|116=>167|0=>0|124=>171|105=>182|21=>21|119=>193|46=>181|139=>196|138=>195|n=>n,fun|3=>1|4=>2|n=>n⟩
theorem Tryz.lays161:Go.Proofs.Lays.n161 Tryz.prog Tryz.zcu:= {
  mixed:=by kernel_rfl
  f119:=Tryz.func179.trans (congrArg some (by kernel_rfl))
  f137:=Tryz.func172.trans (congrArg some (by kernel_rfl))
  f151:=Tryz.func165.trans (congrArg some (by kernel_rfl))
  f152:=Tryz.func174.trans (congrArg some (by kernel_rfl))
  f161:=Tryz.func158.trans (congrArg some (by kernel_rfl))
  f197:=Tryz.func164.trans (congrArg some (by kernel_rfl))
  f217:=Tryz.func178.trans (congrArg some (by kernel_rfl))
  f224:=Tryz.func180.trans (congrArg some (by kernel_rfl))
  f225:=Tryz.func181.trans (congrArg some (by kernel_rfl))
  f227:=Tryz.func146.trans (congrArg some (by kernel_rfl))
  f228:=Tryz.func163.trans (congrArg some (by kernel_rfl))
  f231:=Tryz.func144.trans (congrArg some (by kernel_rfl))
  f233:=Tryz.func147.trans (congrArg some (by kernel_rfl))
  f235:=Tryz.func149.trans (congrArg some (by kernel_rfl))
  f260:=Tryz.func173.trans (congrArg some (by kernel_rfl))
  f266:=Tryz.func182.trans (congrArg some (by kernel_rfl))
  t0:=Tryz.underlying0
  a0:=Tryz.isAgg0
  z0:=Tryz.sizeOf0
  v0:=Tryz.zeroValue0
  t3:=Tryz.underlying3
  a3:=Tryz.isAgg3
  z3:=Tryz.sizeOf3
  v3:=Tryz.zeroValue3
  t4:=Tryz.underlying4
  a4:=Tryz.isAgg4
  z4:=Tryz.sizeOf4
  v4:=Tryz.zeroValue4
  t5:=Tryz.underlying5
  a5:=Tryz.isAgg5
  z5:=Tryz.sizeOf5
  v5:=Tryz.zeroValue5
  t9:=Tryz.underlying9
  a9:=Tryz.isAgg9
  z9:=Tryz.sizeOf9
  v9:=Tryz.zeroValue9
  t21:=Tryz.underlying21
  a21:=Tryz.isAgg21
  z21:=Tryz.sizeOf21
  v21:=Tryz.zeroValue21
  t46:=Tryz.underlying181
  a46:=Tryz.isAgg181
  z46:=Tryz.sizeOf181
  v46:=Tryz.zeroValue181
  t105:=Tryz.underlying182
  a105:=Tryz.isAgg182
  z105:=Tryz.sizeOf182
  v105:=Tryz.zeroValue182
  t116:=Tryz.underlying167
  a116:=Tryz.isAgg167
  z116:=Tryz.sizeOf167
  t117:=Tryz.underlying168
  a117:=Tryz.isAgg168
  z117:=Tryz.sizeOf168
  v117:=Tryz.zeroValue168
  t119:=Tryz.underlying193
  a119:=Tryz.isAgg193
  z119:=Tryz.sizeOf193
  t124:=Tryz.underlying171
  a124:=Tryz.isAgg171
  z124:=Tryz.sizeOf171
  v124:=Tryz.zeroValue171
  t138:=Tryz.underlying195
  a138:=Tryz.isAgg195
  z138:=Tryz.sizeOf195
  v138:=Tryz.zeroValue195
  t139:=Tryz.underlying196
  a139:=Tryz.isAgg196
  z139:=Tryz.sizeOf196
  v139:=Tryz.zeroValue196
  g3:=by kernel_rfl
  g4:=by kernel_rfl}
def Tryz.zcv:Go.Shelf.Ren:=⟨fun|160=>131|232=>145|231=>144|227=>146|234=>148|233=>147|236=>150|235=>149|228=>163|271=>166|151=>165|197=>164|120=>175|152=>174|260=>173|137=>172|119=>179|224=>180|225=>181|217=>178|266=>182|n=>n,fun|9=>9|4=>4|3=>3|5=>5|117=>168|116=>167|0=>0|124=>171|21=>21|105=>182|46=>181|119=>193|139=>196|138=>195|n=>n,fun|3=>1|4=>2|n=>n⟩
theorem Tryz.lays160:Go.Proofs.Lays.n160 Tryz.prog Tryz.zcv:= {
  mixed:=by kernel_rfl
  f119:=Tryz.func179.trans (congrArg some (by kernel_rfl))
  f120:=Tryz.func175.trans (congrArg some (by kernel_rfl))
  f137:=Tryz.func172.trans (congrArg some (by kernel_rfl))
  f151:=Tryz.func165.trans (congrArg some (by kernel_rfl))
  f152:=Tryz.func174.trans (congrArg some (by kernel_rfl))
  f160:=Tryz.func131.trans (congrArg some (by kernel_rfl))
  f197:=Tryz.func164.trans (congrArg some (by kernel_rfl))
  f217:=Tryz.func178.trans (congrArg some (by kernel_rfl))
  f224:=Tryz.func180.trans (congrArg some (by kernel_rfl))
  f225:=Tryz.func181.trans (congrArg some (by kernel_rfl))
  f227:=Tryz.func146.trans (congrArg some (by kernel_rfl))
  f228:=Tryz.func163.trans (congrArg some (by kernel_rfl))
  f231:=Tryz.func144.trans (congrArg some (by kernel_rfl))
  f232:=Tryz.func145.trans (congrArg some (by kernel_rfl))
  f233:=Tryz.func147.trans (congrArg some (by kernel_rfl))
  f234:=Tryz.func148.trans (congrArg some (by kernel_rfl))
  f235:=Tryz.func149.trans (congrArg some (by kernel_rfl))
  f236:=Tryz.func150.trans (congrArg some (by kernel_rfl))
  f260:=Tryz.func173.trans (congrArg some (by kernel_rfl))
  f266:=Tryz.func182.trans (congrArg some (by kernel_rfl))
  f271:=Tryz.func166.trans (congrArg some (by kernel_rfl))
  t0:=Tryz.underlying0
  a0:=Tryz.isAgg0
  z0:=Tryz.sizeOf0
  v0:=Tryz.zeroValue0
  t3:=Tryz.underlying3
  a3:=Tryz.isAgg3
  z3:=Tryz.sizeOf3
  v3:=Tryz.zeroValue3
  t4:=Tryz.underlying4
  a4:=Tryz.isAgg4
  z4:=Tryz.sizeOf4
  v4:=Tryz.zeroValue4
  t5:=Tryz.underlying5
  a5:=Tryz.isAgg5
  z5:=Tryz.sizeOf5
  v5:=Tryz.zeroValue5
  t9:=Tryz.underlying9
  a9:=Tryz.isAgg9
  z9:=Tryz.sizeOf9
  v9:=Tryz.zeroValue9
  t21:=Tryz.underlying21
  a21:=Tryz.isAgg21
  z21:=Tryz.sizeOf21
  v21:=Tryz.zeroValue21
  t46:=Tryz.underlying181
  a46:=Tryz.isAgg181
  z46:=Tryz.sizeOf181
  v46:=Tryz.zeroValue181
  t105:=Tryz.underlying182
  a105:=Tryz.isAgg182
  z105:=Tryz.sizeOf182
  v105:=Tryz.zeroValue182
  t116:=Tryz.underlying167
  a116:=Tryz.isAgg167
  z116:=Tryz.sizeOf167
  t117:=Tryz.underlying168
  a117:=Tryz.isAgg168
  z117:=Tryz.sizeOf168
  v117:=Tryz.zeroValue168
  t119:=Tryz.underlying193
  a119:=Tryz.isAgg193
  z119:=Tryz.sizeOf193
  t124:=Tryz.underlying171
  a124:=Tryz.isAgg171
  z124:=Tryz.sizeOf171
  v124:=Tryz.zeroValue171
  t138:=Tryz.underlying195
  a138:=Tryz.isAgg195
  z138:=Tryz.sizeOf195
  v138:=Tryz.zeroValue195
  t139:=Tryz.underlying196
  a139:=Tryz.isAgg196
  z139:=Tryz.sizeOf196
  v139:=Tryz.zeroValue196
  g3:=by kernel_rfl
  g4:=by kernel_rfl}
def Tryz.zcw:Go.Shelf.Ren:=⟨fun|137=>172|217=>178|266=>182|n=>n,fun|9=>9|5=>5|3=>3|n=>n,fun|n=>n⟩
theorem Tryz.lays137:Go.Proofs.Lays.n137 Tryz.prog Tryz.zcw:= {
  mixed:=by kernel_rfl
  f137:=Tryz.func172.trans (congrArg some (by kernel_rfl))
  f217:=Tryz.func178.trans (congrArg some (by kernel_rfl))
  f266:=Tryz.func182.trans (congrArg some (by kernel_rfl))
  t3:=Tryz.underlying3
  a3:=Tryz.isAgg3
  z3:=Tryz.sizeOf3
  v3:=Tryz.zeroValue3
  t5:=Tryz.underlying5
  a5:=Tryz.isAgg5
  z5:=Tryz.sizeOf5
  v5:=Tryz.zeroValue5
  t9:=Tryz.underlying9
  a9:=Tryz.isAgg9
  z9:=Tryz.sizeOf9
  v9:=Tryz.zeroValue9}
def Tryz.zcx:Go.Shelf.Ren:=⟨fun|103=>82|210=>110|206=>67|n=>n,fun|9=>9|4=>4|24=>106|3=>3|n=>n,fun|n=>n⟩
theorem Tryz.zlg:Go.Proofs.Lays.n103 Tryz.prog Tryz.zcx:= {
  mixed:=by kernel_rfl
  f103:=Tryz.func82.trans (congrArg some (by kernel_rfl))
  f206:=Tryz.func67.trans (congrArg some (by kernel_rfl))
  f210:=Tryz.func110.trans (congrArg some (by kernel_rfl))
  t3:=Tryz.underlying3
  a3:=Tryz.isAgg3
  z3:=Tryz.sizeOf3
  v3:=Tryz.zeroValue3
  t4:=Tryz.underlying4
  a4:=Tryz.isAgg4
  z4:=Tryz.sizeOf4
  v4:=Tryz.zeroValue4
  t9:=Tryz.underlying9
  a9:=Tryz.isAgg9
  z9:=Tryz.sizeOf9
  v9:=Tryz.zeroValue9
  t24:=Tryz.underlying106
  a24:=Tryz.isAgg106
  z24:=Tryz.sizeOf106
  v24:=Tryz.zeroValue106}
def Tryz.zaV:Go.Shelf.Ren:=⟨fun|171=>77|243=>108|246=>133|283=>151|284=>152|285=>153|286=>154|129=>168|317=>167|318=>169|319=>170|320=>171|337=>176|338=>177|n=>n,fun|3=>3|9=>9|2=>2|4=>4|171=>172|0=>0|53=>173|37=>30|5=>5|173=>176|212=>186|51=>187|20=>20|213=>188|46=>181|232=>199|233=>200|n=>n,fun|17=>0|18=>3|19=>4|n=>n⟩
theorem Tryz.laysM171:Go.Proofs.LaysM.n171 Tryz.prog Tryz.zaV:= {
  mixed:=by kernel_rfl
  f129:=Tryz.func168.trans (congrArg some (by kernel_rfl))
  f171:=Tryz.func77.trans (congrArg some (by kernel_rfl))
  f243:=Tryz.func108.trans (congrArg some (by kernel_rfl))
  f246:=Tryz.func133.trans (congrArg some (by kernel_rfl))
  f283:=Tryz.func151.trans (congrArg some (by kernel_rfl))
  f284:=Tryz.func152.trans (congrArg some (by kernel_rfl))
  f285:=Tryz.func153.trans (congrArg some (by kernel_rfl))
  f286:=Tryz.func154.trans (congrArg some (by kernel_rfl))
  f317:=Tryz.func167.trans (congrArg some (by kernel_rfl))
  f318:=Tryz.func169.trans (congrArg some (by kernel_rfl))
  f319:=Tryz.func170.trans (congrArg some (by kernel_rfl))
  f320:=Tryz.func171.trans (congrArg some (by kernel_rfl))
  f337:=Tryz.func176.trans (congrArg some (by kernel_rfl))
  f338:=Tryz.func177.trans (congrArg some (by kernel_rfl))
  t0:=Tryz.underlying0
  a0:=Tryz.isAgg0
  z0:=Tryz.sizeOf0
  v0:=Tryz.zeroValue0
  t2:=Tryz.underlying2
  a2:=Tryz.isAgg2
  z2:=Tryz.sizeOf2
  v2:=Tryz.zeroValue2
  t3:=Tryz.underlying3
  a3:=Tryz.isAgg3
  z3:=Tryz.sizeOf3
  v3:=Tryz.zeroValue3
  t4:=Tryz.underlying4
  a4:=Tryz.isAgg4
  z4:=Tryz.sizeOf4
  v4:=Tryz.zeroValue4
  t5:=Tryz.underlying5
  a5:=Tryz.isAgg5
  z5:=Tryz.sizeOf5
  v5:=Tryz.zeroValue5
  t9:=Tryz.underlying9
  a9:=Tryz.isAgg9
  z9:=Tryz.sizeOf9
  v9:=Tryz.zeroValue9
  t20:=Tryz.underlying20
  a20:=Tryz.isAgg20
  z20:=Tryz.sizeOf20
  v20:=Tryz.zeroValue20
  t37:=Tryz.underlying30
  a37:=Tryz.isAgg30
  z37:=Tryz.sizeOf30
  v37:=Tryz.zeroValue30
  t46:=Tryz.underlying181
  a46:=Tryz.isAgg181
  z46:=Tryz.sizeOf181
  v46:=Tryz.zeroValue181
  t51:=Tryz.underlying187
  a51:=Tryz.isAgg187
  z51:=Tryz.sizeOf187
  v51:=Tryz.zeroValue187
  t53:=Tryz.underlying173
  a53:=Tryz.isAgg173
  z53:=Tryz.sizeOf173
  v53:=Tryz.zeroValue173
  t171:=Tryz.underlying172
  a171:=Tryz.isAgg172
  z171:=Tryz.sizeOf172
  v171:=Tryz.zeroValue172
  t173:=Tryz.underlying176
  a173:=Tryz.isAgg176
  z173:=Tryz.sizeOf176
  v173:=Tryz.zeroValue176
  t212:=Tryz.underlying186
  a212:=Tryz.isAgg186
  z212:=Tryz.sizeOf186
  v212:=Tryz.zeroValue186
  t213:=Tryz.underlying188
  a213:=Tryz.isAgg188
  z213:=Tryz.sizeOf188
  t232:=Tryz.underlying199
  a232:=Tryz.isAgg199
  z232:=Tryz.sizeOf199
  v232:=Tryz.zeroValue199
  t233:=Tryz.underlying200
  a233:=Tryz.isAgg200
  z233:=Tryz.sizeOf200
  v233:=Tryz.zeroValue200
  g17:=by kernel_rfl
  g18:=by kernel_rfl
  g19:=by kernel_rfl
  i0:=by kernel_rfl
  i2:=by kernel_rfl
  i3:=by kernel_rfl
  i4:=by kernel_rfl
  i5:=by kernel_rfl
  i9:=by kernel_rfl
  i20:=by kernel_rfl
  i37:=by kernel_rfl
  i46:=by kernel_rfl
  i51:=by kernel_rfl
  i53:=by kernel_rfl
  i171:=by kernel_rfl
  i173:=by kernel_rfl
  i212:=by kernel_rfl
  i232:=by kernel_rfl
  i233:=by kernel_rfl
  m17:=by kernel_rfl
  m18:=by kernel_rfl
  m19:=by kernel_rfl}
def Tryz.lays99_ren:Go.Shelf.Ren:=⟨fun|99=>42|206=>67|n=>n,fun|9=>9|4=>4|3=>3|n=>n,fun|n=>n⟩
theorem Tryz.lays99:Go.Proofs.Lays.n99 Tryz.prog Tryz.lays99_ren:= {
  mixed:=by kernel_rfl
  f99:=Tryz.func42.trans (congrArg some (by kernel_rfl))
  f206:=Tryz.func67.trans (congrArg some (by kernel_rfl))
  t3:=Tryz.underlying3
  a3:=Tryz.isAgg3
  z3:=Tryz.sizeOf3
  v3:=Tryz.zeroValue3
  t4:=Tryz.underlying4
  a4:=Tryz.isAgg4
  z4:=Tryz.sizeOf4
  v4:=Tryz.zeroValue4
  t9:=Tryz.underlying9
  a9:=Tryz.isAgg9
  z9:=Tryz.sizeOf9
  v9:=Tryz.zeroValue9}
open Go.RowKit in
theorem Tryz.strings_IndexByte (s:ByteArray) (c:Int) (w:World):
    Calls Tryz.prog 172 #[.string s,.int .u8 c] w fun e w'=>e=.returned (.int .i64 (Lib.indexByte s.data.toList c.toNat.toUInt8))∧w'=w:=Any.strings_IndexByte Tryz.lays137 s c w
open Go.RowKit in
theorem Tryz.strings_CutPrefix (s p:ByteArray) (w:World):
    Calls Tryz.prog 82 #[.string s,.string p] w fun e w'=>e=.returned (.tuple #[.string ⟨(Lib.trimPrefix s.data.toList p.data.toList).toArray⟩,.bool (Lib.hasPrefix s.data.toList p.data.toList)])∧w'=w:=Any.strings_CutPrefix Tryz.zlg s p w
open Go.RowKit Go.Sort Go.Lib in
theorem Tryz.strconv_Itoa (n:Int) (h0: -9223372036854775808≤n) (h1:n≤9223372036854775807) (w:World) (htab:Lib.TabIs Tryz.prog w "internal/strconv.uint64pow10" .u64 Lib.pow10Tab):
    Calls Tryz.prog 77 #[.int .i64 n] w fun e w'=>e=.returned (.string ⟨(Lib.itoa n).toArray⟩)∧∃ k os,w'=grow (w.drewN k) os:=Any.strconv_Itoa Tryz.laysM171 n h0 h1 w htab
open Go.RowKit Go.Lib in
theorem Tryz.strings_HasPrefix (s p:ByteArray) (w:World):
    Calls Tryz.prog 42 #[.string s,.string p] w fun e w'=>e=.returned (.bool (Lib.hasPrefix s.data.toList p.data.toList))∧w'=w:=Any.strings_HasPrefix Tryz.lays99 s p w
theorem Tryz.strings_Trim_laid (s cutset:ByteArray) (w:World) (hs:s.size≤9223372036854775807) (hcs:cutset.size<4294967281) (hascii: ∀ (j:Nat) b,cutset.data.toList[j]? =some b→b.toNat<128):
    Calls Tryz.prog 131 #[.string s,.string cutset] w fun e w'=>e=.returned (.string ⟨(Lib.trimS s.data.toList cutset.data.toList).toArray⟩)∧Go.RowKit.Below w.heap.size w w':=Any.strings_Trim_laid Tryz.lays160 (by kernel_rfl) s cutset w hs hcs hascii
theorem Tryz.strings_TrimLeft_laid (s cutset:ByteArray) (w:World) (hcs:cutset.size<4294967281) (hascii: ∀ (j:Nat) b,cutset.data.toList[j]? =some b→b.toNat<128):
    Calls Tryz.prog 158 #[.string s,.string cutset] w fun e w'=>e=.returned (.string ⟨(Lib.trimLeftS s.data.toList cutset.data.toList).toArray⟩)∧Go.RowKit.Below w.heap.size w w':=Any.strings_TrimLeft_laid Tryz.lays161 (by kernel_rfl) s cutset w hcs hascii
end Go.Proofs
namespace Go.Ab
open Go Go.Sep
variable [Facts]
theorem zcS {w w':World} (h:RowKit.Below w.heap.size w w'):Keeps (fun k=>k<w.heap.size) w w':=⟨h.1,h.2,h.3,h.4,h.5⟩
theorem Spc.of_below {Pr:Program} {f:Nat} {args:List D} {hp:List HO} {d:D} (hf: ∃ fn,Pr.funcs[f]? =some fn∧(fn.name == "runtime.NumGoroutine")=false∧fn.body.isNone=false)
    (h: ∀ (S:Frz) (bs:List Value) (w:World) (vs:List Value),Facts.p w→MDs S bs args vs→∃ v,MD S bs d v∧Calls Pr f vs.toArray w fun e w'=>e=.returned v∧RowKit.Below w.heap.size w w'):Spc Pr f args hp (.ret d) hp:=by
  refine⟨hf,fun S K fr w vs hH hM hA=> ?_⟩
  obtain⟨v,hv,hc⟩:=h S _ w vs (At.frz hA).facts hM
  refine hc.mono fun e w' he=> ?_
  obtain⟨he,hb⟩:=he
  subst he
  exact⟨S,K,Frz.le.refl S,Ext.refl _,hH,hA.keep (zcS hb),hv⟩
end Go.Ab
namespace Go.Proofs.YtcclfkakcgnacaaGreatDoor
open Go Go.Sep Go.Ab
set_option maxRecDepth 100000
theorem ziY (s cs:Str):(Lib.trimS s cs).length≤s.length:=by
  unfold Lib.trimS Lib.trimLeftS Lib.trimRightS
  refine Nat.le_trans (List.dropWhile_sublist _).length_le ?_
  rw [List.length_reverse]
  exact Nat.le_trans (List.dropWhile_sublist _).length_le (by rw [List.length_reverse];exact Nat.le_refl _)
theorem XB: ∀ (s:Str) (c:UInt8),-1≤Lib.indexByte s c∧Lib.indexByte s c<s.length
  |[],c=>by simp [Lib.indexByte]
  | b ::l,c=>by
    have:=XB l c
    unfold Lib.indexByte
    rw [List.length_cons]
    split
    · omega
    · split
      · omega
      · omega
theorem znz (s:Str):Spc Tryz.prog 131 [.v (.one (.p (.str s))),.v (.one (.p (.str ([32,9]))))] [] (.ret (.v (.one (.p (.str (Lib.trimS s [32,9])))))) []:=by
  refine Spc.of_below ⟨_,Tryz.func131,by kernel_rfl,by kernel_rfl⟩ fun S bs w vs _ hM=> ?_
  obtain⟨v,r,rfl⟩: ∃ v r,vs=v::r:=by cases vs with|nil=>exact hM.elim|cons v r=>exact⟨v,r,rfl⟩
  obtain⟨h1,hM⟩:=hM
  obtain⟨v2,r2,rfl⟩: ∃ v r2,r=v::r2:=by cases r with|nil=>exact hM.elim|cons v r=>exact⟨v,r,rfl⟩
  obtain⟨h2,hM⟩:=hM
  obtain rfl:r2=[]:=by cases r2 with|nil=>rfl|cons v r=>exact hM.elim
  cases h1 with
  | str _ hl1=>
    cases h2 with
    | str _ hl2=>
      refine⟨.string (Sep.S (Lib.trimS s [32,9])),.str _ (Nat.le_trans (ziY _ _) hl1),?_⟩
      exact Tryz.strings_Trim_laid (Sep.S s) (Sep.S [32,9]) w (by have:=hl1;unfold maxLen at this;exact this) (by decide) (fun j b hb=>by
        have:=List.mem_of_getElem? hb
        rcases(by simpa [Sep.S] using this:b=32∨b=9) with rfl|rfl<;>decide)
def SE (I:Alg) (args:List D) (hp:List HO):Option CT:=match args,hp with
  |[.v (.one (.p (.str s))),.v (.one (.p (.str ([32,9]))))],[]=>(fun(s:Str)=>(some (.one ⟨I.hid (True),(.ret (.v (.one (.p (.str (I.hid (Lib.trimS s [32,9]))))))),[]⟩):Option CT)) s
  |_,_=>none
theorem zgc:zo Tryz.prog 131 (SE alg):=by
  intro args hp r h
  unfold SE at h
  split at h
  · cases h;exact fun hn=>znz _
  · cases h
def zkE:Know Tryz.prog:=⟨131,SE,zgc⟩
def zkD:Know Tryz.prog:=⟨131,fun I=>zu I (SE I),zf zgc⟩
theorem zfy (s:Str) (k:Int):Spc Tryz.prog 172 [.v (.one (.p (.str s))),.v (.one (.p (.int .u8 k)))] [] (.ret (.v (.one (.p (.int .i64 (Lib.indexByte s k.toNat.toUInt8)))))) []:=by
  refine Spc.of_below ⟨_,Tryz.func172,by kernel_rfl,by kernel_rfl⟩ fun S bs w vs _ hM=> ?_
  obtain⟨v,r,rfl⟩: ∃ v r,vs=v::r:=by cases vs with|nil=>exact hM.elim|cons v r=>exact⟨v,r,rfl⟩
  obtain⟨h1,hM⟩:=hM
  obtain⟨v2,r2,rfl⟩: ∃ v r2,r=v::r2:=by cases r with|nil=>exact hM.elim|cons v r=>exact⟨v,r,rfl⟩
  obtain⟨h2,hM⟩:=hM
  obtain rfl:r2=[]:=by cases r2 with|nil=>rfl|cons v r=>exact hM.elim
  cases h1 with
  | str _ hl1=>
    cases h2 with
    | int _ _=>
      refine⟨.int .i64 (Lib.indexByte s k.toNat.toUInt8),.int _ _,?_⟩
      refine(Tryz.strings_IndexByte (Sep.S s) k w).mono fun e w' h=> ?_
      obtain⟨he,rfl⟩:=h
      exact⟨he,RowKit.Below.refl _ _⟩
def vT (I:Alg) (args:List D) (hp:List HO):Option CT:=match args,hp with
  |[.v (.one (.p (.str s))),.v (.one (.p (.int .u8 k)))],[]=>(fun(s:Str) (k:Int)=>(some (.one ⟨I.hid (True),(.ret (.v (.one (.p (.int .i64 (I.hid (Lib.indexByte s k.toNat.toUInt8))))))),[]⟩):Option CT)) s k
  |_,_=>none
theorem XC:zo Tryz.prog 172 (vT alg):=by
  intro args hp r h
  unfold vT at h
  split at h
  · cases h;exact fun hn=>zfy _ _
  · cases h
def za9:Know Tryz.prog:=⟨172,vT,XC⟩
def za8:Know Tryz.prog:=⟨172,fun I=>zu I (vT I),zf XC⟩
end Go.Proofs.YtcclfkakcgnacaaGreatDoor
namespace Go.Proofs.YtcclfkakcgnacaaGreatDoor
open Go Go.Sep Go.Ab
set_option maxRecDepth 100000
def lowK (k:Int):Int:=if 65≤k∧k≤90 then k+32 else k
def Zp (k:Int):Bool:=decide (48≤k∧k≤57)
def um (k:Int):Bool:=decide (97≤lowK k∧lowK k≤122)
def marks:Str:=[33,35,36,37,38,39,42,43,45,46,94,95,96,124,126]
def tokB (k:Int):Bool:=Zp k||(um k||decide (0≤Lib.indexByte marks k.toNat.toUInt8))
def VG (k:Int):Bool:=decide (k=9∨32≤k∧k≠127)
def hexK (k:Int):Int:=if Zp k then k - 48 else if um k&&decide (lowK k≤102) then lowK k - 97+10 else -1
theorem wrap8 (n:Int) (h:0≤n∧n≤255):IntKind.u8.wrap n=n:=by
  unfold IntKind.wrap
  simp only [show IntKind.u8.signed=false by decide,show IntKind.u8.bits=8 by decide,Bool.false_and,Bool.false_eq_true,if_false]
  omega
theorem wrap64 (n:Int) (h: -9223372036854775808≤n∧n≤9223372036854775807):IntKind.i64.wrap n=n:=by
  unfold IntKind.wrap
  simp only [show IntKind.i64.signed=true by decide,show IntKind.i64.bits=64 by decide]
  split<;>simp_all<;>omega
theorem zhA {k:Int} (h:0≤k∧k≤255):0≤lowK k∧lowK k≤255:=by unfold lowK;split<;>omega
theorem znf (k:Int):Spc Tryz.prog 156 [.v (.one (.p (.int .u8 k)))] [] (.ret (.v (.one (.p (.bool (Zp k)))))) []:=by
  refine spcG zi mixed Tryz.func156 (by kernel_rfl) { keep:=some [0,2]} [] (by kernel_rfl) ?_
  intro I X hI hX
  refine zh (.br (I.ile 48 k) (.fin (.ret (.v (.one (.p (.bool (I.ile k 57)))))) []) (.fin (.ret (.v (.one (.p (.bool Bool.false))))) [])) (by kernel_rfl) ?_
  simp only [zl]
  subst hI
  simp only [nrmA,nrmB]
  unfold Zp
  exact⟨fun h=>decide_eq_decide.2 (by omega),fun h=>(decide_eq_false (by omega)).symm⟩
def WW (I:Alg) (args:List D) (hp:List HO):Option CT:=match args,hp with
  |[.v (.one (.p (.int .u8 k)))],[]=>(fun(k:Int)=>(some (.one ⟨I.hid (True),(.ret (.v (.one (.p (.bool (I.hid (Zp k))))))),[]⟩):Option CT)) k
  |_,_=>none
theorem zeF:zo Tryz.prog 156 (WW alg):=by
  intro args hp r h
  unfold WW at h
  split at h
  · cases h;exact fun hn=>znf _
  · cases h
def zeE:Know Tryz.prog:=⟨156,WW,zeF⟩
def zeD:Know Tryz.prog:=⟨156,fun I=>zu I (WW I),zf zeF⟩
theorem zmQ (k:Int) (hneed:0≤k∧k≤255):Spc Tryz.prog 155 [.v (.one (.p (.int .u8 k)))] [] (.ret (.v (.one (.p (.int .u8 (lowK k)))))) []:=by
  refine spcG zi mixed Tryz.func155 (by kernel_rfl) { keep:=some [0,2]} [] (by kernel_rfl) ?_
  intro I X hI hX
  refine zh (.br (I.ile 65 k) (.br (I.ile k 90) (.need (I.inr Go.IntKind.u8 (I.add k 32)) (.fin (.ret (.v (.one (.p (.int .u8 (I.add k 32)))))) [])) (.fin (.ret (.v (.one (.p (.int .u8 k))))) [])) (.fin (.ret (.v (.one (.p (.int .u8 k))))) [])) (by kernel_rfl) ?_
  simp only [zl]
  subst hI
  simp only [nrmA,nrmB]
  unfold lowK
  (repeat' (first|refine And.intro ?_ ?_|intro _))<;>first|omega|exact True.intro|exact False.elim ‹False›|skip
def WN (I:Alg) (args:List D) (hp:List HO):Option CT:=match args,hp with
  |[.v (.one (.p (.int .u8 k)))],[]=>(fun(k:Int)=>(some (.one ⟨I.hid (0≤k∧k≤255),(.ret (.v (.one (.p (.int .u8 (I.hid (lowK k))))))),[]⟩):Option CT)) k
  |_,_=>none
theorem zd4:zo Tryz.prog 155 (WN alg):=by
  intro args hp r h
  unfold WN at h
  split at h
  · cases h;exact fun hn=>zmQ _ hn
  · cases h
def WM:Know Tryz.prog:=⟨155,WN,zd4⟩
def WL:Know Tryz.prog:=⟨155,fun I=>zu I (WN I),zf zd4⟩
theorem zlf (k:Int) (hneed:0≤k∧k≤255):Spc Tryz.prog 157 [.v (.one (.p (.int .u8 k)))] [] (.ret (.v (.one (.p (.bool (um k)))))) []:=by
  refine spcG zi mixed Tryz.func157 (by kernel_rfl) { keep:=some [0,2]} [WM,WL] (by kernel_rfl) ?_
  intro I X hI hX
  refine zh (let y0:=I.hid (α:=(Prop)) (And (LE.le (0:Int) k) (LE.le k (255:Int)));.need y0 (.br (I.ile 97 (I.hid (α:=Int) (lowK k))) (.need y0 (.fin (.ret (.v (.one (.p (.bool (I.ile (I.hid (α:=Int) (lowK k)) 122)))))) [])) (.fin (.ret (.v (.one (.p (.bool Bool.false))))) []))) (by kernel_rfl) ?_
  simp only [zl]
  subst hI
  simp only [nrmA,nrmB]
  unfold um
  (repeat' (first|refine And.intro ?_ ?_|intro _))<;>first|omega|exact True.intro|exact False.elim ‹False›|skip
  all_goals first|exact decide_eq_decide.2 (by omega)|exact(decide_eq_false (by omega)).symm|exact(decide_eq_true (by omega)).symm|(rw [show(k == 127)=decide (k=127) from rfl,← decide_not];exact decide_eq_decide.2 (by omega))
def Yt (I:Alg) (args:List D) (hp:List HO):Option CT:=match args,hp with
  |[.v (.one (.p (.int .u8 k)))],[]=>(fun(k:Int)=>(some (.one ⟨I.hid (0≤k∧k≤255),(.ret (.v (.one (.p (.bool (I.hid (um k))))))),[]⟩):Option CT)) k
  |_,_=>none
theorem zaU:zo Tryz.prog 157 (Yt alg):=by
  intro args hp r h
  unfold Yt at h
  split at h
  · cases h;exact fun hn=>zlf _ hn
  · cases h
def zaT:Know Tryz.prog:=⟨157,Yt,zaU⟩
def zaS:Know Tryz.prog:=⟨157,fun I=>zu I (Yt I),zf zaU⟩
theorem zlZ (k:Int) (hneed:0≤k∧k≤255):Spc Tryz.prog 159 [.v (.one (.p (.int .u8 k)))] [] (.ret (.v (.one (.p (.bool (tokB k)))))) []:=by
  refine spcG zi mixed Tryz.func159 (by kernel_rfl) { keep:=some [0,2]} [za9,za8,zeE,zeD,zaT,zaS] (by kernel_rfl) ?_
  intro I X hI hX
  refine zh (.need (I.hid (α:=(Prop)) True) (.br (I.hid (α:=Bool) (Zp k)) (.fin (.ret (.v (.one (.p (.bool Bool.true))))) []) (.need (I.hid (α:=(Prop)) (And (LE.le (0:Int) k) (LE.le k (255:Int)))) (.br (I.hid (α:=Bool) (um k)) (.fin (.ret (.v (.one (.p (.bool Bool.true))))) []) (.need (I.hid (α:=(Prop)) True) (.fin (.ret (.v (.one (.p (.bool (I.ile 0 (I.hid (α:=Int) (Go.Lib.indexByte (Array.toList (List.toArray ([33,35,36,37,38,39,42,43,45,46,94,95,96,124,126]:List UInt8))) (Nat.toUInt8 (Int.toNat k)))))))))) [])))))) (by kernel_rfl) ?_
  simp only [zl]
  subst hI
  simp only [nrmA,nrmB]
  unfold tokB marks
  (repeat' (first|refine And.intro ?_ ?_|intro _))<;>first|omega|exact True.intro|exact False.elim ‹False›|skip
  all_goals simp [*]
def XV (I:Alg) (args:List D) (hp:List HO):Option CT:=match args,hp with
  |[.v (.one (.p (.int .u8 k)))],[]=>(fun(k:Int)=>(some (.one ⟨I.hid (0≤k∧k≤255),(.ret (.v (.one (.p (.bool (I.hid (tokB k))))))),[]⟩):Option CT)) k
  |_,_=>none
theorem zdd:zo Tryz.prog 159 (XV alg):=by
  intro args hp r h
  unfold XV at h
  split at h
  · cases h;exact fun hn=>zlZ _ hn
  · cases h
def qA:Know Tryz.prog:=⟨159,XV,zdd⟩
def XU:Know Tryz.prog:=⟨159,fun I=>zu I (XV I),zf zdd⟩
theorem ziW (k:Int):Spc Tryz.prog 130 [.v (.one (.p (.int .u8 k)))] [] (.ret (.v (.one (.p (.bool (VG k)))))) []:=by
  refine spcG zi mixed Tryz.func130 (by kernel_rfl) { keep:=some [0,2]} [] (by kernel_rfl) ?_
  intro I X hI hX
  refine zh (.br (I.ieq k 9) (.fin (.ret (.v (.one (.p (.bool Bool.true))))) []) (.br (I.ile 32 k) (.fin (.ret (.v (.one (.p (.bool (I.bnot (I.ieq k 127))))))) []) (.fin (.ret (.v (.one (.p (.bool Bool.false))))) []))) (by kernel_rfl) ?_
  simp only [zl]
  subst hI
  simp only [nrmA,nrmB]
  unfold VG
  (repeat' (first|refine And.intro ?_ ?_|intro _))<;>first|omega|exact True.intro|exact False.elim ‹False›|skip
  all_goals first|exact decide_eq_decide.2 (by omega)|exact(decide_eq_false (by omega)).symm|exact(decide_eq_true (by omega)).symm|(rw [show(k == 127)=decide (k=127) from rfl,← decide_not];exact decide_eq_decide.2 (by omega))
def qx (I:Alg) (args:List D) (hp:List HO):Option CT:=match args,hp with
  |[.v (.one (.p (.int .u8 k)))],[]=>(fun(k:Int)=>(some (.one ⟨I.hid (True),(.ret (.v (.one (.p (.bool (I.hid (VG k))))))),[]⟩):Option CT)) k
  |_,_=>none
theorem UZ:zo Tryz.prog 130 (qx alg):=by
  intro args hp r h
  unfold qx at h
  split at h
  · cases h;exact fun hn=>ziW _
  · cases h
def YS:Know Tryz.prog:=⟨130,qx,UZ⟩
def zeX:Know Tryz.prog:=⟨130,fun I=>zu I (qx I),zf UZ⟩
theorem zll (k:Int):Spc Tryz.prog 125 [.v (.one (.p (.int .u8 k)))] [] (.ret (.v (.one (.p (.bool (VG k)))))) []:=by
  refine spcG zi mixed Tryz.func125 (by kernel_rfl) { keep:=some [0,2]} [] (by kernel_rfl) ?_
  intro I X hI hX
  refine zh (.br (I.ieq k 9) (.fin (.ret (.v (.one (.p (.bool Bool.true))))) []) (.br (I.ilt 31 k) (.fin (.ret (.v (.one (.p (.bool (I.bnot (I.ieq k 127))))))) []) (.fin (.ret (.v (.one (.p (.bool Bool.false))))) []))) (by kernel_rfl) ?_
  simp only [zl]
  subst hI
  simp only [nrmA,nrmB]
  unfold VG
  (repeat' (first|refine And.intro ?_ ?_|intro _))<;>first|omega|exact True.intro|exact False.elim ‹False›|skip
  all_goals first|exact decide_eq_decide.2 (by omega)|exact(decide_eq_false (by omega)).symm|exact(decide_eq_true (by omega)).symm|(rw [show(k == 127)=decide (k=127) from rfl,← decide_not];exact decide_eq_decide.2 (by omega))
def Yu (I:Alg) (args:List D) (hp:List HO):Option CT:=match args,hp with
  |[.v (.one (.p (.int .u8 k)))],[]=>(fun(k:Int)=>(some (.one ⟨I.hid (True),(.ret (.v (.one (.p (.bool (I.hid (VG k))))))),[]⟩):Option CT)) k
  |_,_=>none
theorem za1:zo Tryz.prog 125 (Yu alg):=by
  intro args hp r h
  unfold Yu at h
  split at h
  · cases h;exact fun hn=>zll _
  · cases h
def za0:Know Tryz.prog:=⟨125,Yu,za1⟩
def zaZ:Know Tryz.prog:=⟨125,fun I=>zu I (Yu I),zf za1⟩
theorem hex_ (k:Int) (hneed:0≤k∧k≤255):Spc Tryz.prog 135 [.v (.one (.p (.int .u8 k)))] [] (.ret (.v (.one (.p (.int .i64 (hexK k)))))) []:=by
  refine spcG zi mixed Tryz.func135 (by kernel_rfl) { keep:=some [0,2]} [zeE,zeD,WM,WL,zaT,zaS] (by kernel_rfl) ?_
  intro I X hI hX
  refine zh (let y0:=I.hid (α:=(Prop)) (And (LE.le (0:Int) k) (LE.le k (255:Int)));let y1:=I.add (I.wrap Go.IntKind.i64 (I.sub (I.hid (α:=Int) (lowK k)) 97)) 10;.need (I.hid (α:=(Prop)) True) (.br (I.hid (α:=Bool) (Zp k)) (.need (I.inr Go.IntKind.u8 (I.sub k 48)) (.fin (.ret (.v (.one (.p (.int .i64 (I.wrap Go.IntKind.i64 (I.sub k 48))))))) [])) (.need y0 (.br (I.hid (α:=Bool) (um k)) (.need y0 (.br (I.ile (I.hid (α:=Int) (lowK k)) 102) (.need y0 (.need (I.inr Go.IntKind.u8 (I.sub (I.hid (α:=Int) (lowK k)) 97)) (.need (I.inr Go.IntKind.i64 y1) (.fin (.ret (.v (.one (.p (.int .i64 y1))))) [])))) (.fin (.ret (.v (.one (.p (.int .i64 (Neg.neg (1:Int))))))) []))) (.fin (.ret (.v (.one (.p (.int .i64 (Neg.neg (1:Int))))))) []))))) (by kernel_rfl) ?_
  simp only [zl]
  subst hI
  simp only [nrmA,nrmB]
  (repeat' (first|refine And.intro ?_ ?_|intro _))<;>first|omega|exact True.intro|exact False.elim ‹False›|skip
  all_goals first
    |(have:=of_decide_eq_true ‹Zp k=true›;omega)
    |(have:=of_decide_eq_true ‹Zp k=true›;unfold hexK;rw [if_pos ‹Zp k=true›,wrap64 _ (by omega)])
    |(have:=of_decide_eq_true ‹um k=true›;omega)
    |(have:=of_decide_eq_true ‹um k=true›;rw [wrap64 _ (by omega)];omega)
    |(have:=of_decide_eq_true ‹um k=true›;rw [wrap64 _ (by omega)];unfold hexK;simp [*])
    |(unfold hexK;simp [*])
def zee (I:Alg) (args:List D) (hp:List HO):Option CT:=match args,hp with
  |[.v (.one (.p (.int .u8 k)))],[]=>(fun(k:Int)=>(some (.one ⟨I.hid (0≤k∧k≤255),(.ret (.v (.one (.p (.int .i64 (I.hid (hexK k))))))),[]⟩):Option CT)) k
  |_,_=>none
theorem zko:zo Tryz.prog 135 (zee alg):=by
  intro args hp r h
  unfold zee at h
  split at h
  · cases h;exact fun hn=>hex_ _ hn
  · cases h
def zed:Know Tryz.prog:=⟨135,zee,zko⟩
def zec:Know Tryz.prog:=⟨135,fun I=>zu I (zee I),zf zko⟩
end Go.Proofs.YtcclfkakcgnacaaGreatDoor
namespace Go.Proofs.YtcclfkakcgnacaaGreatDoor
open Go Go.Sep Go.Ab
set_option maxRecDepth 100000
def tokA (s:Str):Bool:=s.all fun c=>tokB (c.toNat:Int)
def vG (s:Str):Bool:=s.all fun c=>VG (c.toNat:Int)
theorem xu (c:UInt8):0≤(c.toNat:Int)∧(c.toNat:Int)≤255:=by have:=c.toNat_lt;omega
theorem QZ {p:UInt8→Bool} {s:Str} {i:Nat} (h:i<s.length):(s.drop i).all p=(p (s.getD i 0)&&(s.drop (i+1)).all p):=by
  rw [List.drop_eq_getElem_cons h,List.all_cons];simp [h]
theorem zlP (s:Str) (hneed:s.length≤1000000):Spc Tryz.prog 129 [.v (.one (.p (.str s))),.v (.one (.fn 159 []))] [] (.ret (.v (.one (.p (.bool (tokA s)))))) []:=by
  generalize hr:tokA s=r
  refine spcG zi mixed Tryz.func129 (by kernel_rfl) { keep:=some [0,1,4,5,7,8]} [qA] (by kernel_rfl) ?_
  intro I X hI hX
  refine zh (.code 0 [1,0,1,0] ⟨[(8,(.v (.one (.p (.int .i64 0))))),(7,(.v (.one (.p (.int .i64 (I.len (α:=UInt8) s)))))),(4,(.v (.one (.p (.val (.bool .false)))))),(0,(.v (.one (.p (.str s))))),(1,(.v (.one (.fn 159 []))))],[],18,none⟩) (by kernel_rfl) ?_
  simp only [zl]
  refine zA hI zi mixed [qA] hX [0,1,7,8] (fun(i:Nat)=>i≤s.length∧tokA (s.drop i)=r) (fun(i:Nat)=>⟨[(0,.v (.one (.p (.str s)))),(1,.v (.one (.fn 159 []))),(7,.v (.one (.p (.int .i64 ((I.len (α:=UInt8) s)))))),(8,.v (.one (.p (.int .i64 i))))],[],18,none⟩) (fun(i:Nat)=>s.length - i) 0 (by kernel_rfl) (by kernel_rfl) ?_ ?_
  · exact⟨Nat.zero_le _,hr⟩
  rintro i ⟨h1,h2⟩ A hA
  refine zh (let y0:=I.b2i (I.get (α:=UInt8) s 0 (Nat.cast i));.br (I.ilt (Nat.cast i) (I.len (α:=UInt8) s)) (.need (I.inb (Nat.cast i) (I.len (α:=UInt8) s)) (.need (I.hid (α:=(Prop)) (And (LE.le (0:Int) y0) (LE.le y0 (255:Int)))) (.br (I.bnot (I.hid (α:=Bool) (tokB y0))) (.fin (.ret (.v (.one (.p (.bool Bool.false))))) []) (.need (I.inr Go.IntKind.i64 (I.add (Nat.cast i) 1)) (.need (A ⟨[(0,(.v (.one (.p (.str s))))),(1,(.v (.one (.fn 159 [])))),(7,(.v (.one (.p (.int .i64 (I.len (α:=UInt8) s)))))),(8,(.v (.one (.p (.int .i64 (I.add (Nat.cast i) 1))))))],[],18,none⟩) .qed))))) (.fin (.ret (.v (.one (.p (.bool Bool.true))))) [])) (by kernel_rfl) ?_
  simp only [zl]
  subst hI
  simp only [nrmA,nrmB]
  have hb:=xu (s.getD i 0)
  have hd:i<s.length→tokA (s.drop i)=(tokB (s.getD i 0).toNat&&tokA (s.drop (i+1))):=fun h=>QZ h
  generalize s.getD i 0=x at *
  (repeat' (first|refine And.intro ?_ ?_|intro _))<;>first|omega|exact True.intro|exact False.elim ‹False›|skip
  all_goals first
    |(rw [← h2,hd (by omega)];simp [*];done)
    |(refine hA (i+1) ⟨by omega,?_⟩ (by omega);rw [← h2,hd (by omega)];simp [*];done)
    |(rw [← h2,List.drop_of_length_le (by omega)];rfl)
def YO (I:Alg) (args:List D) (hp:List HO):Option CT:=match args,hp with
  |[.v (.one (.p (.str s))),.v (.one (.fn 159 []))],[]=>(fun(s:Str)=>(some (.one ⟨I.hid (s.length≤1000000),(.ret (.v (.one (.p (.bool (I.hid (tokA s))))))),[]⟩):Option CT)) s
  |_,_=>none
theorem zbR:zo Tryz.prog 129 (YO alg):=by
  intro args hp r h
  unfold YO at h
  split at h
  · cases h;exact fun hn=>zlP _ hn
  · cases h
def Uy:Know Tryz.prog:=⟨129,YO,zbR⟩
def Ux:Know Tryz.prog:=⟨129,fun I=>zu I (YO I),zf zbR⟩
theorem zj4 (s:Str) (hneed:s.length≤1000000):Spc Tryz.prog 129 [.v (.one (.p (.str s))),.v (.one (.fn 130 []))] [] (.ret (.v (.one (.p (.bool (vG s)))))) []:=by
  generalize hr:vG s=r
  refine spcG zi mixed Tryz.func129 (by kernel_rfl) { keep:=some [0,1,4,5,7,8]} [YS,Uy,Ux] (by kernel_rfl) ?_
  intro I X hI hX
  refine zh (.code 0 [1,0,1,0] ⟨[(8,(.v (.one (.p (.int .i64 0))))),(7,(.v (.one (.p (.int .i64 (I.len (α:=UInt8) s)))))),(4,(.v (.one (.p (.val (.bool .false)))))),(0,(.v (.one (.p (.str s))))),(1,(.v (.one (.fn 130 []))))],[],18,none⟩) (by kernel_rfl) ?_
  simp only [zl]
  refine zA hI zi mixed [YS,Uy,Ux] hX [0,1,7,8] (fun(i:Nat)=>i≤s.length∧vG (s.drop i)=r) (fun(i:Nat)=>⟨[(0,.v (.one (.p (.str s)))),(1,.v (.one (.fn 130 []))),(7,.v (.one (.p (.int .i64 ((I.len (α:=UInt8) s)))))),(8,.v (.one (.p (.int .i64 i))))],[],18,none⟩) (fun(i:Nat)=>s.length - i) 0 (by kernel_rfl) (by kernel_rfl) ?_ ?_
  · exact⟨Nat.zero_le _,hr⟩
  rintro i ⟨h1,h2⟩ A hA
  refine zh (.br (I.ilt (Nat.cast i) (I.len (α:=UInt8) s)) (.need (I.inb (Nat.cast i) (I.len (α:=UInt8) s)) (.need (I.hid (α:=(Prop)) True) (.br (I.bnot (I.hid (α:=Bool) (VG (I.b2i (I.get (α:=UInt8) s 0 (Nat.cast i)))))) (.fin (.ret (.v (.one (.p (.bool Bool.false))))) []) (.need (I.inr Go.IntKind.i64 (I.add (Nat.cast i) 1)) (.need (A ⟨[(0,(.v (.one (.p (.str s))))),(1,(.v (.one (.fn 130 [])))),(7,(.v (.one (.p (.int .i64 (I.len (α:=UInt8) s)))))),(8,(.v (.one (.p (.int .i64 (I.add (Nat.cast i) 1))))))],[],18,none⟩) .qed))))) (.fin (.ret (.v (.one (.p (.bool Bool.true))))) [])) (by kernel_rfl) ?_
  simp only [zl]
  subst hI
  simp only [nrmA,nrmB]
  have hb:=xu (s.getD i 0)
  have hd:i<s.length→vG (s.drop i)=(VG (s.getD i 0).toNat&&vG (s.drop (i+1))):=fun h=>QZ h
  generalize s.getD i 0=x at *
  (repeat' (first|refine And.intro ?_ ?_|intro _))<;>first|omega|exact True.intro|exact False.elim ‹False›|skip
  all_goals first
    |(rw [← h2,hd (by omega)];simp [*];done)
    |(refine hA (i+1) ⟨by omega,?_⟩ (by omega);rw [← h2,hd (by omega)];simp [*];done)
    |(rw [← h2,List.drop_of_length_le (by omega)];rfl)
def Zf (I:Alg) (args:List D) (hp:List HO):Option CT:=match args,hp with
  |[.v (.one (.p (.str s))),.v (.one (.fn 130 []))],[]=>(fun(s:Str)=>(some (.one ⟨I.hid (s.length≤1000000),(.ret (.v (.one (.p (.bool (I.hid (vG s))))))),[]⟩):Option CT)) s
  |_,_=>none
theorem SA:zo Tryz.prog 129 (Zf alg):=by
  intro args hp r h
  unfold Zf at h
  split at h
  · cases h;exact fun hn=>zj4 _ hn
  · cases h
def zfU:Know Tryz.prog:=⟨129,Zf,SA⟩
def zfT:Know Tryz.prog:=⟨129,fun I=>zu I (Zf I),zf SA⟩
def zj9 (s:Str):Bool:=decide (s≠[])&&tokA s
theorem zfx (s:Str) (hneed:s.length≤1000000):Spc Tryz.prog 101 [.v (.one (.p (.str s)))] [] (.ret (.v (.one (.p (.bool (vG s)))))) []:=by
  refine spcG zi mixed Tryz.func101 (by kernel_rfl) { keep:=some [0,2]} [YS,zeX,Uy,Ux,zfU,zfT] (by kernel_rfl) ?_
  intro I X hI hX
  refine zh (.need (I.hid (α:=(Prop)) (LE.le (List.length s) 1000000)) (.fin (.ret (.v (.one (.p (.bool (I.hid (α:=Bool) (vG s))))))) [])) (by kernel_rfl) ?_
  simp only [zl]
  subst hI
  simp only [nrmA,nrmB]
  exact hneed
def vP (I:Alg) (args:List D) (hp:List HO):Option CT:=match args,hp with
  |[.v (.one (.p (.str s)))],[]=>(fun(s:Str)=>(some (.one ⟨I.hid (s.length≤1000000),(.ret (.v (.one (.p (.bool (I.hid (vG s))))))),[]⟩):Option CT)) s
  |_,_=>none
theorem XA:zo Tryz.prog 101 (vP alg):=by
  intro args hp r h
  unfold vP at h
  split at h
  · cases h;exact fun hn=>zfx _ hn
  · cases h
def Xz:Know Tryz.prog:=⟨101,vP,XA⟩
def Xy:Know Tryz.prog:=⟨101,fun I=>zu I (vP I),zf XA⟩
theorem one_ (k:Int) (s:Str) (hneed:s.length≤1000000∧0≤k∧k≤255):Spc Tryz.prog 43 [.v (.one (.p (.int .u8 k))),.v (.one (.p (.str s)))] [] (.ret (.v (.one (.p (.bool (s.contains (UInt8.ofNat k.toNat))))))) []:=by
  generalize hr:s.contains (UInt8.ofNat k.toNat)=r
  refine spcG zi mixed Tryz.func43 (by kernel_rfl) { keep:=some [0,1,4,5]} [] (by kernel_rfl) ?_
  intro I X hI hX
  refine zh (.code 0 [1,0,1,0] ⟨[(5,(.v (.one (.p (.int .i64 0))))),(4,(.v (.one (.p (.val (.bool .false)))))),(0,(.v (.one (.p (.int .u8 k))))),(1,(.v (.one (.p (.str s)))))],[],17,none⟩) (by kernel_rfl) ?_
  simp only [zl]
  refine zA hI zi mixed [] hX [0,1,5] (fun(i:Nat)=>i≤s.length∧(s.drop i).contains (UInt8.ofNat k.toNat)=r) (fun(i:Nat)=>⟨[(0,.v (.one (.p (.int .u8 k)))),(1,.v (.one (.p (.str s)))),(5,.v (.one (.p (.int .i64 i))))],[],17,none⟩) (fun(i:Nat)=>s.length - i) 0 (by kernel_rfl) (by kernel_rfl) ?_ ?_
  · exact⟨Nat.zero_le _,hr⟩
  rintro i ⟨h1,h2⟩ A hA
  refine zh (.br (I.ilt (Nat.cast i) (I.len (α:=UInt8) s)) (.need (I.inb (Nat.cast i) (I.len (α:=UInt8) s)) (.br (I.ieq (I.b2i (I.get (α:=UInt8) s 0 (Nat.cast i))) k) (.fin (.ret (.v (.one (.p (.bool Bool.true))))) []) (.need (I.inr Go.IntKind.i64 (I.add (Nat.cast i) 1)) (.need (A ⟨[(0,(.v (.one (.p (.int .u8 k))))),(1,(.v (.one (.p (.str s))))),(5,(.v (.one (.p (.int .i64 (I.add (Nat.cast i) 1))))))],[],17,none⟩) .qed)))) (.fin (.ret (.v (.one (.p (.bool Bool.false))))) [])) (by kernel_rfl) ?_
  simp only [zl]
  subst hI
  simp only [nrmA,nrmB]
  have hd:i<s.length→(s.drop i).contains (UInt8.ofNat k.toNat)=((UInt8.ofNat k.toNat == s.getD i 0)||(s.drop (i+1)).contains (UInt8.ofNat k.toNat)):=fun h=>by
    rw [List.drop_eq_getElem_cons h,List.contains_cons];simp [h]
  have hc:((s.getD i 0).toNat:Int)=k↔UInt8.ofNat k.toNat=s.getD i 0:=by
    rw [← UInt8.toNat_inj,UInt8.toNat_ofNat']
    omega
  rw [hc]
  generalize s.getD i 0=x at *
  (repeat' (first|refine And.intro ?_ ?_|intro _))<;>first|omega|exact True.intro|exact False.elim ‹False›|skip
  all_goals first
    |(rw [← h2,hd (by omega)];simp [*];done)
    |(refine hA (i+1) ⟨by omega,?_⟩ (by omega);rw [← h2,hd (by omega)];simp [*];done)
    |(rw [← h2,List.drop_of_length_le (by omega)];rfl)
def zdR (I:Alg) (args:List D) (hp:List HO):Option CT:=match args,hp with
  |[.v (.one (.p (.int .u8 k))),.v (.one (.p (.str s)))],[]=>(fun(k:Int) (s:Str)=>(some (.one ⟨I.hid (s.length≤1000000∧0≤k∧k≤255),(.ret (.v (.one (.p (.bool (I.hid (s.contains (UInt8.ofNat k.toNat)))))))),[]⟩):Option CT)) k s
  |_,_=>none
theorem zkj:zo Tryz.prog 43 (zdR alg):=by
  intro args hp r h
  unfold zdR at h
  split at h
  · cases h;exact fun hn=>one_ _ _ hn
  · cases h
def zg8:Know Tryz.prog:=⟨43,zdR,zkj⟩
def zg7:Know Tryz.prog:=⟨43,fun I=>zu I (zdR I),zf zkj⟩
def tokR:Str:=[48,49,50,51,52,53,54,55,56,57,65,66,67,68,69,70,71,72,73,74,75,76,77,78,79,80,81,82,83,84,85,86,87,88,89,90,97,98,99,100,101,102,103,104,105,106,107,108,109,110,111,112,113,114,115,116,117,118,119,120,121,122,33,35,36,37,38,39,42,43,45,46,94,95,96,124,126]
theorem zj3 {p:Int→Prop} [∀ k,Decidable (p k)] (h: ∀ n:Fin 256,p (n.1:Int)) {k:Int} (hk:0≤k∧k≤255):p k:=by
  have:=h ⟨k.toNat,by omega⟩
  rwa [show((k.toNat:Nat):Int)=k by omega] at this
theorem zi1 {k:Int} (hk:0≤k∧k≤255):tokR.contains (UInt8.ofNat k.toNat)=tokB k:=
  zj3 (p:=fun k=>tokR.contains (UInt8.ofNat k.toNat)=tokB k) (by decide+kernel) hk
theorem zaY (k:Int) (hneed:0≤k∧k≤255):Spc Tryz.prog 126 [.v (.one (.p (.int .u8 k)))] [] (.ret (.v (.one (.p (.bool (tokB k)))))) []:=by
  rw [← zi1 hneed]
  refine spcG zi mixed Tryz.func126 (by kernel_rfl) { keep:=some [0,2]} [zg8,zg7] (by kernel_rfl) ?_
  intro I X hI hX
  refine zh (.need (I.hid (α:=(Prop)) (And (LE.le (List.length (Array.toList (List.toArray (List.append ([48,49,50,51,52,53,54,55,56,57,65,66,67,68,69,70,71,72,73,74,75,76,77,78,79,80,81,82,83,84,85,86,87,88,89,90,97,98]:List UInt8) ([99,100,101,102,103,104,105,106,107,108,109,110,111,112,113,114,115,116,117,118,119,120,121,122,33,35,36,37,38,39,42,43,45,46,94,95,96,124,126]:List UInt8))))) 1000000) (And (LE.le (0:Int) k) (LE.le k (255:Int))))) (.fin (.ret (.v (.one (.p (.bool (I.hid (α:=Bool) (List.contains (Array.toList (List.toArray (List.append ([48,49,50,51,52,53,54,55,56,57,65,66,67,68,69,70,71,72,73,74,75,76,77,78,79,80,81,82,83,84,85,86,87,88,89,90,97,98]:List UInt8) ([99,100,101,102,103,104,105,106,107,108,109,110,111,112,113,114,115,116,117,118,119,120,121,122,33,35,36,37,38,39,42,43,45,46,94,95,96,124,126]:List UInt8)))) (UInt8.ofNat (Int.toNat k))))))))) [])) (by kernel_rfl) ?_
  simp only [zl]
  subst hI
  simp only [nrmA,nrmB]
  trivial
def wz (I:Alg) (args:List D) (hp:List HO):Option CT:=match args,hp with
  |[.v (.one (.p (.int .u8 k)))],[]=>(fun(k:Int)=>(some (.one ⟨I.hid (0≤k∧k≤255),(.ret (.v (.one (.p (.bool (I.hid (tokB k))))))),[]⟩):Option CT)) k
  |_,_=>none
theorem Zn:zo Tryz.prog 126 (wz alg):=by
  intro args hp r h
  unfold wz at h
  split at h
  · cases h;exact fun hn=>zaY _ hn
  · cases h
def isTokenByte__k:Know Tryz.prog:=⟨126,wz,Zn⟩
def isTokenByte__l:Know Tryz.prog:=⟨126,fun I=>zu I (wz I),zf Zn⟩
theorem zgD (s:Str) (hneed:s.length≤1000000):Spc Tryz.prog 93 [.v (.one (.p (.str s)))] [] (.ret (.v (.one (.p (.bool (vG s)))))) []:=by
  generalize hr:vG s=r
  refine spcG zi mixed Tryz.func93 (by kernel_rfl) { keep:=some [0,2,3]} [za0,zaZ] (by kernel_rfl) ?_
  intro I X hI hX
  refine zh (.code 0 [1,0,1,0] ⟨[(3,(.v (.one (.p (.int .i64 0))))),(2,(.v (.one (.p (.val (.bool .false)))))),(0,(.v (.one (.p (.str s)))))],[],15,none⟩) (by kernel_rfl) ?_
  simp only [zl]
  refine zA hI zi mixed [za0,zaZ] hX [0,3] (fun(i:Nat)=>i≤s.length∧vG (s.drop i)=r) (fun(i:Nat)=>⟨[(0,.v (.one (.p (.str s)))),(3,.v (.one (.p (.int .i64 i))))],[],15,none⟩) (fun(i:Nat)=>s.length - i) 0 (by kernel_rfl) (by kernel_rfl) ?_ ?_
  · exact⟨Nat.zero_le _,hr⟩
  rintro i ⟨h1,h2⟩ A hA
  refine zh (.br (I.ilt (Nat.cast i) (I.len (α:=UInt8) s)) (.need (I.inb (Nat.cast i) (I.len (α:=UInt8) s)) (.need (I.hid (α:=(Prop)) True) (.br (I.bnot (I.hid (α:=Bool) (VG (I.b2i (I.get (α:=UInt8) s 0 (Nat.cast i)))))) (.fin (.ret (.v (.one (.p (.bool Bool.false))))) []) (.need (I.inr Go.IntKind.i64 (I.add (Nat.cast i) 1)) (.need (A ⟨[(0,(.v (.one (.p (.str s))))),(3,(.v (.one (.p (.int .i64 (I.add (Nat.cast i) 1))))))],[],15,none⟩) .qed))))) (.fin (.ret (.v (.one (.p (.bool Bool.true))))) [])) (by kernel_rfl) ?_
  simp only [zl]
  subst hI
  simp only [nrmA,nrmB]
  have hb:=xu (s.getD i 0)
  have hd:i<s.length→vG (s.drop i)=(VG (s.getD i 0).toNat&&vG (s.drop (i+1))):=fun h=>QZ h
  generalize s.getD i 0=x at *
  (repeat' (first|refine And.intro ?_ ?_|intro _))<;>first|omega|exact True.intro|exact False.elim ‹False›|skip
  all_goals first
    |(rw [← h2,hd (by omega)];simp [*];done)
    |(refine hA (i+1) ⟨by omega,?_⟩ (by omega);rw [← h2,hd (by omega)];simp [*];done)
    |(rw [← h2,List.drop_of_length_le (by omega)];rfl)
def tX (I:Alg) (args:List D) (hp:List HO):Option CT:=match args,hp with
  |[.v (.one (.p (.str s)))],[]=>(fun(s:Str)=>(some (.one ⟨I.hid (s.length≤1000000),(.ret (.v (.one (.p (.bool (I.hid (vG s))))))),[]⟩):Option CT)) s
  |_,_=>none
theorem VF:zo Tryz.prog 93 (tX alg):=by
  intro args hp r h
  unfold tX at h
  split at h
  · cases h;exact fun hn=>zgD _ hn
  · cases h
def zb9:Know Tryz.prog:=⟨93,tX,VF⟩
def zb8:Know Tryz.prog:=⟨93,fun I=>zu I (tX I),zf VF⟩
end Go.Proofs.YtcclfkakcgnacaaGreatDoor
namespace Go.Proofs.YtcclfkakcgnacaaGreatDoor
open Go Go.Sep Go.Ab
set_option maxRecDepth 100000
def lowC (x:UInt8):UInt8:=if 65≤x.toNat∧x.toNat≤90 then x+32 else x
def lowS (s:Str):Str:=s.map lowC
theorem xB (s:Str):(lowS s).length=s.length:=by simp [lowS]
theorem zfs (x:UInt8):((lowC x).toNat:Int)=lowK x.toNat:=by
  unfold lowC lowK
  have:=x.toNat_lt
  split
  · rw [if_pos (by omega),UInt8.toNat_add]
    simp only [show(32:UInt8).toNat=32 from rfl]
    omega
  · rw [if_neg (by omega)]
theorem zle (x:UInt8):UInt8.ofNat (lowK x.toNat).toNat=lowC x:=by
  rw [← zfs,Int.toNat_natCast,UInt8.ofNat_toNat]
def bl (c:UInt8):Bool:=([32,9]:Str).contains c
def trL (s:Str):Str:=s.dropWhile bl
def trR (s:Str):Str:=(s.reverse.dropWhile bl).reverse
theorem SG (s:Str):Lib.trimS s [32,9]=trL (trR s):=rfl
theorem tC (c:UInt8) (l:Str):trL (c::l)=if bl c then trL l else c::l:=by unfold trL;rw [List.dropWhile_cons]
theorem zdb (c:UInt8) (l:Str):trR (c::l)=if trR l=[]∧bl c=true then [] else c::trR l:=by
  unfold trR
  rw [List.reverse_cons,List.dropWhile_append]
  cases hd:l.reverse.dropWhile bl with
  |nil=>cases hb:bl c<;>simp [hb,List.dropWhile]
  |cons y r=>simp
theorem zda (c:UInt8) (l:Str):trR (l++[c])=if bl c then trR l else l++[c]:=by
  unfold trR
  rw [List.reverse_append]
  simp only [List.reverse_cons,List.reverse_nil,List.nil_append,List.singleton_append]
  rw [List.dropWhile_cons]
  split
  · rfl
  · simp
theorem zb0: ∀ s:Str,trL (trR s)=trR (trL s)
  |[]=>rfl
  | c ::l=>by
    have ih:=zb0 l
    rw [zdb,tC]
    by_cases hb:bl c=true
    · rw [if_pos hb,← ih]
      by_cases h0:trR l=[]
      · rw [if_pos ⟨h0,hb⟩,h0]
      · rw [if_neg (fun h=>h0 h.1),tC,if_pos hb]
    · rw [if_neg hb,if_neg (fun h=>hb h.2),tC,if_neg hb,zdb,if_neg (fun h=>hb h.2)]
theorem SH: ∀ s:Str,trL (trL s)=trL s
  |[]=>rfl
  | c::l=>by
    rw [tC]
    by_cases h:bl c=true
    · rw [if_pos h];exact SH l
    · rw [if_neg h,tC,if_neg h]
theorem zi0 (s:Str):trR (trR s)=trR s:=by
  have h: ∀ t:Str,trR t=(trL t.reverse).reverse:=fun _=>rfl
  rw [h (trR s),h s,List.reverse_reverse,SH]
theorem trimS_idem (s:Str):Lib.trimS (Lib.trimS s [32,9]) [32,9]=Lib.trimS s [32,9]:=by
  rw [SG,SG,← zb0 (trR s),zi0,SH]
theorem zbJ (c:UInt8):bl c=true↔(c.toNat:Int)=32∨(c.toNat:Int)=9:=by
  unfold bl
  rw [List.contains_iff_mem,List.mem_cons,List.mem_singleton,← UInt8.toNat_inj,← UInt8.toNat_inj]
  simp only [show(32:UInt8).toNat=32 from rfl,show(9:UInt8).toNat=9 from rfl]
  omega
theorem zdc {u:Str} (h:0<u.length→¬ bl (u.getD 0 0)=true):trL u=u:=by
  cases u with
  |nil=>rfl
  |cons c l=>rw [tC,if_neg (by simpa using h (by simp))]
theorem zlY {u:Str} (h:0<u.length) (hb:bl (u.getD 0 0)=true):trL u=trL (u.drop 1):=by
  cases u with
  |nil=>simp at h
  |cons c l=>rw [tC,if_pos (by simpa using hb)];rfl
theorem zgx {u:Str} (h:0<u.length):u=u.take (u.length - 1)++[u.getD (u.length - 1) 0]:=by
  have hl:u.length - 1<u.length:=by omega
  have:=List.take_append_drop (u.length - 1) u
  rw [List.drop_eq_getElem_cons hl,List.drop_of_length_le (by omega)] at this
  simpa [hl] using this.symm
theorem zc9 {u:Str} (h:0<u.length→¬ bl (u.getD (u.length - 1) 0)=true):trR u=u:=by
  rcases Nat.eq_zero_or_pos u.length with h0|h0
  · rw [List.eq_nil_of_length_eq_zero h0];rfl
  · have:=zgx h0
    generalize hc:u.getD (u.length - 1) 0=c at *
    rw [this,zda,if_neg (h h0)]
theorem zj8 {u:Str} (h:0<u.length) (hb:bl (u.getD (u.length - 1) 0)=true):trR u=trR (u.take (u.length - 1)):=by
  have:=zgx h
  generalize hc:u.getD (u.length - 1) 0=c at *
  generalize ht:u.take (u.length - 1)=t at *
  rw [this,zda,if_pos hb]
theorem znq (s:Str):Spc Tryz.prog 102 [.v (.one (.p (.str s)))] [] (.ret (.v (.one (.p (.str (Lib.trimS s [32,9])))))) []:=by
  refine spcG zi mixed Tryz.func102 (by kernel_rfl) { keep:=some [0,2]} [zkE,zkD] (by kernel_rfl) ?_
  intro I X hI hX
  refine zh (.need (I.hid (α:=(Prop)) True) (.fin (.ret (.v (.one (.p (.str (I.hid (α:=(List UInt8)) (Go.Lib.trimS s ([32,9]:List UInt8)))))))) [])) (by kernel_rfl) ?_
  simp only [zl]
  subst hI
  simp only [nrmA,nrmB]
  try trivial
def Vd (I:Alg) (args:List D) (hp:List HO):Option CT:=match args,hp with
  |[.v (.one (.p (.str s)))],[]=>(fun(s:Str)=>(some (.one ⟨I.hid (True),(.ret (.v (.one (.p (.str (I.hid (Lib.trimS s [32,9]))))))),[]⟩):Option CT)) s
  |_,_=>none
theorem zeQ:zo Tryz.prog 102 (Vd alg):=by
  intro args hp r h
  unfold Vd at h
  split at h
  · cases h;exact fun hn=>znq _
  · cases h
def zj1:Know Tryz.prog:=⟨102,Vd,zeQ⟩
def zj0:Know Tryz.prog:=⟨102,fun I=>zu I (Vd I),zf zeQ⟩
theorem ziX (s:Str) (hneed:s.length≤1000000):Spc Tryz.prog 143 [.v (.one (.p (.str s)))] [] (.ret (.v (.one (.p (.str (Lib.trimS s [32,9])))))) []:=by
  rw [SG,zb0]
  generalize hr:trR (trL s)=r
  refine spcG zi mixed Tryz.func143 (by kernel_rfl) { keep:=some [0,2]} [] (by kernel_rfl) ?_
  intro I X hI hX
  refine zh (.code 0 [1,0,0] ⟨[(2,(.v (.one (.p (.str (Array.toList (List.toArray ([]:List UInt8)))))))),(0,(.v (.one (.p (.str s)))))],[],43,none⟩) (by kernel_rfl) ?_
  simp only [zl]
  refine zA hI zi mixed [] hX [0] (fun(u:Str)=>trR (trL u)=r∧u.length≤1000000) (fun(u:Str)=>⟨[(0,.v (.one (.p (.str u))))],[],43,none⟩) (fun(u:Str)=>u.length) s (by kernel_rfl) (by kernel_rfl) ?_ ?_
  · exact⟨hr,hneed⟩
  rintro u ⟨h1,h2⟩ A hA
  refine zh (let y0:=I.cutb 1 (I.len (α:=UInt8) u) (I.len (α:=UInt8) u);let y1:=I.cut (α:=UInt8) u 1 (I.len (α:=UInt8) u);let y2:=I.b2i (I.get (α:=UInt8) u 0 0);.br (I.ilt 0 (I.len (α:=UInt8) u)) (.need (I.inb 0 (I.len (α:=UInt8) u)) (.br (I.ieq y2 32) (.need y0 (.need (A ⟨[(0,(.v (.one (.p (.str y1)))))],[],43,none⟩) .qed)) (.need (I.inb 0 (I.len (α:=UInt8) u)) (.br (I.ieq y2 9) (.need y0 (.need (A ⟨[(0,(.v (.one (.p (.str y1)))))],[],43,none⟩) .qed)) (.code 1 [1,1,0,0] ⟨[(0,(.v (.one (.p (.str u)))))],[],43,none⟩))))) (.code 1 [1,1,0,0] ⟨[(0,(.v (.one (.p (.str u)))))],[],43,none⟩)) (by kernel_rfl) ?_
  simp only [zl]
  have hc:I.cut (α:=UInt8) u 1 (I.len (α:=UInt8) u)=u.drop 1:=by
    rw [hI,xQ,zQ]
    simp only [Int.toNat_natCast,show(1:Int).toNat=1 from rfl]
    exact List.take_of_length_le (by rw [List.length_drop];exact Nat.le_refl _)
  rw [hc]
  have hgo:0<u.length→bl (u.getD 0 0)=true→A ⟨[(0,.v (.one (.p (.str ((u.drop 1))))))],[],43,none⟩:=fun q1 q2=>
    hA _ ⟨by rw [← h1,zlY q1 q2],by rw [List.length_drop];omega⟩ (by rw [List.length_drop];omega)
  refine⟨fun c1=>⟨?_,fun c2=> ?_,fun c2=>⟨?_,fun c3=> ?_,fun c3=> ?_⟩⟩,fun c1=> ?_⟩
  · subst hI
    simp only [nrmA,nrmB] at c1
    simp only [nrmA,nrmB]
    omega
  · subst hI
    simp only [nrmA,nrmB] at c1
    simp only [nrmA,nrmB] at c2
    simp only [nrmA,nrmB]
    exact⟨by omega,hgo (by omega) ((zbJ _).2 (.inl c2))⟩
  · subst hI
    simp only [nrmA,nrmB] at c1
    simp only [nrmA,nrmB]
    omega
  · subst hI
    simp only [nrmA,nrmB] at c1
    simp only [nrmA,nrmB] at c3
    simp only [nrmA,nrmB]
    exact⟨by omega,hgo (by omega) ((zbJ _).2 (.inr c3))⟩
  · have hst:trL u=u:=zdc fun q h=>by
      subst hI
      simp only [nrmA,nrmB] at c2
      simp only [nrmA,nrmB] at c3
      rcases(zbJ _).1 h with h|h
      · exact c2 h
      · exact c3 h
    refine zA hI zi mixed [] hX [0] (fun(v:Str)=>trR v=r∧v.length≤1000000) (fun(v:Str)=>⟨[(0,.v (.one (.p (.str v))))],[],43,none⟩) (fun(v:Str)=>v.length) u (by kernel_rfl) (by kernel_rfl) ?_ ?_
    · exact⟨by rw [← h1,hst],h2⟩
    rintro v ⟨k1,k2⟩ B hB
    refine zh (let y0:=I.inr Go.IntKind.i64 (I.sub (I.len (α:=UInt8) v) 1);let y1:=I.cutb 0 (I.sub (I.len (α:=UInt8) v) 1) (I.len (α:=UInt8) v);let y2:=I.b2i (I.get (α:=UInt8) v 0 (I.sub (I.len (α:=UInt8) v) 1));let y3:=I.inb (I.sub (I.len (α:=UInt8) v) 1) (I.len (α:=UInt8) v);let y4:=I.cut (α:=UInt8) v 0 (I.sub (I.len (α:=UInt8) v) 1);.br (I.ilt 0 (I.len (α:=UInt8) v)) (.need y0 (.need y3 (.br (I.ieq y2 32) (.need y0 (.need y1 (.need (B ⟨[(0,(.v (.one (.p (.str y4)))))],[],43,none⟩) .qed))) (.need y0 (.need y3 (.br (I.ieq y2 9) (.need y0 (.need y1 (.need (B ⟨[(0,(.v (.one (.p (.str y4)))))],[],43,none⟩) .qed))) (.fin (.ret (.v (.one (.p (.str v))))) []))))))) (.fin (.ret (.v (.one (.p (.str v))))) [])) (by kernel_rfl) ?_
    simp only [zl]
    subst hI
    simp only [nrmA,nrmB]
    have hgo:0<v.length→bl (v.getD (v.length - 1) 0)=true→B ⟨[(0,.v (.one (.p (.str ((v.take (v.length - 1)))))))],[],43,none⟩:=fun q1 q2=>
      hB _ ⟨by rw [← k1,zj8 q1 q2],by rw [List.length_take];omega⟩ (by rw [List.length_take];omega)
    have hend:(0<v.length→¬ bl (v.getD (v.length - 1) 0)=true)→v=r:=fun q=>by rw [← k1,zc9 q]
    rw [zbJ] at hgo hend
    simp only [show((v.length:Int) - 1).toNat=v.length - 1 by omega]
    (repeat' (first|refine And.intro ?_ ?_|intro _))<;>first|omega|exact True.intro|exact False.elim ‹False›|skip
    all_goals first
      |exact hgo (by omega) (.inl ‹_›)
      |exact hgo (by omega) (.inr ‹_›)
      |(refine hend fun _ h=> ?_;rcases h with h|h<;>contradiction)
      |exact hend (fun h=>by omega)
  · have hst:trL u=u:=zdc fun q h=>by
      subst hI
      simp only [nrmA,nrmB] at c1
      omega
    refine zA hI zi mixed [] hX [0] (fun(v:Str)=>trR v=r∧v.length≤1000000) (fun(v:Str)=>⟨[(0,.v (.one (.p (.str v))))],[],43,none⟩) (fun(v:Str)=>v.length) u (by kernel_rfl) (by kernel_rfl) ?_ ?_
    · exact⟨by rw [← h1,hst],h2⟩
    rintro v ⟨k1,k2⟩ B hB
    refine zh (let y0:=I.inr Go.IntKind.i64 (I.sub (I.len (α:=UInt8) v) 1);let y1:=I.cutb 0 (I.sub (I.len (α:=UInt8) v) 1) (I.len (α:=UInt8) v);let y2:=I.b2i (I.get (α:=UInt8) v 0 (I.sub (I.len (α:=UInt8) v) 1));let y3:=I.inb (I.sub (I.len (α:=UInt8) v) 1) (I.len (α:=UInt8) v);let y4:=I.cut (α:=UInt8) v 0 (I.sub (I.len (α:=UInt8) v) 1);.br (I.ilt 0 (I.len (α:=UInt8) v)) (.need y0 (.need y3 (.br (I.ieq y2 32) (.need y0 (.need y1 (.need (B ⟨[(0,(.v (.one (.p (.str y4)))))],[],43,none⟩) .qed))) (.need y0 (.need y3 (.br (I.ieq y2 9) (.need y0 (.need y1 (.need (B ⟨[(0,(.v (.one (.p (.str y4)))))],[],43,none⟩) .qed))) (.fin (.ret (.v (.one (.p (.str v))))) []))))))) (.fin (.ret (.v (.one (.p (.str v))))) [])) (by kernel_rfl) ?_
    simp only [zl]
    subst hI
    simp only [nrmA,nrmB]
    have hgo:0<v.length→bl (v.getD (v.length - 1) 0)=true→B ⟨[(0,.v (.one (.p (.str ((v.take (v.length - 1)))))))],[],43,none⟩:=fun q1 q2=>
      hB _ ⟨by rw [← k1,zj8 q1 q2],by rw [List.length_take];omega⟩ (by rw [List.length_take];omega)
    have hend:(0<v.length→¬ bl (v.getD (v.length - 1) 0)=true)→v=r:=fun q=>by rw [← k1,zc9 q]
    rw [zbJ] at hgo hend
    simp only [show((v.length:Int) - 1).toNat=v.length - 1 by omega]
    (repeat' (first|refine And.intro ?_ ?_|intro _))<;>first|omega|exact True.intro|exact False.elim ‹False›|skip
    all_goals first
      |exact hgo (by omega) (.inl ‹_›)
      |exact hgo (by omega) (.inr ‹_›)
      |(refine hend fun _ h=> ?_;rcases h with h|h<;>contradiction)
      |exact hend (fun h=>by omega)
def qy (I:Alg) (args:List D) (hp:List HO):Option CT:=match args,hp with
  |[.v (.one (.p (.str s)))],[]=>(fun(s:Str)=>(some (.one ⟨I.hid (s.length≤1000000),(.ret (.v (.one (.p (.str (I.hid (Lib.trimS s [32,9]))))))),[]⟩):Option CT)) s
  |_,_=>none
theorem U2:zo Tryz.prog 143 (qy alg):=by
  intro args hp r h
  unfold qy at h
  split at h
  · cases h;exact fun hn=>ziX _ hn
  · cases h
def ze0:Know Tryz.prog:=⟨143,qy,U2⟩
def zeZ:Know Tryz.prog:=⟨143,fun I=>zu I (qy I),zf U2⟩
theorem zlK (s:Str) (hneed:s.length≤1000000):Spc Tryz.prog 134 [.v (.one (.p (.str s)))] [] (.ret (.v (.one (.p (.str (lowS s)))))) []:=by
  refine spcG zi mixed Tryz.func134 (by kernel_rfl) { keep:=some [0,2,3,4,5,8,9,10]} [WM,WL] (by kernel_rfl) ?_
  intro I X hI hX
  refine zh (.code 0 [1,1,0,1,0] ⟨[(10,(.v (.one (.p (.int .i64 0))))),(9,(.v (.one (.p (.int .i64 (I.len (α:=UInt8) s)))))),(8,(.v (.one (.row 0)))),(3,(.v (.one (.row 0)))),(2,(.v (.one (.p (.str (Array.toList (List.toArray ([]:List UInt8)))))))),(0,(.v (.one (.p (.str s)))))],[(.row .byte 5 s)],23,none⟩) (by kernel_rfl) ?_
  simp only [zl]
  refine zA hI zi mixed [WM,WL] hX [0,3,8,9,10] (fun(g:Nat × Str)=>match g with|(i,b)=>i≤s.length∧b=lowS (s.take i)++s.drop i) (fun(g:Nat × Str)=>match g with|(i,b)=>⟨[(0,.v (.one (.p (.str s)))),(3,.v (.one (.row 0))),(8,.v (.one (.row 0))),(9,.v (.one (.p (.int .i64 ((I.len (α:=UInt8) s)))))),(10,.v (.one (.p (.int .i64 i))))],[.row .byte 5 b],23,none⟩) (fun(g:Nat × Str)=>match g with|(i,b)=>s.length - i) (0,s) (by kernel_rfl) (by kernel_rfl) ?_ ?_
  · exact⟨Nat.zero_le _,rfl⟩
  rintro⟨i,b⟩ ⟨h1,h2⟩ A hA
  simp only at hA
  refine zh (let y0:=I.b2i (I.get (α:=UInt8) b 0 (Nat.cast i));let y1:=I.inb (Nat.cast i) (I.len (α:=UInt8) b);.br (I.ilt (Nat.cast i) (I.len (α:=UInt8) s)) (.need y1 (.need y1 (.need (I.hid (α:=(Prop)) (And (LE.le (0:Int) y0) (LE.le y0 (255:Int)))) (.need y1 (.need (I.inr Go.IntKind.u8 (I.hid (α:=Int) (lowK y0))) (.need y1 (.need (I.inr Go.IntKind.i64 (I.add (Nat.cast i) 1)) (.need (A ⟨[(0,(.v (.one (.p (.str s))))),(3,(.v (.one (.row 0)))),(8,(.v (.one (.row 0)))),(9,(.v (.one (.p (.int .i64 (I.len (α:=UInt8) s)))))),(10,(.v (.one (.p (.int .i64 (I.add (Nat.cast i) 1))))))],[(.row .byte 5 (I.set (α:=UInt8) b (Nat.cast i) (I.i2b (I.hid (α:=Int) (lowK y0)))))],23,none⟩) .qed)))))))) (.fin (.ret (.v (.one (.p (.str b))))) [])) (by kernel_rfl) ?_
  simp only [zl]
  subst hI
  simp only [nrmA,nrmB]
  have hlen:b.length=s.length:=by rw [h2,List.length_append,xB,List.length_take,List.length_drop];omega
  have hx:i<s.length→b.getD i 0=s.getD i 0:=fun h=>by
    rw [h2,List.getD_eq_getElem?_getD,List.getD_eq_getElem?_getD,List.getElem?_append_right (by rw [xB,List.length_take];omega),xB,List.length_take,List.getElem?_drop]
    congr 2
    omega
  have hset:i<s.length→b.set i (lowC (s.getD i 0))=lowS (s.take (i+1))++s.drop (i+1):=fun h=>by
    have e:(lowS (s.take i)).length=i:=by rw [xB,List.length_take];omega
    rw [h2,List.set_append_right _ _ (by omega),e,Nat.sub_self,List.drop_eq_getElem_cons h,List.set_cons_zero,List.take_succ_eq_append_getElem h,show s.getD i 0=s[i] by simp [h]]
    unfold lowS
    rw [List.map_append,List.append_assoc]
    rfl
  have hby:=xu (s.getD i 0)
  have hlk:=zhA hby
  refine⟨fun c=> ?_,fun c=> ?_⟩
  · rw [hx (by omega),zle,hset (by omega)]
    exact⟨by omega,by omega,by omega,by omega,by omega,by omega,by omega,hA (i+1,_) ⟨by simp only;omega,rfl⟩ (by simp only;omega)⟩
  · rw [h2,List.drop_of_length_le (by omega),List.take_of_length_le (by omega),List.append_nil]
def YK (I:Alg) (args:List D) (hp:List HO):Option CT:=match args,hp with
  |[.v (.one (.p (.str s)))],[]=>(fun(s:Str)=>(some (.one ⟨I.hid (s.length≤1000000),(.ret (.v (.one (.p (.str (I.hid (lowS s))))))),[]⟩):Option CT)) s
  |_,_=>none
theorem zbI:zo Tryz.prog 134 (YK alg):=by
  intro args hp r h
  unfold YK at h
  split at h
  · cases h;exact fun hn=>zlK _ hn
  · cases h
def wI:Know Tryz.prog:=⟨134,YK,zbI⟩
def wH:Know Tryz.prog:=⟨134,fun I=>zu I (YK I),zf zbI⟩
theorem zmj (s:Str) (hneed:s.length≤1000000):Spc Tryz.prog 68 [.v (.one (.p (.str s)))] [] (.ret (.v (.one (.p (.str (lowS s)))))) []:=by
  refine spcG zi mixed Tryz.func68 (by kernel_rfl) { keep:=some [0,2,3,4,5,6]} [] (by kernel_rfl) ?_
  intro I X hI hX
  refine zh (.code 0 [1,1,0,1,0] ⟨[(4,(.v (.one (.p (.int .i64 0))))),(3,(.v (.one (.p (.str (Array.toList (List.toArray ([]:List UInt8)))))))),(2,(.v (.one (.p (.str (Array.toList (List.toArray ([]:List UInt8)))))))),(0,(.v (.one (.p (.str s)))))],[],36,none⟩) (by kernel_rfl) ?_
  simp only [zl]
  refine zA hI zi mixed [] hX [0,3,4] (fun(g:Nat × Str)=>match g with|(i,out)=>i≤s.length∧out=lowS (s.take i)) (fun(g:Nat × Str)=>match g with|(i,out)=>⟨[(0,.v (.one (.p (.str s)))),(3,.v (.one (.p (.str out)))),(4,.v (.one (.p (.int .i64 i))))],[],36,none⟩) (fun(g:Nat × Str)=>match g with|(i,out)=>s.length - i) (0,[]) (by kernel_rfl) (by kernel_rfl) ?_ ?_
  · exact⟨Nat.zero_le _,rfl⟩
  rintro⟨i,out⟩ ⟨h1,h2⟩ A hA
  simp only at hA
  refine zh (.br (I.ilt (Nat.cast i) (I.len (α:=UInt8) s)) (.need (I.inr Go.IntKind.i64 (I.add (Nat.cast i) 1)) (.need (I.cutb (Int.ofNat i) (I.add (Nat.cast i) 1) (I.len (α:=UInt8) s)) (.code 0 [1,0,0,1,0,1,0] ⟨[(6,(.v (.one (.p (.int .i64 0))))),(5,(.v (.one (.p (.str (I.cut (α:=UInt8) s (Int.ofNat i) (I.add (Nat.cast i) 1))))))),(0,(.v (.one (.p (.str s))))),(3,(.v (.one (.p (.str out))))),(4,(.v (.one (.p (.int .i64 (Nat.cast i))))))],[],36,none⟩))) (.fin (.ret (.v (.one (.p (.str out))))) [])) (by kernel_rfl) ?_
  simp only [zl]
  refine⟨fun c1=>⟨?_,?_,?_⟩,fun c1=> ?_⟩
  · subst hI
    simp only [nrmA,nrmB] at c1
    simp only [nrmA,nrmB]
    omega
  · subst hI
    simp only [nrmA,nrmB] at c1
    simp only [nrmA,nrmB]
    omega
  · have hi:i<s.length:=by
      subst hI
      simp only [nrmA,nrmB] at c1
      omega
    generalize hc0:I.cut (α:=UInt8) s (Int.ofNat i) (I.add (↑i) 1)=c0
    have hc1:c0=[s.getD i 0]:=by
      rw [← hc0,hI,xQ,wo]
      simp only [Int.ofNat_eq_natCast,Int.toNat_natCast,show((i:Int)+1).toNat=i+1 by omega]
      rw [List.drop_eq_getElem_cons hi,Nat.add_sub_cancel_left,List.take_succ_cons,List.take_zero]
      simp [hi]
    generalize hx:s.getD i 0=x at *
    have hxb:=x.toNat_lt
    have hcap: ∀ k:Nat,k<26→((([65,66,67,68,69,70,71,72,73,74,75,76,77,78,79,80,81,82,83,84,85,86,87,88,89,90]:Str).getD k 0).toNat=65+k∧((([97,98,99,100,101,102,103,104,105,106,107,108,109,110,111,112,113,114,115,116,117,118,119,120,121,122]:Str).drop k).take 1)=[UInt8.ofNat (97+k)]):=by decide+kernel
    refine zA hI zi mixed [] hX [0,3,4,5,6] (fun(g:Nat × Str)=>match g with|(k,c)=>k≤26∧c=[if 65≤x.toNat∧x.toNat<65+k then x+32 else x]) (fun(g:Nat × Str)=>match g with|(k,c)=>⟨[(0,.v (.one (.p (.str s)))),(3,.v (.one (.p (.str out)))),(4,.v (.one (.p (.int .i64 i)))),(5,.v (.one (.p (.str c)))),(6,.v (.one (.p (.int .i64 k))))],[],36,none⟩) (fun(g:Nat × Str)=>match g with|(k,c)=>26 - k) (0,c0) (by kernel_rfl) (by kernel_rfl) ?_ ?_
    · refine⟨Nat.zero_le _,?_⟩
      rw [hc1,if_neg (by omega)]
    rintro⟨k,c⟩ ⟨k1,k2⟩ B hB
    simp only at hB
    refine zh (let y0:=I.inr Go.IntKind.i64 (I.add (Nat.cast k) 1);.br (I.ilt (Nat.cast k) 26) (.need (I.inb (Nat.cast k) (I.len (α:=UInt8) (Array.toList (List.toArray ([65,66,67,68,69,70,71,72,73,74,75,76,77,78,79,80,81,82,83,84,85,86,87,88,89,90]:List UInt8))))) (.need (I.inb (Nat.cast i) (I.len (α:=UInt8) s)) (.br (I.ieq (I.b2i (I.get (α:=UInt8) (Array.toList (List.toArray ([65,66,67,68,69,70,71,72,73,74,75,76,77,78,79,80,81,82,83,84,85,86,87,88,89,90]:List UInt8))) 0 (Nat.cast k))) (I.b2i (I.get (α:=UInt8) s 0 (Nat.cast i)))) (.need y0 (.need (I.cutb (Int.ofNat k) (I.add (Nat.cast k) 1) (I.len (α:=UInt8) (Array.toList (List.toArray ([97,98,99,100,101,102,103,104,105,106,107,108,109,110,111,112,113,114,115,116,117,118,119,120,121,122]:List UInt8))))) (.need y0 (.need (B ⟨[(0,(.v (.one (.p (.str s))))),(3,(.v (.one (.p (.str out))))),(4,(.v (.one (.p (.int .i64 (Nat.cast i)))))),(5,(.v (.one (.p (.str (I.cut (α:=UInt8) (Array.toList (List.toArray ([97,98,99,100,101,102,103,104,105,106,107,108,109,110,111,112,113,114,115,116,117,118,119,120,121,122]:List UInt8))) (Int.ofNat k) (I.add (Nat.cast k) 1))))))),(6,(.v (.one (.p (.int .i64 (I.add (Nat.cast k) 1))))))],[],36,none⟩) .qed)))) (.need y0 (.need (B ⟨[(0,(.v (.one (.p (.str s))))),(3,(.v (.one (.p (.str out))))),(4,(.v (.one (.p (.int .i64 (Nat.cast i)))))),(5,(.v (.one (.p (.str c))))),(6,(.v (.one (.p (.int .i64 (I.add (Nat.cast k) 1))))))],[],36,none⟩) .qed))))) (.need (I.few (I.add (I.len (α:=UInt8) out) (I.len (α:=UInt8) c)) 1000000000) (.need (I.inr Go.IntKind.i64 (I.add (Nat.cast i) 1)) (.need (A ⟨[(0,(.v (.one (.p (.str s))))),(3,(.v (.one (.p (.str (I.app (α:=UInt8) out c)))))),(4,(.v (.one (.p (.int .i64 (I.add (Nat.cast i) 1))))))],[],36,none⟩) .qed)))) (by kernel_rfl) ?_
    simp only [zl]
    subst hI
    simp only [nrmA,nrmB]
    rw [hx]
    generalize hCAP:([65,66,67,68,69,70,71,72,73,74,75,76,77,78,79,80,81,82,83,84,85,86,87,88,89,90]:Str)=CAP at *
    generalize hLOW:([97,98,99,100,101,102,103,104,105,106,107,108,109,110,111,112,113,114,115,116,117,118,119,120,121,122]:Str)=LOW at *
    have hol:out.length≤1000000:=by rw [h2,xB,List.length_take];omega
    have hc1l:c.length=1:=by rw [k2];rfl
    have hcl:CAP.length=26:=by rw [← hCAP];rfl
    have hll:LOW.length=26:=by rw [← hLOW];rfl
    have hcond:k<26→(CAP.getD k 0=x↔x.toNat=65+k):=fun h=>by rw [← UInt8.toNat_inj,(hcap k h).1];omega
    have heq:k<26→CAP.getD k 0=x→(LOW.drop k).take (((k:Int)+1).toNat - k)=[if 65≤x.toNat∧x.toNat<65+(k+1) then x+32 else x]:=fun h e=>by
      have e:=(hcond h).1 e
      rw [show((k:Int)+1).toNat - k=1 by omega,(hcap k h).2,if_pos (by omega)]
      congr 1
      rw [← UInt8.toNat_inj,UInt8.toNat_ofNat',UInt8.toNat_add,e]
      simp only [show(32:UInt8).toNat=32 from rfl]
      omega
    have hne:k<26→¬ CAP.getD k 0=x→c=[if 65≤x.toNat∧x.toNat<65+(k+1) then x+32 else x]:=fun h e=>by
      have e: ¬ x.toNat=65+k:=fun h'=>e ((hcond h).2 h')
      rw [k2]
      congr 1
      by_cases h1:65≤x.toNat∧x.toNat<65+k
      · rw [if_pos h1,if_pos (by omega)]
      · rw [if_neg h1,if_neg (by omega)]
    have hend: ¬ k<26→out++c=lowS (s.take (i+1)):=fun h=>by
      have hk:k=26:=by omega
      subst hk
      rw [k2,h2,List.take_succ_eq_append_getElem hi]
      unfold lowS
      rw [List.map_append]
      congr 1
      rw [← hx,show s.getD i 0=s[i] by simp [hi]]
      show _=[lowC s[i]]
      unfold lowC
      congr 1
      by_cases h1:65≤s[i].toNat∧s[i].toNat<65+26
      · rw [if_pos h1,if_pos (by omega)]
      · rw [if_neg h1,if_neg (by omega)]
    (repeat' (first|refine And.intro ?_ ?_|intro _))<;>first|omega|exact True.intro|exact False.elim ‹False›|skip
    all_goals first
      |omega
      |exact hB (k+1,_) ⟨by simp only;omega,heq (by omega) ‹_›⟩ (by simp only;omega)
      |exact hB (k+1,_) ⟨by simp only;omega,hne (by omega) ‹_›⟩ (by simp only;omega)
      |(rw [hend (by omega)];exact hA (i+1,_) ⟨by simp only;omega,rfl⟩ (by simp only;omega))
  · subst hI
    simp only [nrmA,nrmB] at c1
    simp only [nrmA,nrmB]
    rw [h2,List.take_of_length_le (by omega)]
def Wj (I:Alg) (args:List D) (hp:List HO):Option CT:=match args,hp with
  |[.v (.one (.p (.str s)))],[]=>(fun(s:Str)=>(some (.one ⟨I.hid (s.length≤1000000),(.ret (.v (.one (.p (.str (I.hid (lowS s))))))),[]⟩):Option CT)) s
  |_,_=>none
theorem zds:zo Tryz.prog 68 (Wj alg):=by
  intro args hp r h
  unfold Wj at h
  split at h
  · cases h;exact fun hn=>zmj _ hn
  · cases h
def Wi:Know Tryz.prog:=⟨68,Wj,zds⟩
def Wh:Know Tryz.prog:=⟨68,fun I=>zu I (Wj I),zf zds⟩
end Go.Proofs.YtcclfkakcgnacaaGreatDoor
namespace Go.Proofs.YtcclfkakcgnacaaGreatDoor
open Go Go.Sep Go.Ab
set_option maxRecDepth 100000
theorem zf8 {p:UInt8→Bool} {s:Str} {i:Nat} (h:i≤(s.takeWhile p).length):(i<s.length∧p (s.getD i 0)=true)↔i<(s.takeWhile p).length:=by
  induction s generalizing i with
  |nil=>simp
  | cons c r ih=>
    by_cases hc:p c=true
    · simp only [List.takeWhile_cons,hc,if_true,List.length_cons] at h ⊢
      cases i with
      |zero=>simp [hc]
      | succ i=>
        have:=ih (i:=i) (by omega)
        simp only [List.getD_cons_succ]
        constructor
        · rintro⟨h1,h2⟩;have:=this.1 ⟨by omega,h2⟩;omega
        · intro h1;have:=this.2 (by omega);exact⟨by omega,this.2⟩
    · simp only [List.takeWhile_cons,hc,Bool.false_eq_true,if_false,List.length_nil] at h ⊢
      have:i=0:=by omega
      subst this
      simp [hc]
theorem zkG (p:UInt8→Bool) (s:Str):s.take (s.takeWhile p).length=s.takeWhile p:=by
  induction s with
  |nil=>simp
  |cons c r ih=>by_cases hc:p c=true<;>simp [List.takeWhile_cons,hc,ih]
theorem drop_tw (p:UInt8→Bool) (s:Str):s.drop (s.takeWhile p).length=s.dropWhile p:=by
  induction s with
  |nil=>simp
  |cons c r ih=>by_cases hc:p c=true<;>simp [List.takeWhile_cons,List.dropWhile_cons,hc,ih]
theorem zlX (p:UInt8→Bool) (s:Str):(s.takeWhile p).length≤s.length:=(List.takeWhile_sublist p).length_le
theorem znd (p:UInt8→Bool) (s:Str):(s.dropWhile p).length≤s.length:=(List.dropWhile_sublist p).length_le
def isTk (c:UInt8):Bool:=tokB (c.toNat:Int)
def tokS (s:Str):Str:=s.takeWhile isTk
def tokE (s:Str):Str:=s.dropWhile isTk
theorem wO (s:Str):(tokS s).length≤s.length:=zlX _ _
theorem wP (s:Str):(tokE s).length≤s.length:=znd _ _
theorem zkF (s:Str):(tokS s).length+(tokE s).length=s.length:=by
  have:=congrArg List.length (List.takeWhile_append_dropWhile (p:=isTk) (l:=s))
  rw [List.length_append] at this;exact this
def skS (s:Str):Str:=Lib.trimLeftS s [32,9]
theorem wZ (s:Str):(skS s).length≤s.length:=by
  unfold skS Lib.trimLeftS
  exact(List.dropWhile_sublist _).length_le
def zZ (s:Str) (c:UInt8):Bool:=s.head? == some c
theorem TN {s:Str} {c:UInt8} (h:zZ s c=true):0<s.length:=by
  cases s with
  |nil=>simp [zZ] at h
  |cons a r=>simp
theorem TP {s:Str} {c:UInt8}:zZ s c=true↔0<s.length∧s.getD 0 0=c:=by
  cases s with
  |nil=>simp [zZ]
  |cons a r=>simp [zZ]
theorem drop1 (s:Str):List.take (s.length - Int.toNat 1) (List.drop (Int.toNat 1) s)=s.drop 1:=by
  show List.take (s.length - 1) (List.drop 1 s)=s.drop 1
  exact List.take_of_length_le (by simp)
def quoF:Str→Option (Str × Str)
  |[]=>none
  |[x]=>if x=34 then some ([],[]) else none
  |x::y::r=>if x=34 then some ([],y::r) else if x=92 then(quoF r).map (fun p=>(y::p.1,p.2)) else(quoF (y::r)).map (fun p=>(x::p.1,p.2))
def quoV (s:Str):Str:=match quoF s with|some p=>p.1|none=>[]
def quoR (s:Str):Str:=match quoF s with|some p=>p.2|none=>[]
theorem WC: ∀ (s:Str) (p:Str × Str),quoF s=some p→p.1.length+p.2.length<s.length
  |[],p,h=>by simp [quoF] at h
  | [x],p,h=>by
    simp only [quoF] at h
    split at h
    · cases h;simp
    · cases h
  | x ::y::r,p,h=>by
    simp only [quoF] at h
    split at h
    · cases h;simp
    · split at h
      · rw [Option.map_eq_some_iff] at h
        obtain⟨q,hq,rfl⟩:=h
        have:=WC r q hq
        simp only [List.length_cons];omega
      · rw [Option.map_eq_some_iff] at h
        obtain⟨q,hq,rfl⟩:=h
        have:=WC (y::r) q hq
        simp only [List.length_cons] at this ⊢;omega
theorem zjv (s:Str):(quoR s).length≤s.length:=by
  unfold quoR
  split
  · rename_i p h;have:=WC _ _ h;omega
  · simp
theorem zju (s:Str):(quoV s).length≤s.length:=by
  unfold quoV
  split
  · rename_i p h;have:=WC _ _ h;omega
  · simp
def parM (s:Str):Int × Fld × Str:=
  if tokS s=[] then(5,⟨[],[]⟩,tokE s)
  else if zZ (tokE s) 61=false then(5,⟨[],[]⟩,tokE s)
  else if zZ ((tokE s).drop 1) 34=true then
    if(quoF ((tokE s).drop 2)).isSome=true then(0,⟨lowS (tokS s),quoV ((tokE s).drop 2)⟩,quoR ((tokE s).drop 2)) else(14,⟨[],[]⟩,[])
  else if tokS ((tokE s).drop 1)=[] then(5,⟨[],[]⟩,tokE ((tokE s).drop 1))
  else(0,⟨lowS (tokS s),tokS ((tokE s).drop 1)⟩,tokE ((tokE s).drop 1))
theorem zdM (s:Str):(parM s).2.2.length≤s.length∧(parM s).2.1.name.length≤s.length∧(parM s).2.1.value.length≤s.length:=by
  have h1:=wP s
  have h2:=wP ((tokE s).drop 1)
  have h3:=zjv ((tokE s).drop 2)
  have h4:=zju ((tokE s).drop 2)
  have h5:=wO s
  have h6:=wO ((tokE s).drop 1)
  simp only [List.length_drop] at h2 h3 h4 h6
  unfold parM
  repeat' split
  all_goals simp only [List.length_nil,xB];omega
def getP (l:List Fld) (n:Str):Str × Bool:=match l.find? (fun f=>f.name == n) with|some f=>(f.value,true)|none=>([],false)
def medL:Nat→Str→List Fld→Int × List Fld × Str
  |0,s,ps=>(5,ps,s)
  | n +1,s,ps=>
    if zZ s 59=true then
      if(parM (skS (s.drop 1))).1≠0 then((parM (skS (s.drop 1))).1,ps,(parM (skS (s.drop 1))).2.2)
      else if(getP ps (parM (skS (s.drop 1))).2.1.name).2=true then(9,ps,(parM (skS (s.drop 1))).2.2)
      else if ps.length=8 then(8,ps,(parM (skS (s.drop 1))).2.2)
      else medL n (skS (parM (skS (s.drop 1))).2.2) (ps++[(parM (skS (s.drop 1))).2.1])
    else if s=[] then(0,ps,s) else(5,ps,s)
def medB (w:Str) (s:Str):Int × Med × Str:=((medL ((skS s).length+1) (skS s) []).1,⟨w,(medL ((skS s).length+1) (skS s) []).2.1⟩,(medL ((skS s).length+1) (skS s) []).2.2)
def medA (s:Str):Int × Med × Str:=
  if tokS s=[] then(5,⟨[],[]⟩,tokE s)
  else if zZ (tokE s) 47=true then
    if tokS ((tokE s).drop 1)=[] then(5,⟨[],[]⟩,tokE ((tokE s).drop 1))
    else medB (lowS (tokS s)++([47]++lowS (tokS ((tokE s).drop 1)))) (tokE ((tokE s).drop 1))
  else medB (lowS (tokS s)) (tokE s)
def yI (s:Str):Int × Med × Str:=medA (skS s)
def vO (s:Str):Med × Int:=if vG s=false then(⟨[],[]⟩,3) else if(yI s).1=0 then((yI s).2.1,0) else(⟨[],[]⟩,(yI s).1)
theorem zaH (s:Str):(parM s).1=0∨(parM s).1=5∨(parM s).1=14:=by
  unfold parM
  repeat' split
  all_goals simp
end Go.Proofs.YtcclfkakcgnacaaGreatDoor
namespace Go.Proofs.YtcclfkakcgnacaaGreatDoor
open Go Go.Sep Go.Ab
set_option maxRecDepth 100000
theorem zgd (s:Str):Spc Tryz.prog 158 [.v (.one (.p (.str s))),.v (.one (.p (.str ([32,9]))))] [] (.ret (.v (.one (.p (.str ((skS s))))))) []:=by
  refine Spc.of_below ⟨_,Tryz.func158,by kernel_rfl,by kernel_rfl⟩ fun S bs w vs _ hM=> ?_
  obtain⟨v,r,rfl⟩: ∃ v r,vs=v::r:=by cases vs with|nil=>exact hM.elim|cons v r=>exact⟨v,r,rfl⟩
  obtain⟨h1,hM⟩:=hM
  obtain⟨v2,r2,rfl⟩: ∃ v r2,r=v::r2:=by cases r with|nil=>exact hM.elim|cons v r=>exact⟨v,r,rfl⟩
  obtain⟨h2,hM⟩:=hM
  obtain rfl:r2=[]:=by cases r2 with|nil=>rfl|cons v r=>exact hM.elim
  cases h1 with
  | str _ hl1=>
    cases h2 with
    | str _ hl2=>
      refine⟨.string (Sep.S (skS s)),.str _ (Nat.le_trans (wZ _) hl1),?_⟩
      exact Tryz.strings_TrimLeft_laid (Sep.S s) (Sep.S [32,9]) w (by decide) (fun j b hb=>by
        have:=List.mem_of_getElem? hb
        rcases(by simpa [Sep.S] using this:b=32∨b=9) with rfl|rfl<;>decide)
def tu (I:Alg) (args:List D) (hp:List HO):Option CT:=match args,hp with
  |[.v (.one (.p (.str s))),.v (.one (.p (.str ([32,9]))))],[]=>(fun(s:Str)=>(some (.one ⟨I.hid (True),(.ret (.v (.one (.p (.str (I.hid ((skS s)))))))),[]⟩):Option CT)) s
  |_,_=>none
theorem Vr:zo Tryz.prog 158 (tu alg):=by
  intro args hp r h
  unfold tu at h
  split at h
  · cases h;exact fun hn=>zgd _
  · cases h
def zbY:Know Tryz.prog:=⟨158,tu,Vr⟩
def zbX:Know Tryz.prog:=⟨158,fun I=>zu I (tu I),zf Vr⟩
theorem zk6 (b:Bool) (c:Int) (hneed:b=false):Spc Tryz.prog 141 [.v (.one (.p (.bool b))),.v (.one (.p (.int .i64 c)))] [] (.ret (.tup [])) []:=by
  refine spcG zi mixed Tryz.func141 (by kernel_rfl) { keep:=some [0,1]} [] (by kernel_rfl) ?_
  intro I X hI hX
  refine zh (.br b (.fin (.pan (.ifc 145 .false [(.int .i64 c)])) []) (.fin (.ret (.tup [])) [])) (by kernel_rfl) ?_
  simp only [zl]
  subst hI
  simp only [nrmA,nrmB]
  (repeat' (first|refine And.intro ?_ ?_|intro _))<;>first|omega|exact True.intro|exact False.elim ‹False›|skip
  all_goals simp_all
theorem zk5 (b:Bool) (c:Int) (hneed:b=true):Spc Tryz.prog 141 [.v (.one (.p (.bool b))),.v (.one (.p (.int .i64 c)))] [] (.pan (.ifc 145 false [(.int .i64 c)])) []:=by
  refine spcG zi mixed Tryz.func141 (by kernel_rfl) { keep:=some [0,1]} [] (by kernel_rfl) ?_
  intro I X hI hX
  refine zh (.br b (.fin (.pan (.ifc 145 .false [(.int .i64 c)])) []) (.fin (.ret (.tup [])) [])) (by kernel_rfl) ?_
  simp only [zl]
  subst hI
  simp only [nrmA,nrmB]
  (repeat' (first|refine And.intro ?_ ?_|intro _))<;>first|omega|exact True.intro|exact False.elim ‹False›|skip
  all_goals simp_all
def WH (I:Alg) (args:List D) (hp:List HO):Option CT:=match args,hp with
  |[.v (.one (.p (.bool b))),.v (.one (.p (.int .i64 c)))],[]=>(fun(b:Bool) (c:Int)=>(some (.br (I.hid (b)) (.one ⟨I.hid (b=true),(.pan (.ifc 145 false [(.int .i64 c)])),[]⟩) (.one ⟨I.hid (b=false),(.ret (.tup [])),[]⟩)):Option CT)) b c
  |_,_=>none
theorem zdQ:zo Tryz.prog 141 (WH alg):=by
  intro args hp r h
  unfold WH at h
  split at h
  · cases h;exact⟨fun _ hn=>zk5 _ _ hn,fun _ hn=>zk6 _ _ hn⟩
  · cases h
def xh:Know Tryz.prog:=⟨141,WH,zdQ⟩
def xg:Know Tryz.prog:=⟨141,fun I=>zu I (WH I),zf zdQ⟩
theorem zjz (s:Str):Spc Tryz.prog 136 [.v (.one (.ptr 0 0))] [.pack [.obj 149 [(.p (.str s))]]] (.ret (.tup [])) [.pack [.obj 149 [(.p (.str ((skS s))))]]]:=by
  refine spcG zi mixed Tryz.func136 (by kernel_rfl) { keep:=some [0]} [zbY,zbX] (by kernel_rfl) ?_
  intro I X hI hX
  refine zh (.need (I.hid (α:=(Prop)) True) (.fin (.ret (.tup [])) [(.pack [(.obj 149 [(.p (.str (I.hid (α:=(List UInt8)) (skS s))))])])])) (by kernel_rfl) ?_
  simp only [zl]
  subst hI
  simp only [nrmA,nrmB,nrlB,reduceCtorEq,HO.pack.injEq,HO.obj.injEq]
  try trivial
def qU (I:Alg) (args:List D) (hp:List HO):Option CT:=match args,hp with
  |[.v (.one (.ptr 0 0))],[.pack [.obj 149 [(.p (.str s))]]]=>(fun(s:Str)=>(some (.one ⟨I.hid (True),(.ret (.tup [])),[.pack [.obj 149 [(.p (.str (I.hid ((skS s)))))]]]⟩):Option CT)) s
  |_,_=>none
theorem TB:zo Tryz.prog 136 (qU alg):=by
  intro args hp r h
  unfold qU at h
  split at h
  · cases h;exact fun hn=>zjz _
  · cases h
def qR:Know Tryz.prog:=⟨136,qU,TB⟩
def qQ:Know Tryz.prog:=⟨136,fun I=>zu I (qU I),zf TB⟩
theorem zmA (s:Str) (k:Int) (hneed:0≤k∧k≤255):Spc Tryz.prog 138 [.v (.one (.ptr 0 0)),.v (.one (.p (.int .u8 k)))] [.pack [.obj 149 [(.p (.str s))]]] (.ret (.v (.one (.p (.bool ((zZ s (UInt8.ofNat k.toNat)))))))) [.pack [.obj 149 [(.p (.str ((if zZ s (UInt8.ofNat k.toNat)=true then s.drop 1 else s))))]]]:=by
  generalize hr:zZ s (UInt8.ofNat k.toNat)=r
  refine spcG zi mixed Tryz.func138 (by kernel_rfl) { keep:=some [0,1,4,5]} [] (by kernel_rfl) ?_
  intro I X hI hX
  refine zh (let y0:=I.ieq (I.b2i (I.get (α:=UInt8) s 0 0)) k;.br (I.bnot (I.seq s (Array.toList (List.toArray ([]:List UInt8))))) (.need (I.inb 0 (I.len (α:=UInt8) s)) (.br y0 (.need (I.cutb 1 (I.len (α:=UInt8) s) (I.len (α:=UInt8) s)) (.fin (.ret (.v (.one (.p (.bool y0))))) [(.pack [(.obj 149 [(.p (.str (I.cut (α:=UInt8) s 1 (I.len (α:=UInt8) s))))])])])) (.fin (.ret (.v (.one (.p (.bool y0))))) [(.pack [(.obj 149 [(.p (.str s))])])]))) (.fin (.ret (.v (.one (.p (.bool Bool.false))))) [(.pack [(.obj 149 [(.p (.str s))])])])) (by kernel_rfl) ?_
  simp only [zl]
  subst hI
  simp only [nrmA,nrmB,nrlB,reduceCtorEq,HO.pack.injEq,HO.obj.injEq]
  have hk:((UInt8.ofNat k.toNat).toNat:Int)=k:=by rw [UInt8.toNat_ofNat',Nat.mod_eq_of_lt (by omega)];omega
  have hk2: ∀ c:UInt8,(c.toNat:Int)=k↔c=UInt8.ofNat k.toNat:=fun c=>⟨fun h=>by rw [← h];simp,fun h=>by rw [h];exact hk⟩
  rw [drop1]
  have hs:s=[]↔s.length=0:=List.length_eq_zero_iff.symm
  rw [hs]
  cases r with
  | true=>
    obtain⟨h1,h2⟩:=TP.1 hr
    have hkk:=(hk2 _).2 h2
    rw [hkk]
    (repeat' (first|refine And.intro ?_ ?_|intro _))<;>first|omega|exact True.intro|exact False.elim ‹False›|skip
    all_goals first|omega|(simp;done)|(simp_all;done)
  | false=>
    have h1:0<s.length→¬ ((s.getD 0 0).toNat:Int)=k:=fun h q=>by rw [TP.2 ⟨h,(hk2 _).1 q⟩] at hr;cases hr
    (repeat' (first|refine And.intro ?_ ?_|intro _))<;>first|omega|exact True.intro|exact False.elim ‹False›|skip
    all_goals first|omega|(simp;done)|(exfalso;exact h1 (by omega) ‹_›)|(have:=h1 (by omega);simp_all;done)|trace_state
def WE (I:Alg) (args:List D) (hp:List HO):Option CT:=match args,hp with
  |[.v (.one (.ptr 0 0)),.v (.one (.p (.int .u8 k)))],[.pack [.obj 149 [(.p (.str s))]]]=>(fun(s:Str) (k:Int)=>(some (.one ⟨I.hid (0≤k∧k≤255),(.ret (.v (.one (.p (.bool (I.hid ((zZ s (UInt8.ofNat k.toNat))))))))),[.pack [.obj 149 [(.p (.str (I.hid ((if zZ s (UInt8.ofNat k.toNat)=true then s.drop 1 else s)))))]]]⟩):Option CT)) s k
  |_,_=>none
theorem zdN:zo Tryz.prog 138 (WE alg):=by
  intro args hp r h
  unfold WE at h
  split at h
  · cases h;exact fun hn=>zmA _ _ hn
  · cases h
def qP:Know Tryz.prog:=⟨138,WE,zdN⟩
def qO:Know Tryz.prog:=⟨138,fun I=>zu I (WE I),zf zdN⟩
theorem zmv (s:Str) (hneed:s.length≤1000000∧¬ tokS s=[]):Spc Tryz.prog 137 [.v (.one (.ptr 0 0))] [.pack [.obj 149 [(.p (.str s))]]] (.ret (.v (.one (.p (.str ((tokS s))))))) [.pack [.obj 149 [(.p (.str ((tokE s))))]]]:=by
  obtain⟨hl,hne⟩:=hneed
  refine spcG zi mixed Tryz.func137 (by kernel_rfl) { keep:=some [0,2,3,4]} [qA,XU,xh,xg] (by kernel_rfl) ?_
  intro I X hI hX
  refine zh (.code 0 [1,1,0,0] ⟨[(3,(.v (.one (.p (.int .i64 0))))),(2,(.v (.one (.p (.str (Array.toList (List.toArray ([]:List UInt8)))))))),(0,(.v (.one (.ptr 0 0))))],[(.pack [(.obj 149 [(.p (.str s))])])],42,none⟩) (by kernel_rfl) ?_
  simp only [zl]
  refine zA hI zi mixed [qA,XU,xh,xg] hX [0,3] (fun(i:Nat)=>i≤(tokS s).length) (fun(i:Nat)=>⟨[(0,.v (.one (.ptr 0 0))),(3,.v (.one (.p (.int .i64 i))))],[.pack [.obj 149 [(.p (.str s))]]],42,none⟩) (fun(i:Nat)=>s.length - i) 0 (by kernel_rfl) (by kernel_rfl) ?_ ?_
  · exact Nat.zero_le _
  rintro i h1 A hA
  refine zh (let y7:=I.cut (α:=UInt8) s 0 (Int.ofNat i);let y0:=I.seq y7 (Array.toList (List.toArray ([]:List UInt8)));let y1:=I.cut (α:=UInt8) s (Int.ofNat i) (I.len (α:=UInt8) s);let y2:=I.b2i (I.get (α:=UInt8) s 0 (Nat.cast i));let y3:=I.cutb (Int.ofNat i) (I.len (α:=UInt8) s) (I.len (α:=UInt8) s);let y4:=I.cutb 0 (Int.ofNat i) (I.len (α:=UInt8) s);let y5:=I.hid (α:=(Prop)) (Eq y0 Bool.false);let y6:=I.hid (α:=(Prop)) (Eq y0 Bool.true);.br (I.ilt (Nat.cast i) (I.len (α:=UInt8) s)) (.need (I.inb (Nat.cast i) (I.len (α:=UInt8) s)) (.need (I.hid (α:=(Prop)) (And (LE.le (0:Int) y2) (LE.le y2 (255:Int)))) (.br (I.hid (α:=Bool) (tokB y2)) (.need (I.inr Go.IntKind.i64 (I.add (Nat.cast i) 1)) (.need (A ⟨[(0,(.v (.one (.ptr 0 0)))),(3,(.v (.one (.p (.int .i64 (I.add (Nat.cast i) 1))))))],[(.pack [(.obj 149 [(.p (.str s))])])],42,none⟩) .qed)) (.need y4 (.need y3 (.br (I.hid (α:=Bool) y0) (.need y6 (.fin (.pan (.ifc 145 .false [(.int .i64 5)])) [(.pack [(.obj 149 [(.p (.str y1))])])])) (.need y5 (.fin (.ret (.v (.one (.p (.str y7))))) [(.pack [(.obj 149 [(.p (.str y1))])])])))))))) (.need y4 (.need y3 (.br (I.hid (α:=Bool) y0) (.need y6 (.fin (.pan (.ifc 145 .false [(.int .i64 5)])) [(.pack [(.obj 149 [(.p (.str y1))])])])) (.need y5 (.fin (.ret (.v (.one (.p (.str y7))))) [(.pack [(.obj 149 [(.p (.str y1))])])])))))) (by kernel_rfl) ?_
  simp only [zl]
  subst hI
  simp only [nrmA,nrmB,nrlB,reduceCtorEq,HO.pack.injEq,HO.obj.injEq]
  have hb:=xu (s.getD i 0)
  have hs:=zf8 (p:=isTk) (s:=s) h1
  have hle:=wO s
  have ht:=zkG isTk s
  have hd:=drop_tw isTk s
  unfold isTk at hs
  change _↔i<(tokS s).length at hs
  change s.take (tokS s).length=tokS s at ht
  change s.drop (tokS s).length=tokE s at hd
  have hlen:=zkF s
  have hend: ¬ i<(tokS s).length→i=(tokS s).length:=fun h=>by omega
  generalize s.getD i 0=x at *
  have hgo:i<(tokS s).length→A ⟨[(0,.v (.one (.ptr 0 0))),(3,.v (.one (.p (.int .i64 (((i:Int)+1))))))],[.pack [.obj 149 [(.p (.str s))]]],42,none⟩:=fun h=>hA (i+1) (by omega) (by omega)
  by_cases hi:i<(tokS s).length
  · have hi2:=hs.2 hi
    clear hs hend ht hd hA
    (repeat' (first|refine And.intro ?_ ?_|intro _))<;>first|omega|exact True.intro|exact False.elim ‹False›|skip
    all_goals first
      |omega
      |exact hgo hi
      |(exfalso;simp_all;done)
  · have hx:i<s.length→tokB (x.toNat:Int)=true→False:=fun a b=>hi (hs.1 ⟨a,b⟩)
    have hi2:=hend hi
    clear hs hend hA hgo
    subst hi2
    rw [ht]
    have hcut:List.take (s.length - (tokS s).length) (List.drop (tokS s).length s)=tokE s:=by rw [hd];exact List.take_of_length_le (by omega)
    rw [hcut]
    (repeat' (first|refine And.intro ?_ ?_|intro _))<;>first|omega|exact True.intro|exact False.elim ‹False›|skip
    all_goals first
      |omega
      |(exfalso;exact hx (by omega) ‹_›)
      |(exfalso;exact hne ‹_›)
      |(simp [hne];done)
      |trace_state
theorem zmu (s:Str) (hneed:s.length≤1000000∧tokS s=[]):Spc Tryz.prog 137 [.v (.one (.ptr 0 0))] [.pack [.obj 149 [(.p (.str s))]]] (.pan (.ifc 145 false [(.int .i64 5)])) [.pack [.obj 149 [(.p (.str ((tokE s))))]]]:=by
  obtain⟨hl,hne⟩:=hneed
  refine spcG zi mixed Tryz.func137 (by kernel_rfl) { keep:=some [0,2,3,4]} [qA,XU,xh,xg] (by kernel_rfl) ?_
  intro I X hI hX
  refine zh (.code 0 [1,1,0,0] ⟨[(3,(.v (.one (.p (.int .i64 0))))),(2,(.v (.one (.p (.str (Array.toList (List.toArray ([]:List UInt8)))))))),(0,(.v (.one (.ptr 0 0))))],[(.pack [(.obj 149 [(.p (.str s))])])],42,none⟩) (by kernel_rfl) ?_
  simp only [zl]
  refine zA hI zi mixed [qA,XU,xh,xg] hX [0,3] (fun(i:Nat)=>i≤(tokS s).length) (fun(i:Nat)=>⟨[(0,.v (.one (.ptr 0 0))),(3,.v (.one (.p (.int .i64 i))))],[.pack [.obj 149 [(.p (.str s))]]],42,none⟩) (fun(i:Nat)=>s.length - i) 0 (by kernel_rfl) (by kernel_rfl) ?_ ?_
  · exact Nat.zero_le _
  rintro i h1 A hA
  refine zh (let y7:=I.cut (α:=UInt8) s 0 (Int.ofNat i);let y0:=I.seq y7 (Array.toList (List.toArray ([]:List UInt8)));let y1:=I.cut (α:=UInt8) s (Int.ofNat i) (I.len (α:=UInt8) s);let y2:=I.b2i (I.get (α:=UInt8) s 0 (Nat.cast i));let y3:=I.cutb (Int.ofNat i) (I.len (α:=UInt8) s) (I.len (α:=UInt8) s);let y4:=I.cutb 0 (Int.ofNat i) (I.len (α:=UInt8) s);let y5:=I.hid (α:=(Prop)) (Eq y0 Bool.false);let y6:=I.hid (α:=(Prop)) (Eq y0 Bool.true);.br (I.ilt (Nat.cast i) (I.len (α:=UInt8) s)) (.need (I.inb (Nat.cast i) (I.len (α:=UInt8) s)) (.need (I.hid (α:=(Prop)) (And (LE.le (0:Int) y2) (LE.le y2 (255:Int)))) (.br (I.hid (α:=Bool) (tokB y2)) (.need (I.inr Go.IntKind.i64 (I.add (Nat.cast i) 1)) (.need (A ⟨[(0,(.v (.one (.ptr 0 0)))),(3,(.v (.one (.p (.int .i64 (I.add (Nat.cast i) 1))))))],[(.pack [(.obj 149 [(.p (.str s))])])],42,none⟩) .qed)) (.need y4 (.need y3 (.br (I.hid (α:=Bool) y0) (.need y6 (.fin (.pan (.ifc 145 .false [(.int .i64 5)])) [(.pack [(.obj 149 [(.p (.str y1))])])])) (.need y5 (.fin (.ret (.v (.one (.p (.str y7))))) [(.pack [(.obj 149 [(.p (.str y1))])])])))))))) (.need y4 (.need y3 (.br (I.hid (α:=Bool) y0) (.need y6 (.fin (.pan (.ifc 145 .false [(.int .i64 5)])) [(.pack [(.obj 149 [(.p (.str y1))])])])) (.need y5 (.fin (.ret (.v (.one (.p (.str y7))))) [(.pack [(.obj 149 [(.p (.str y1))])])])))))) (by kernel_rfl) ?_
  simp only [zl]
  subst hI
  simp only [nrmA,nrmB,nrlB,reduceCtorEq,HO.pack.injEq,HO.obj.injEq]
  have hb:=xu (s.getD i 0)
  have hs:=zf8 (p:=isTk) (s:=s) h1
  have hd:=drop_tw isTk s
  unfold isTk at hs
  change _↔i<(tokS s).length at hs
  change s.drop (tokS s).length=tokE s at hd
  rw [hne] at h1 hs hd
  simp only [List.length_nil] at h1 hs hd
  have h0:i=0:=by omega
  subst h0
  generalize s.getD 0 0=x at *
  have hx:0<s.length→tokB (x.toNat:Int)=true→False:=fun a b=>absurd (hs.1 ⟨a,b⟩) (by omega)
  have hcut:List.take (s.length - 0) (List.drop 0 s)=tokE s:=by rw [hd];exact List.take_of_length_le (by have:=wP s;omega)
  clear hs hA
  simp only [Int.toNat_natCast,List.take_zero,hcut] at *
  (repeat' (first|refine And.intro ?_ ?_|intro _))<;>first|omega|exact True.intro|exact False.elim ‹False›|skip
  all_goals first
    |omega
    |(exfalso;exact hx (by omega) ‹_›)
    |(exfalso;rename_i hq;exact hq rfl)
    |(simp;done)
    |trace_state
def Rz (I:Alg) (args:List D) (hp:List HO):Option CT:=match args,hp with
  |[.v (.one (.ptr 0 0))],[.pack [.obj 149 [(.p (.str s))]]]=>(fun(s:Str)=>(some (.br (I.hid (decide (tokS s=[]))) (.one ⟨I.hid (s.length≤1000000∧tokS s=[]),(.pan (.ifc 145 false [(.int .i64 5)])),[.pack [.obj 149 [(.p (.str (I.hid ((tokE s)))))]]]⟩) (.one ⟨I.hid (s.length≤1000000∧¬ tokS s=[]),(.ret (.v (.one (.p (.str (I.hid ((tokS s)))))))),[.pack [.obj 149 [(.p (.str (I.hid ((tokE s)))))]]]⟩)):Option CT)) s
  |_,_=>none
theorem zgW:zo Tryz.prog 137 (Rz alg):=by
  intro args hp r h
  unfold Rz at h
  split at h
  · cases h;exact⟨fun _ hn=>zmu _ hn,fun _ hn=>zmv _ hn⟩
  · cases h
def Y7:Know Tryz.prog:=⟨137,Rz,zgW⟩
def Y6:Know Tryz.prog:=⟨137,fun I=>zu I (Rz I),zf zgW⟩
theorem zmx (s:Str) (hneed:s.length≤1000000∧(quoF s).isSome=true):Spc Tryz.prog 160 [.v (.one (.ptr 0 0))] [.pack [.obj 149 [(.p (.str s))]]] (.ret (.v (.one (.p (.str ((quoV s))))))) [.pack [.obj 149 [(.p (.str ((quoR s))))]]]:=by
  obtain⟨hl,hne⟩:=hneed
  refine spcG zi mixed Tryz.func160 (by kernel_rfl) { nr:=[3],keep:=some [0,2,3,4]} [xh,xg] (by kernel_rfl) ?_
  intro I X hI hX
  refine zh (.code 0 [1,1,0] ⟨[(3,(.v (.one (.row 1)))),(2,(.v (.one (.p (.str (Array.toList (List.toArray ([]:List UInt8)))))))),(0,(.v (.one (.ptr 0 0))))],[(.pack [(.obj 149 [(.p (.str s))])]),(.row .byte 5 ([]:List UInt8))],53,none⟩) (by kernel_rfl) ?_
  simp only [zl]
  refine zA hI zi mixed [xh,xg] hX [0,3] (fun(g:Str × Str)=>match g with|(b,t)=>b.length+t.length≤s.length∧quoF s=(quoF t).map (fun p=>(b++p.1,p.2))) (fun(g:Str × Str)=>match g with|(b,t)=>⟨[(0,.v (.one (.ptr 0 0))),(3,.v (.one (.row 1)))],[.pack [.obj 149 [(.p (.str t))]],.row .byte 5 b],53,none⟩) (fun(g:Str × Str)=>match g with|(b,t)=>t.length) ([],s) (by kernel_rfl) (by kernel_rfl) ?_ ?_
  · exact⟨by simp,by simp⟩
  rintro⟨b,t⟩ ⟨h1,h2⟩ A hA
  refine zh (let y0:=I.cut (α:=UInt8) t 1 (I.len (α:=UInt8) t);let y1:=I.b2i (I.get (α:=UInt8) t 0 0);let y2:=I.seq y0 (Array.toList (List.toArray ([]:List UInt8)));let y3:=I.seq t (Array.toList (List.toArray ([]:List UInt8)));let y4:=I.b2i (I.get (α:=UInt8) y0 0 0);.br (I.hid (α:=Bool) y3) (.need (I.hid (α:=(Prop)) (Eq y3 Bool.true)) (.fin (.pan (.ifc 145 .false [(.int .i64 14)])) [(.pack [(.obj 149 [(.p (.str t))])])])) (.need (I.hid (α:=(Prop)) (Eq y3 Bool.false)) (.need (I.inb 0 (I.len (α:=UInt8) t)) (.need (I.cutb 1 (I.len (α:=UInt8) t) (I.len (α:=UInt8) t)) (.br (I.ieq y1 34) (.fin (.ret (.v (.one (.p (.str b))))) [(.pack [(.obj 149 [(.p (.str y0))])])]) (.br (I.ieq y1 92) (.br (I.hid (α:=Bool) y2) (.need (I.hid (α:=(Prop)) (Eq y2 Bool.true)) (.fin (.pan (.ifc 145 .false [(.int .i64 14)])) [(.pack [(.obj 149 [(.p (.str y0))])])])) (.need (I.hid (α:=(Prop)) (Eq y2 Bool.false)) (.need (I.inb 0 (I.len (α:=UInt8) y0)) (.need (I.cutb 1 (I.len (α:=UInt8) y0) (I.len (α:=UInt8) y0)) (.need (I.inr Go.IntKind.u8 y4) (.need (I.few (I.add (I.len (α:=UInt8) b) (I.len (α:=UInt8) ([(I.i2b y4)]:List UInt8))) 140737488355328) (.need (A ⟨[(0,(.v (.one (.ptr 0 0)))),(3,(.v (.one (.row 1))))],[(.pack [(.obj 149 [(.p (.str (I.cut (α:=UInt8) y0 1 (I.len (α:=UInt8) y0))))])]),(.row .byte 5 (I.app (α:=UInt8) b ([(I.i2b y4)]:List UInt8)))],53,none⟩) .qed))))))) (.need (I.inr Go.IntKind.u8 y1) (.need (I.few (I.add (I.len (α:=UInt8) b) (I.len (α:=UInt8) ([(I.i2b y1)]:List UInt8))) 140737488355328) (.need (A ⟨[(0,(.v (.one (.ptr 0 0)))),(3,(.v (.one (.row 1))))],[(.pack [(.obj 149 [(.p (.str y0))])]),(.row .byte 5 (I.app (α:=UInt8) b ([(I.i2b y1)]:List UInt8)))],53,none⟩) .qed))))))))) (by kernel_rfl) ?_
  simp only [zl]
  subst hI
  simp only [nrmA,nrmB,nrlB,reduceCtorEq,HO.pack.injEq,HO.obj.injEq]
  have hb:=xu (t.getD 0 0)
  rw [drop1]
  have hq: ∀ r:Str × Str,quoF s=some r→True:=fun _ _=>trivial
  cases t with
  | nil=>
    simp only [quoF,Option.map_none] at h2
    (repeat' (first|refine And.intro ?_ ?_|intro _))<;>first|omega|exact True.intro|exact False.elim ‹False›|skip
    all_goals first
      |omega
      |(simp_all;done)
      |trace_state
  |cons x t=>
  cases t with
  | nil=>
    simp only [quoF] at h2
    have h34:((x.toNat:Int)=34)↔x=34:=uy x 34
    have h92:((x.toNat:Int)=92)↔x=92:=uy x 92
    simp only [List.getD_cons_zero,h34,h92,List.drop_succ_cons,List.drop_zero,List.length_cons,List.length_nil] at *
    have hgo: ¬ x=34→A ⟨[(0,.v (.one (.ptr 0 0))),(3,.v (.one (.row 1)))],[.pack [.obj 149 [(.p (.str ([])))]],.row .byte 5 ((b++[x]))],53,none⟩:=fun h=>hA (b++[x],[]) ⟨by simp;omega,by rw [h2,if_neg h];rfl⟩ (by simp)
    have hv:x=34→quoV s=b∧quoR s=[]:=fun h=>by unfold quoV quoR;rw [h2,if_pos h];simp
    clear hA
    (repeat' (first|refine And.intro ?_ ?_|intro _))<;>first|omega|exact True.intro|exact False.elim ‹False›|skip
    all_goals first
      |omega
      |exact(hv ‹_›).1.symm
      |exact(hv ‹_›).2.symm
      |exact hgo ‹_›
      |(simp_all;done)
      |trace_state
  | cons y t=>
    simp only [quoF] at h2
    have h34:((x.toNat:Int)=34)↔x=34:=uy x 34
    have h92:((x.toNat:Int)=92)↔x=92:=uy x 92
    have hy:=xu y
    have hyt:List.take (t.length+1 - Int.toNat 1) (List.drop (Int.toNat 1) (y::t))=t:=by simpa using drop1 (y::t)
    simp only [List.getD_cons_zero,h34,h92,List.drop_succ_cons,List.drop_zero,List.length_cons] at *
    have hgoY: ¬ x=34→x=92→A ⟨[(0,.v (.one (.ptr 0 0))),(3,.v (.one (.row 1)))],[.pack [.obj 149 [(.p (.str t))]],.row .byte 5 ((b++[y]))],53,none⟩:=fun h k=>hA (b++[y],t) ⟨by simp;omega,by rw [h2,if_neg h,if_pos k,Option.map_map];congr 1;funext p;simp⟩ (by simp;omega)
    have hgoX: ¬ x=34→¬ x=92→A ⟨[(0,.v (.one (.ptr 0 0))),(3,.v (.one (.row 1)))],[.pack [.obj 149 [(.p (.str ((y::t))))]],.row .byte 5 ((b++[x]))],53,none⟩:=fun h k=>hA (b++[x],y::t) ⟨by simp;omega,by rw [h2,if_neg h,if_neg k,Option.map_map];congr 1;funext p;simp⟩ (by simp)
    have hv:x=34→quoV s=b∧quoR s=y::t:=fun h=>by unfold quoV quoR;rw [h2,if_pos h];simp
    clear hA
    simp only [List.length_nil,Nat.zero_add]
    first|rw [hyt]|skip
    (repeat' (first|refine And.intro ?_ ?_|intro _))<;>first|omega|exact True.intro|exact False.elim ‹False›|skip
    all_goals first
      |omega
      |exact(hv ‹_›).1.symm
      |exact(hv ‹_›).2.symm
      |exact hgoX ‹_› ‹_›
      |exact hgoY ‹_› ‹_›
      |(simp_all;done)
      |trace_state
theorem zmw (s:Str) (hneed:s.length≤1000000∧(quoF s).isSome=false):Spc Tryz.prog 160 [.v (.one (.ptr 0 0))] [.pack [.obj 149 [(.p (.str s))]]] (.pan (.ifc 145 false [(.int .i64 14)])) [.pack [.obj 149 [(.p (.str ([])))]]]:=by
  obtain⟨hl,hne⟩:=hneed
  refine spcG zi mixed Tryz.func160 (by kernel_rfl) { nr:=[3],keep:=some [0,2,3,4]} [xh,xg] (by kernel_rfl) ?_
  intro I X hI hX
  refine zh (.code 0 [1,1,0] ⟨[(3,(.v (.one (.row 1)))),(2,(.v (.one (.p (.str (Array.toList (List.toArray ([]:List UInt8)))))))),(0,(.v (.one (.ptr 0 0))))],[(.pack [(.obj 149 [(.p (.str s))])]),(.row .byte 5 ([]:List UInt8))],53,none⟩) (by kernel_rfl) ?_
  simp only [zl]
  refine zA hI zi mixed [xh,xg] hX [0,3] (fun(g:Str × Str)=>match g with|(b,t)=>b.length+t.length≤s.length∧quoF s=(quoF t).map (fun p=>(b++p.1,p.2))) (fun(g:Str × Str)=>match g with|(b,t)=>⟨[(0,.v (.one (.ptr 0 0))),(3,.v (.one (.row 1)))],[.pack [.obj 149 [(.p (.str t))]],.row .byte 5 b],53,none⟩) (fun(g:Str × Str)=>match g with|(b,t)=>t.length) ([],s) (by kernel_rfl) (by kernel_rfl) ?_ ?_
  · exact⟨by simp,by simp⟩
  rintro⟨b,t⟩ ⟨h1,h2⟩ A hA
  refine zh (let y0:=I.cut (α:=UInt8) t 1 (I.len (α:=UInt8) t);let y1:=I.b2i (I.get (α:=UInt8) t 0 0);let y2:=I.seq y0 (Array.toList (List.toArray ([]:List UInt8)));let y3:=I.seq t (Array.toList (List.toArray ([]:List UInt8)));let y4:=I.b2i (I.get (α:=UInt8) y0 0 0);.br (I.hid (α:=Bool) y3) (.need (I.hid (α:=(Prop)) (Eq y3 Bool.true)) (.fin (.pan (.ifc 145 .false [(.int .i64 14)])) [(.pack [(.obj 149 [(.p (.str t))])])])) (.need (I.hid (α:=(Prop)) (Eq y3 Bool.false)) (.need (I.inb 0 (I.len (α:=UInt8) t)) (.need (I.cutb 1 (I.len (α:=UInt8) t) (I.len (α:=UInt8) t)) (.br (I.ieq y1 34) (.fin (.ret (.v (.one (.p (.str b))))) [(.pack [(.obj 149 [(.p (.str y0))])])]) (.br (I.ieq y1 92) (.br (I.hid (α:=Bool) y2) (.need (I.hid (α:=(Prop)) (Eq y2 Bool.true)) (.fin (.pan (.ifc 145 .false [(.int .i64 14)])) [(.pack [(.obj 149 [(.p (.str y0))])])])) (.need (I.hid (α:=(Prop)) (Eq y2 Bool.false)) (.need (I.inb 0 (I.len (α:=UInt8) y0)) (.need (I.cutb 1 (I.len (α:=UInt8) y0) (I.len (α:=UInt8) y0)) (.need (I.inr Go.IntKind.u8 y4) (.need (I.few (I.add (I.len (α:=UInt8) b) (I.len (α:=UInt8) ([(I.i2b y4)]:List UInt8))) 140737488355328) (.need (A ⟨[(0,(.v (.one (.ptr 0 0)))),(3,(.v (.one (.row 1))))],[(.pack [(.obj 149 [(.p (.str (I.cut (α:=UInt8) y0 1 (I.len (α:=UInt8) y0))))])]),(.row .byte 5 (I.app (α:=UInt8) b ([(I.i2b y4)]:List UInt8)))],53,none⟩) .qed))))))) (.need (I.inr Go.IntKind.u8 y1) (.need (I.few (I.add (I.len (α:=UInt8) b) (I.len (α:=UInt8) ([(I.i2b y1)]:List UInt8))) 140737488355328) (.need (A ⟨[(0,(.v (.one (.ptr 0 0)))),(3,(.v (.one (.row 1))))],[(.pack [(.obj 149 [(.p (.str y0))])]),(.row .byte 5 (I.app (α:=UInt8) b ([(I.i2b y1)]:List UInt8)))],53,none⟩) .qed))))))))) (by kernel_rfl) ?_
  simp only [zl]
  subst hI
  simp only [nrmA,nrmB,nrlB,reduceCtorEq,HO.pack.injEq,HO.obj.injEq]
  have hb:=xu (t.getD 0 0)
  rw [drop1]
  have hq: ∀ r:Str × Str,quoF s=some r→True:=fun _ _=>trivial
  cases t with
  | nil=>
    simp only [quoF,Option.map_none] at h2
    (repeat' (first|refine And.intro ?_ ?_|intro _))<;>first|omega|exact True.intro|exact False.elim ‹False›|skip
    all_goals first
      |omega
      |(simp_all;done)
      |trace_state
  |cons x t=>
  cases t with
  | nil=>
    simp only [quoF] at h2
    have h34:((x.toNat:Int)=34)↔x=34:=uy x 34
    have h92:((x.toNat:Int)=92)↔x=92:=uy x 92
    simp only [List.getD_cons_zero,h34,h92,List.drop_succ_cons,List.drop_zero,List.length_cons,List.length_nil] at *
    have hgo: ¬ x=34→A ⟨[(0,.v (.one (.ptr 0 0))),(3,.v (.one (.row 1)))],[.pack [.obj 149 [(.p (.str ([])))]],.row .byte 5 ((b++[x]))],53,none⟩:=fun h=>hA (b++[x],[]) ⟨by simp;omega,by rw [h2,if_neg h];rfl⟩ (by simp)
    have hv:x=34→quoV s=b∧quoR s=[]:=fun h=>by unfold quoV quoR;rw [h2,if_pos h];simp
    clear hA
    (repeat' (first|refine And.intro ?_ ?_|intro _))<;>first|omega|exact True.intro|exact False.elim ‹False›|skip
    all_goals first
      |omega
      |exact(hv ‹_›).1.symm
      |exact(hv ‹_›).2.symm
      |exact hgo ‹_›
      |(simp_all;done)
      |trace_state
  | cons y t=>
    simp only [quoF] at h2
    have h34:((x.toNat:Int)=34)↔x=34:=uy x 34
    have h92:((x.toNat:Int)=92)↔x=92:=uy x 92
    have hy:=xu y
    have hyt:List.take (t.length+1 - Int.toNat 1) (List.drop (Int.toNat 1) (y::t))=t:=by simpa using drop1 (y::t)
    simp only [List.getD_cons_zero,h34,h92,List.drop_succ_cons,List.drop_zero,List.length_cons] at *
    have hgoY: ¬ x=34→x=92→A ⟨[(0,.v (.one (.ptr 0 0))),(3,.v (.one (.row 1)))],[.pack [.obj 149 [(.p (.str t))]],.row .byte 5 ((b++[y]))],53,none⟩:=fun h k=>hA (b++[y],t) ⟨by simp;omega,by rw [h2,if_neg h,if_pos k,Option.map_map];congr 1;funext p;simp⟩ (by simp;omega)
    have hgoX: ¬ x=34→¬ x=92→A ⟨[(0,.v (.one (.ptr 0 0))),(3,.v (.one (.row 1)))],[.pack [.obj 149 [(.p (.str ((y::t))))]],.row .byte 5 ((b++[x]))],53,none⟩:=fun h k=>hA (b++[x],y::t) ⟨by simp;omega,by rw [h2,if_neg h,if_neg k,Option.map_map];congr 1;funext p;simp⟩ (by simp)
    have hv:x=34→quoV s=b∧quoR s=y::t:=fun h=>by unfold quoV quoR;rw [h2,if_pos h];simp
    clear hA
    simp only [List.length_nil,Nat.zero_add]
    first|rw [hyt]|skip
    (repeat' (first|refine And.intro ?_ ?_|intro _))<;>first|omega|exact True.intro|exact False.elim ‹False›|skip
    all_goals first
      |omega
      |exact(hv ‹_›).1.symm
      |exact(hv ‹_›).2.symm
      |exact hgoX ‹_› ‹_›
      |exact hgoY ‹_› ‹_›
      |(simp_all;done)
      |trace_state
def RD (I:Alg) (args:List D) (hp:List HO):Option CT:=match args,hp with
  |[.v (.one (.ptr 0 0))],[.pack [.obj 149 [(.p (.str s))]]]=>(fun(s:Str)=>(some (.br (I.hid ((quoF s).isSome)) (.one ⟨I.hid (s.length≤1000000∧(quoF s).isSome=true),(.ret (.v (.one (.p (.str (I.hid ((quoV s)))))))),[.pack [.obj 149 [(.p (.str (I.hid ((quoR s)))))]]]⟩) (.one ⟨I.hid (s.length≤1000000∧(quoF s).isSome=false),(.pan (.ifc 145 false [(.int .i64 14)])),[.pack [.obj 149 [(.p (.str (I.hid ([]))))]]]⟩)):Option CT)) s
  |_,_=>none
theorem zgZ:zo Tryz.prog 160 (RD alg):=by
  intro args hp r h
  unfold RD at h
  split at h
  · cases h;exact⟨fun _ hn=>zmx _ hn,fun _ hn=>zmw _ hn⟩
  · cases h
def zgY:Know Tryz.prog:=⟨160,RD,zgZ⟩
def zgX:Know Tryz.prog:=⟨160,fun I=>zu I (RD I),zf zgZ⟩
theorem zmz (s:Str) (hneed:s.length≤1000000∧(parM s).1=0):Spc Tryz.prog 139 [.v (.one (.ptr 0 0))] [.pack [.obj 149 [(.p (.str s))]]] (.ret (.v (.agg [(.p (.str ((parM s).2.1.name))),(.p (.str ((parM s).2.1.value)))]))) [.pack [.obj 149 [(.p (.str ((parM s).2.2)))]]]:=by
  obtain⟨hl,hc⟩:=hneed
  generalize hr:parM s=r at hc
  obtain⟨c,⟨n,v⟩,z⟩:=r
  simp only at hc
  subst hc
  refine spcG zi mixed Tryz.func139 (by kernel_rfl) { keep:=some [0,2,3]} [wI,wH,xh,xg,qP,qO,Y7,Y6,zgY,zgX] (by kernel_rfl) ?_
  intro I X hI hX
  refine zh (let y1:=I.hid (α:=(List UInt8)) (tokE s);let y3:=I.hid (α:=(List UInt8)) (ite (Eq (zZ y1 (UInt8.ofNat (Int.toNat (61:Int)))) Bool.true) (List.drop 1 y1) y1);let y0:=I.hid (α:=(List UInt8)) (ite (Eq (zZ y3 (UInt8.ofNat (Int.toNat (34:Int)))) Bool.true) (List.drop 1 y3) y3);let y2:=I.bnot (I.hid (α:=Bool) (zZ y1 (UInt8.ofNat (Int.toNat (61:Int)))));let y4:=I.hid (α:=(List UInt8)) (lowS (I.hid (α:=(List UInt8)) (tokS s)));let y5:=I.hid (α:=(List UInt8)) (tokE y0);.br (I.hid (α:=Bool) (Decidable.decide (Eq (tokS s) ([]:List UInt8)))) (.need (I.hid (α:=(Prop)) (And (LE.le (List.length s) 1000000) (Eq (tokS s) ([]:List UInt8)))) (.fin (.pan (.ifc 145 .false [(.int .i64 5)])) [(.pack [(.obj 149 [(.p (.str y1))])])])) (.need (I.hid (α:=(Prop)) (And (LE.le (List.length s) 1000000) (Not (Eq (tokS s) ([]:List UInt8))))) (.need (I.hid (α:=(Prop)) (LE.le (List.length (I.hid (α:=(List UInt8)) (tokS s))) 1000000)) (.need (I.hid (α:=(Prop)) (And (LE.le (0:Int) (61:Int)) (LE.le (61:Int) (255:Int)))) (.br (I.hid (α:=Bool) y2) (.need (I.hid (α:=(Prop)) (Eq y2 Bool.true)) (.fin (.pan (.ifc 145 .false [(.int .i64 5)])) [(.pack [(.obj 149 [(.p (.str y3))])])])) (.need (I.hid (α:=(Prop)) (Eq y2 Bool.false)) (.need (I.hid (α:=(Prop)) (And (LE.le (0:Int) (34:Int)) (LE.le (34:Int) (255:Int)))) (.br (I.hid (α:=Bool) (zZ y3 (UInt8.ofNat (Int.toNat (34:Int))))) (.br (I.hid (α:=Bool) (Option.isSome (quoF y0))) (.need (I.hid (α:=(Prop)) (And (LE.le (List.length y0) 1000000) (Eq (Option.isSome (quoF y0)) Bool.true))) (.fin (.ret (.v (.agg [(.p (.str y4)),(.p (.str (I.hid (α:=(List UInt8)) (quoV y0))))]))) [(.pack [(.obj 149 [(.p (.str (I.hid (α:=(List UInt8)) (quoR y0))))])])])) (.need (I.hid (α:=(Prop)) (And (LE.le (List.length y0) 1000000) (Eq (Option.isSome (quoF y0)) Bool.false))) (.fin (.pan (.ifc 145 .false [(.int .i64 14)])) [(.pack [(.obj 149 [(.p (.str (I.hid (α:=(List UInt8)) ([]:List UInt8))))])])]))) (.br (I.hid (α:=Bool) (Decidable.decide (Eq (tokS y0) ([]:List UInt8)))) (.need (I.hid (α:=(Prop)) (And (LE.le (List.length y0) 1000000) (Eq (tokS y0) ([]:List UInt8)))) (.fin (.pan (.ifc 145 .false [(.int .i64 5)])) [(.pack [(.obj 149 [(.p (.str y5))])])])) (.need (I.hid (α:=(Prop)) (And (LE.le (List.length y0) 1000000) (Not (Eq (tokS y0) ([]:List UInt8))))) (.fin (.ret (.v (.agg [(.p (.str y4)),(.p (.str (I.hid (α:=(List UInt8)) (tokS y0))))]))) [(.pack [(.obj 149 [(.p (.str y5))])])]))))))))))) (by kernel_rfl) ?_
  simp only [zl]
  subst hI
  simp only [nrmA,nrmB,nrlB,reduceCtorEq,HO.pack.injEq,HO.obj.injEq]
  unfold parM at hr
  have hl1:=wO s
  have hl2:=wP s
  simp only [show UInt8.ofNat (Int.toNat 61)=61 from rfl,show UInt8.ofNat (Int.toNat 34)=34 from rfl] at *
  (repeat' (first|refine And.intro ?_ ?_|intro _))<;>first|omega|exact True.intro|exact False.elim ‹False›|skip
  all_goals first
    |omega
    |(simp_all;done)
    |(simp_all;omega)
    |trace_state
theorem zmy (s:Str) (hneed:s.length≤1000000∧¬ (parM s).1=0):Spc Tryz.prog 139 [.v (.one (.ptr 0 0))] [.pack [.obj 149 [(.p (.str s))]]] (.pan (.ifc 145 false [(.int .i64 ((parM s).1))])) [.pack [.obj 149 [(.p (.str ((parM s).2.2)))]]]:=by
  obtain⟨hl,hc⟩:=hneed
  generalize hr:parM s=r at hc
  obtain⟨c,⟨n,v⟩,z⟩:=r
  simp only at hc
  refine spcG zi mixed Tryz.func139 (by kernel_rfl) { keep:=some [0,2,3]} [wI,wH,xh,xg,qP,qO,Y7,Y6,zgY,zgX] (by kernel_rfl) ?_
  intro I X hI hX
  refine zh (let y1:=I.hid (α:=(List UInt8)) (tokE s);let y3:=I.hid (α:=(List UInt8)) (ite (Eq (zZ y1 (UInt8.ofNat (Int.toNat (61:Int)))) Bool.true) (List.drop 1 y1) y1);let y0:=I.hid (α:=(List UInt8)) (ite (Eq (zZ y3 (UInt8.ofNat (Int.toNat (34:Int)))) Bool.true) (List.drop 1 y3) y3);let y2:=I.bnot (I.hid (α:=Bool) (zZ y1 (UInt8.ofNat (Int.toNat (61:Int)))));let y4:=I.hid (α:=(List UInt8)) (lowS (I.hid (α:=(List UInt8)) (tokS s)));let y5:=I.hid (α:=(List UInt8)) (tokE y0);.br (I.hid (α:=Bool) (Decidable.decide (Eq (tokS s) ([]:List UInt8)))) (.need (I.hid (α:=(Prop)) (And (LE.le (List.length s) 1000000) (Eq (tokS s) ([]:List UInt8)))) (.fin (.pan (.ifc 145 .false [(.int .i64 5)])) [(.pack [(.obj 149 [(.p (.str y1))])])])) (.need (I.hid (α:=(Prop)) (And (LE.le (List.length s) 1000000) (Not (Eq (tokS s) ([]:List UInt8))))) (.need (I.hid (α:=(Prop)) (LE.le (List.length (I.hid (α:=(List UInt8)) (tokS s))) 1000000)) (.need (I.hid (α:=(Prop)) (And (LE.le (0:Int) (61:Int)) (LE.le (61:Int) (255:Int)))) (.br (I.hid (α:=Bool) y2) (.need (I.hid (α:=(Prop)) (Eq y2 Bool.true)) (.fin (.pan (.ifc 145 .false [(.int .i64 5)])) [(.pack [(.obj 149 [(.p (.str y3))])])])) (.need (I.hid (α:=(Prop)) (Eq y2 Bool.false)) (.need (I.hid (α:=(Prop)) (And (LE.le (0:Int) (34:Int)) (LE.le (34:Int) (255:Int)))) (.br (I.hid (α:=Bool) (zZ y3 (UInt8.ofNat (Int.toNat (34:Int))))) (.br (I.hid (α:=Bool) (Option.isSome (quoF y0))) (.need (I.hid (α:=(Prop)) (And (LE.le (List.length y0) 1000000) (Eq (Option.isSome (quoF y0)) Bool.true))) (.fin (.ret (.v (.agg [(.p (.str y4)),(.p (.str (I.hid (α:=(List UInt8)) (quoV y0))))]))) [(.pack [(.obj 149 [(.p (.str (I.hid (α:=(List UInt8)) (quoR y0))))])])])) (.need (I.hid (α:=(Prop)) (And (LE.le (List.length y0) 1000000) (Eq (Option.isSome (quoF y0)) Bool.false))) (.fin (.pan (.ifc 145 .false [(.int .i64 14)])) [(.pack [(.obj 149 [(.p (.str (I.hid (α:=(List UInt8)) ([]:List UInt8))))])])]))) (.br (I.hid (α:=Bool) (Decidable.decide (Eq (tokS y0) ([]:List UInt8)))) (.need (I.hid (α:=(Prop)) (And (LE.le (List.length y0) 1000000) (Eq (tokS y0) ([]:List UInt8)))) (.fin (.pan (.ifc 145 .false [(.int .i64 5)])) [(.pack [(.obj 149 [(.p (.str y5))])])])) (.need (I.hid (α:=(Prop)) (And (LE.le (List.length y0) 1000000) (Not (Eq (tokS y0) ([]:List UInt8))))) (.fin (.ret (.v (.agg [(.p (.str y4)),(.p (.str (I.hid (α:=(List UInt8)) (tokS y0))))]))) [(.pack [(.obj 149 [(.p (.str y5))])])]))))))))))) (by kernel_rfl) ?_
  simp only [zl]
  subst hI
  simp only [nrmA,nrmB,nrlB,reduceCtorEq,HO.pack.injEq,HO.obj.injEq]
  unfold parM at hr
  have hl1:=wO s
  have hl2:=wP s
  simp only [show UInt8.ofNat (Int.toNat 61)=61 from rfl,show UInt8.ofNat (Int.toNat 34)=34 from rfl] at *
  (repeat' (first|refine And.intro ?_ ?_|intro _))<;>first|omega|exact True.intro|exact False.elim ‹False›|skip
  all_goals first
    |omega
    |(simp_all;done)
    |(simp_all;omega)
    |(by_cases hq:tokS (List.drop 1 (tokE s))=[]<;>simp_all;done)
    |trace_state
def RH (I:Alg) (args:List D) (hp:List HO):Option CT:=match args,hp with
  |[.v (.one (.ptr 0 0))],[.pack [.obj 149 [(.p (.str s))]]]=>(fun(s:Str)=>(some (.br (I.hid (decide ((parM s).1=0))) (.one ⟨I.hid (s.length≤1000000∧(parM s).1=0),(.ret (.v (.agg [(.p (.str (I.hid ((parM s).2.1.name)))),(.p (.str (I.hid ((parM s).2.1.value))))]))),[.pack [.obj 149 [(.p (.str (I.hid ((parM s).2.2))))]]]⟩) (.one ⟨I.hid (s.length≤1000000∧¬ (parM s).1=0),(.pan (.ifc 145 false [(.int .i64 (I.hid ((parM s).1)))])),[.pack [.obj 149 [(.p (.str (I.hid ((parM s).2.2))))]]]⟩)):Option CT)) s
  |_,_=>none
theorem zg0:zo Tryz.prog 139 (RH alg):=by
  intro args hp r h
  unfold RH at h
  split at h
  · cases h;exact⟨fun _ hn=>zmz _ hn,fun _ hn=>zmy _ hn⟩
  · cases h
def RG:Know Tryz.prog:=⟨139,RH,zg0⟩
def RF:Know Tryz.prog:=⟨139,fun I=>zu I (RH I),zf zg0⟩
end Go.Proofs.YtcclfkakcgnacaaGreatDoor
namespace Go.Proofs.YtcclfkakcgnacaaGreatDoor
open Go Go.Sep Go.Ab
set_option maxRecDepth 100000
theorem zmF (a b n:Str):Spc Tryz.prog 162 [.v (.agg [(.p (.str a)),(.p (.str b))]),.v (.one (.ptr 0 0))] [.pack [.obj 9 [(.p (.str n))]]] (.ret (.v (.one (.p (.bool ((a == n))))))) [.pack [.obj 9 [(.p (.str n))]]]:=by
  refine spcG zi mixed Tryz.func162 (by kernel_rfl) { keep:=some [0,1,2,3]} [] (by kernel_rfl) ?_
  intro I X hI hX
  refine zh (.fin (.ret (.v (.one (.p (.bool (I.seq a n)))))) [(.pack [(.obj 9 [(.p (.str n))])])]) (by kernel_rfl) ?_
  simp only [zl]
  subst hI
  simp only [nrmA,nrmB,nrlB,reduceCtorEq,HO.pack.injEq,HO.obj.injEq]
  try trivial
def WG (I:Alg) (args:List D) (hp:List HO):Option CT:=match args,hp with
  |[.v (.agg [(.p (.str a)),(.p (.str b))]),.v (.one (.ptr 0 0))],[.pack [.obj 9 [(.p (.str n))]]]=>(fun(a b n:Str)=>(some (.one ⟨I.hid (True),(.ret (.v (.one (.p (.bool (I.hid ((a == n)))))))),[.pack [.obj 9 [(.p (.str n))]]]⟩):Option CT)) a b n
  |_,_=>none
theorem zdP:zo Tryz.prog 162 (WG alg):=by
  intro args hp r h
  unfold WG at h
  split at h
  · cases h;exact fun hn=>zmF _ _ _
  · cases h
def RS:Know Tryz.prog:=⟨162,WG,zdP⟩
def zjy:Know Tryz.prog:=⟨162,fun I=>zu I (WG I),zf zdP⟩
def ixP (l:List Fld) (n:Str):Int:=if l.findIdx (fun f=>f.name == n)<l.length then(l.findIdx (fun f=>f.name == n):Int) else -1
set_option maxHeartbeats 1000000 in
theorem pIx_ (l:List Fld) (n:Str) (hneed:l.length≤1000000):Spc Tryz.prog 161 [.v (.one (.p (.list .fld l))),.v (.one (.fn 162 [.ptr 0 0]))] [.pack [.obj 9 [(.p (.str n))]]] (.ret (.v (.one (.p (.int .i64 ((ixP l n))))))) [.pack [.obj 9 [(.p (.str n))]]]:=by
  refine spcG zi mixed Tryz.func161 (by kernel_rfl) { keep:=some [0,1,4,5,7,8]} [RS] (by kernel_rfl) ?_
  intro I X hI hX
  refine zh (.code 0 [1,0,1,0] ⟨[(8,(.v (.one (.p (.int .i64 0))))),(7,(.v (.one (.p (.int .i64 (I.len (α:=Go.Ab.Fld) l)))))),(4,(.v (.one (.p (.int .i64 0))))),(0,(.v (.one (.p (.list .fld l))))),(1,(.v (.one (.fn 162 [(.ptr 0 0)]))))],[(.pack [(.obj 9 [(.p (.str n))])])],19,none⟩) (by kernel_rfl) ?_
  simp only [zl]
  refine zA hI zi mixed [RS] hX [0,1,7,8] (fun(i:Nat)=>i≤l.length∧i≤l.findIdx (fun f=>f.name == n)) (fun(i:Nat)=>⟨[(0,.v (.one (.p (.list .fld l)))),(1,.v (.one (.fn 162 [.ptr 0 0]))),(7,.v (.one (.p (.int .i64 ((I.len (α:=Fld) l)))))),(8,.v (.one (.p (.int .i64 i))))],[.pack [.obj 9 [(.p (.str n))]]],19,none⟩) (fun(i:Nat)=>l.length - i) 0 (by kernel_rfl) (by kernel_rfl) ?_ ?_
  · exact⟨Nat.zero_le _,Nat.zero_le _⟩
  rintro i ⟨h1,h2⟩ A hA
  refine zh (let y0:=I.inb (Nat.cast i) (I.len (α:=Go.Ab.Fld) l);.br (I.ilt (Nat.cast i) (I.len (α:=Go.Ab.Fld) l)) (.need y0 (.need y0 (.need (I.hid (α:=(Prop)) True) (.br (I.hid (α:=Bool) (BEq.beq (Go.Ab.Fld.name (I.get (α:=Go.Ab.Fld) l (Go.Ab.Fld.mk ([]:List UInt8) ([]:List UInt8)) (Nat.cast i))) n)) (.fin (.ret (.v (.one (.p (.int .i64 (Nat.cast i)))))) [(.pack [(.obj 9 [(.p (.str n))])])]) (.need (I.inr Go.IntKind.i64 (I.add (Nat.cast i) 1)) (.need (A ⟨[(0,(.v (.one (.p (.list .fld l))))),(1,(.v (.one (.fn 162 [(.ptr 0 0)])))),(7,(.v (.one (.p (.int .i64 (I.len (α:=Go.Ab.Fld) l)))))),(8,(.v (.one (.p (.int .i64 (I.add (Nat.cast i) 1))))))],[(.pack [(.obj 9 [(.p (.str n))])])],19,none⟩) .qed)))))) (.fin (.ret (.v (.one (.p (.int .i64 (Neg.neg (1:Int))))))) [(.pack [(.obj 9 [(.p (.str n))])])])) (by kernel_rfl) ?_
  simp only [zl]
  subst hI
  simp only [nrmA,nrmB,nrlB,reduceCtorEq,HO.pack.injEq,HO.obj.injEq]
  have hfl:l.findIdx (fun f=>f.name == n)≤l.length:=List.findIdx_le_length
  have hyes:i<l.length→(l.getD i ⟨[],[]⟩).name=n→ixP l n=i:=fun h hid=>by
    have h0:l.findIdx (fun f=>f.name == n)≤i:=by
      refine Nat.le_of_not_lt fun hlt=> ?_
      have:=List.not_of_lt_findIdx hlt
      rw [List.getD_eq_getElem?_getD,List.getElem?_eq_getElem h] at hid
      simp only [Option.getD_some] at hid
      rw [hid] at this;simp at this
    unfold ixP
    rw [if_pos (by omega)];omega
  have hno:i<l.length→¬ (l.getD i ⟨[],[]⟩).name=n→i+1≤l.findIdx (fun f=>f.name == n):=fun h hid=>by
    refine Nat.lt_of_le_of_ne h2 fun e=>hid ?_
    have hlt:l.findIdx (fun f=>f.name == n)<l.length:=by omega
    have:=List.findIdx_getElem (xs:=l) (p:=fun f=>f.name == n) (w:=hlt)
    have h9:l.getD i ⟨[],[]⟩=l[l.findIdx (fun f=>f.name == n)]:=by simp [e,List.getD_eq_getElem?_getD,hlt]
    rw [h9];simpa using this
  have hend: ¬ i<l.length→ixP l n= -1:=fun h=>by unfold ixP;rw [if_neg (by omega)]
  generalize l.getD i ⟨[],[]⟩=x at *
  (repeat' (first|refine And.intro ?_ ?_|intro _))<;>first|omega|exact True.intro|exact False.elim ‹False›|skip
  all_goals first
    |omega
    |(exact(hyes (by omega) ‹_›).symm)
    |(exact hA (i+1) ⟨by omega,hno (by omega) ‹_›⟩ (by omega))
    |(exact(hend (by omega)).symm)
    |trace_state
def zdO (I:Alg) (args:List D) (hp:List HO):Option CT:=match args,hp with
  |[.v (.one (.p (.list .fld l))),.v (.one (.fn 162 [.ptr 0 0]))],[.pack [.obj 9 [(.p (.str n))]]]=>(fun(l:List Fld) (n:Str)=>(some (.one ⟨I.hid (l.length≤1000000),(.ret (.v (.one (.p (.int .i64 (I.hid ((ixP l n)))))))),[.pack [.obj 9 [(.p (.str n))]]]⟩):Option CT)) l n
  |_,_=>none
theorem zki:zo Tryz.prog 161 (zdO alg):=by
  intro args hp r h
  unfold zdO at h
  split at h
  · cases h;exact fun hn=>pIx_ _ _ hn
  · cases h
def zmE:Know Tryz.prog:=⟨161,zdO,zki⟩
def zmD:Know Tryz.prog:=⟨161,fun I=>zu I (zdO I),zf zki⟩
theorem zmU (l:List Fld) (n:Str): -1≤ixP l n∧ixP l n<l.length:=by unfold ixP;split<;>omega
theorem zlu (l:List Fld) (n:Str):getP l n=if 0≤ixP l n then((l.getD (ixP l n).toNat ⟨[],[]⟩).value,true) else([],false):=by
  unfold getP ixP
  rw [List.find?_eq_getElem?_findIdx]
  by_cases h:l.findIdx (fun f=>f.name == n)<l.length
  · rw [if_pos h,if_pos (by omega),List.getElem?_eq_getElem h]
    simp [List.getD_eq_getElem?_getD,h]
  · rw [if_neg h,if_neg (by omega),List.getElem?_eq_none (by omega)]
theorem znO (w:Str) (l:List Fld) (n:Str) (hneed:l.length≤1000000):Spc Tryz.prog 140 [.v (.agg [(.p (.str w)),(.p (.list .fld l))]),.v (.one (.p (.str n)))] [] (.ret (.tup [(.one (.p (.str ((getP l n).1)))),(.one (.p (.bool ((getP l n).2))))])) []:=by
  rw [zlu]
  have hx:=zmU l n
  refine spcG zi mixed Tryz.func140 (by kernel_rfl) { keep:=some [0,1,2,3,4,5,6]} [RS,zjy,zmE,zmD] (by kernel_rfl) ?_
  intro I X hI hX
  refine zh (let y0:=I.inb (I.hid (α:=Int) (ixP l n)) (I.len (α:=Go.Ab.Fld) l);.need (I.hid (α:=(Prop)) (LE.le (List.length l) 1000000)) (.br (I.ilt (I.hid (α:=Int) (ixP l n)) 0) (.fin (.ret (.tup [(.one (.p (.str (Array.toList (List.toArray ([]:List UInt8)))))),(.one (.p (.bool Bool.false)))])) []) (.need y0 (.need y0 (.fin (.ret (.tup [(.one (.p (.str (Go.Ab.Fld.value (I.get (α:=Go.Ab.Fld) l (Go.Ab.Fld.mk ([]:List UInt8) ([]:List UInt8)) (I.hid (α:=Int) (ixP l n))))))),(.one (.p (.bool Bool.true)))])) []))))) (by kernel_rfl) ?_
  simp only [zl]
  subst hI
  simp only [nrmA,nrmB]
  (repeat' (first|refine And.intro ?_ ?_|intro _))<;>first|omega|exact True.intro|exact False.elim ‹False›|skip
  all_goals first
    |omega
    |(rw [if_pos (by omega)])
    |(rw [if_neg (by omega)])
    |trace_state
def RQ (I:Alg) (args:List D) (hp:List HO):Option CT:=match args,hp with
  |[.v (.agg [(.p (.str w)),(.p (.list .fld l))]),.v (.one (.p (.str n)))],[]=>(fun(w:Str) (l:List Fld) (n:Str)=>(some (.one ⟨I.hid (l.length≤1000000),(.ret (.tup [(.one (.p (.str (I.hid ((getP l n).1))))),(.one (.p (.bool (I.hid ((getP l n).2)))))])),[]⟩):Option CT)) w l n
  |_,_=>none
theorem zg2:zo Tryz.prog 140 (RQ alg):=by
  intro args hp r h
  unfold RQ at h
  split at h
  · cases h;exact fun hn=>znO _ _ _ hn
  · cases h
def RN:Know Tryz.prog:=⟨140,RQ,zg2⟩
def RJ:Know Tryz.prog:=⟨140,fun I=>zu I (RQ I),zf zg2⟩
def cfgM:Cfg:= { sl:=[⟨115,1,.fld,some 135⟩]}
set_option maxHeartbeats 4000000 in
theorem zmC (s:Str) (hneed:s.length≤1000000∧(yI s).1=0):Spc Tryz.prog 113 [.v (.one (.ptr 0 0))] [.pack [.obj 149 [(.p (.str s))]]] (.ret (.v (.agg [(.p (.str ((yI s).2.1.word))),(.p (.list .fld ((yI s).2.1.params)))]))) [.pack [.obj 149 [(.p (.str ((yI s).2.2)))]]]:=by
  obtain⟨hl,hc⟩:=hneed
  generalize hr:yI s=r at hc
  obtain⟨c,⟨w,ps⟩,z⟩:=r
  simp only at hc
  subst hc
  refine spcG zi mixed Tryz.func113 (by kernel_rfl) { cfgM with lend:=[140],keep:=some [0,2,3,4,6]} [wI,wH,xh,xg,qR,qQ,qP,qO,Y7,Y6,RG,RF,RN,RJ] (by kernel_rfl) ?_
  intro I X hI hX
  refine zh (let y3:=I.hid (α:=(List UInt8)) (skS s);let y11:=I.hid (α:=(List UInt8)) (tokE y3);let y0:=I.hid (α:=(List UInt8)) (ite (Eq (zZ y11 (UInt8.ofNat (Int.toNat (47:Int)))) Bool.true) (List.drop 1 y11) y11);let y4:=I.hid (α:=(List UInt8)) (lowS (I.hid (α:=(List UInt8)) (tokS y3)));let y6:=I.hid (α:=(List UInt8)) (lowS (I.hid (α:=(List UInt8)) (tokS y0)));let y1:=I.few (I.add (I.len (α:=UInt8) y4) (I.len (α:=UInt8) (I.app (α:=UInt8) (Array.toList (List.toArray ([47]:List UInt8))) y6))) 1000000000;let y2:=I.few (I.add (I.len (α:=UInt8) (Array.toList (List.toArray ([47]:List UInt8)))) (I.len (α:=UInt8) y6)) 1000000000;let y5:=I.hid (α:=(Prop)) (LE.le (List.length (I.hid (α:=(List UInt8)) (tokS y0))) 1000000);let y12:=I.hid (α:=(List UInt8)) (tokE y0);let y7:=I.hid (α:=(List UInt8)) (skS y12);let y8:=I.hid (α:=(Prop)) (And (LE.le (List.length y0) 1000000) (Not (Eq (tokS y0) ([]:List UInt8))));let y9:=I.hid (α:=(Prop)) (And (LE.le (List.length y0) 1000000) (Eq (tokS y0) ([]:List UInt8)));let y10:=I.hid (α:=Bool) (Decidable.decide (Eq (tokS y0) ([]:List UInt8)));.need (I.hid (α:=(Prop)) True) (.br (I.hid (α:=Bool) (Decidable.decide (Eq (tokS y3) ([]:List UInt8)))) (.need (I.hid (α:=(Prop)) (And (LE.le (List.length y3) 1000000) (Eq (tokS y3) ([]:List UInt8)))) (.fin (.pan (.ifc 145 .false [(.int .i64 5)])) [(.pack [(.obj 149 [(.p (.str y11))])])])) (.need (I.hid (α:=(Prop)) (And (LE.le (List.length y3) 1000000) (Not (Eq (tokS y3) ([]:List UInt8))))) (.need (I.hid (α:=(Prop)) (LE.le (List.length (I.hid (α:=(List UInt8)) (tokS y3))) 1000000)) (.need (I.hid (α:=(Prop)) (And (LE.le (0:Int) (47:Int)) (LE.le (47:Int) (255:Int)))) (.br (I.hid (α:=Bool) (zZ y11 (UInt8.ofNat (Int.toNat (47:Int))))) (.both (.br y10 (.need y9 (.fin (.pan (.ifc 145 .false [(.int .i64 5)])) [(.pack [(.obj 149 [(.p (.str y12))])])])) (.need y8 (.need y5 (.need y2 (.need y1 (.need (I.hid (α:=(Prop)) True) (.code 0 [1,1,1,1,0,1,0] ⟨[(3,(.v (.one (.ptr 2 0)))),(2,(.v (.one (.ptr 1 0)))),(0,(.v (.one (.ptr 0 0))))],[(.pack [(.obj 149 [(.p (.str y7))])]),(.obj 115 [(.p (.str ([]:List UInt8))),.nilS]),(.obj 115 [(.p (.str (I.app (α:=UInt8) y4 (I.app (α:=UInt8) (Array.toList (List.toArray ([47]:List UInt8))) y6)))),.nilS])],60,none⟩))))))) (.br y10 (.need y9 (.fin (.pan (.ifc 145 .false [(.int .i64 5)])) [(.pack [(.obj 149 [(.p (.str y12))])])])) (.need y8 (.both (.need y5 (.need y2 (.need y1 (.need (I.hid (α:=(Prop)) True) (.code 0 [1,1,1,1,0,1,0] ⟨[(3,(.v (.one (.ptr 2 0)))),(2,(.v (.one (.ptr 1 0)))),(0,(.v (.one (.ptr 0 0))))],[(.pack [(.obj 149 [(.p (.str y7))])]),(.obj 115 [(.p (.str ([]:List UInt8))),.nilS]),(.obj 115 [(.p (.str (I.app (α:=UInt8) y4 (I.app (α:=UInt8) (Array.toList (List.toArray ([47]:List UInt8))) y6)))),.nilS])],60,none⟩))))) (.need y5 (.need y2 (.need y1 (.need (I.hid (α:=(Prop)) True) (.code 0 [1,1,1,1,0,1,0] ⟨[(3,(.v (.one (.ptr 2 0)))),(2,(.v (.one (.ptr 1 0)))),(0,(.v (.one (.ptr 0 0))))],[(.pack [(.obj 149 [(.p (.str y7))])]),(.obj 115 [(.p (.str ([]:List UInt8))),.nilS]),(.obj 115 [(.p (.str (I.app (α:=UInt8) y4 (I.app (α:=UInt8) (Array.toList (List.toArray ([47]:List UInt8))) y6)))),.nilS])],60,none⟩))))))))) (.need (I.hid (α:=(Prop)) True) (.code 0 [1,1,1,1,0,1,0] ⟨[(3,(.v (.one (.ptr 2 0)))),(2,(.v (.one (.ptr 1 0)))),(0,(.v (.one (.ptr 0 0))))],[(.pack [(.obj 149 [(.p (.str (I.hid (α:=(List UInt8)) (skS y0))))])]),(.obj 115 [(.p (.str ([]:List UInt8))),.nilS]),(.obj 115 [(.p (.str y4)),.nilS])],60,none⟩)))))))) (by kernel_rfl) ?_
  simp only [zl]
  have hh: ∀ {α:Type} (x:α),I.hid x=x:=by subst hI;intros;rfl
  have key : ∀ (w0 t0:Str),t0.length≤1000000→((medL (t0.length+1) t0 []).1,(⟨w0,(medL (t0.length+1) t0 []).2.1⟩:Med),(medL (t0.length+1) t0 []).2.2)=(0,⟨w,ps⟩,z)→Ok Tryz.prog X (fun o h=>o=AOut.ret (D.v (V0.agg [C.p (P.str w),C.p (P.list U.fld ps)]))∧h=[HO.pack [HO.obj 149 [C.p (P.str z)]]]) (leaf I tab { cfgM with lend:=[140],keep:=some [0,2,3,4,6]} [⟨xP Tryz.f113,finK I tab { cfgM with lend:=[140],keep:=some [0,2,3,4,6]} 1 Tryz.f113⟩] 0 [1,1,1,1,0,1,0] ⟨[(3,.v (.one (.ptr 2 0))),(2,.v (.one (.ptr 1 0))),(0,.v (.one (.ptr 0 0)))],[.pack [.obj 149 [(.p (.str t0))]],.obj 115 [(.p (.str ([]))),.nilS],.obj 115 [(.p (.str w0)),.nilS]],60,none⟩):=by
    intro w0 t0 ht0 hm
    simp only [Prod.mk.injEq,Med.mk.injEq] at hm
    obtain⟨hm1,⟨rfl,hm2⟩,hm3⟩:=hm
    refine zA hI zi mixed [wI,wH,xh,xg,qR,qQ,qP,qO,Y7,Y6,RG,RF,RN,RJ] hX [0,2,3] (fun(g:Str × List Fld)=>match g with|(t,l)=>t.length≤1000000∧l.length≤8∧∃ n,t.length<n∧medL n t l=(0,ps,z)) (fun(g:Str × List Fld)=>match g with|(t,l)=>⟨[(0,.v (.one (.ptr 0 0))),(2,.v (.one (.ptr 1 0))),(3,.v (.one (.ptr 2 0)))],[.pack [.obj 149 [(.p (.str t))]],.pack [.obj 115 [(.p (.str ([]))),(.row 1)],.row .fld 135 ([])],.pack [.obj 115 [(.p (.str w0)),(.row 1)],.row .fld 135 l]],60,none⟩) (fun(g:Str × List Fld)=>match g with|(t,l)=>t.length) (t0,[]) (by kernel_rfl) (by kernel_rfl) ?_ ?_
    · exact⟨ht0,by simp,t0.length+1,by omega,by rw [← hm1,← hm2,← hm3]⟩
    rintro⟨t,l⟩ ⟨ht,hl8,n,hn,hm⟩ A hA
    clear hm1 hm2 hm3 hr
    simp only at hA
    refine zh (let y0:=I.hid (α:=(List UInt8)) (ite (Eq (zZ t (UInt8.ofNat (Int.toNat (59:Int)))) Bool.true) (List.drop 1 t) t);let y1:=I.hid (α:=(List UInt8)) (skS y0);let y2:=I.hid (α:=(List UInt8)) (Go.Ab.Fld.name (Prod.fst (Prod.snd (parM y1))));let y3:=I.hid (α:=(List UInt8)) (Prod.snd (Prod.snd (parM y1)));let y4:=I.bnot (I.seq y0 (Array.toList (List.toArray ([]:List UInt8))));let y5:=I.hid (α:=Bool) (Prod.snd (getP l y2));let y6:=I.hid (α:=(List UInt8)) (Go.Ab.Fld.value (Prod.fst (Prod.snd (parM y1))));let y7:=I.ieq (I.len (α:=Go.Ab.Fld) l) 8;.need (I.hid (α:=(Prop)) (And (LE.le (0:Int) (59:Int)) (LE.le (59:Int) (255:Int)))) (.br (I.hid (α:=Bool) (zZ t (UInt8.ofNat (Int.toNat (59:Int))))) (.need (I.hid (α:=(Prop)) True) (.br (I.hid (α:=Bool) (Decidable.decide (Eq (Prod.fst (parM y1)) (0:Int)))) (.need (I.hid (α:=(Prop)) (And (LE.le (List.length y1) 1000000) (Eq (Prod.fst (parM y1)) (0:Int)))) (.need (I.hid (α:=(Prop)) (LE.le (List.length l) 1000000)) (.br (I.hid (α:=Bool) y5) (.need (I.hid (α:=(Prop)) (Eq y5 Bool.true)) (.fin (.pan (.ifc 145 .false [(.int .i64 9)])) [(.pack [(.obj 149 [(.p (.str y3))])])])) (.need (I.hid (α:=(Prop)) (Eq y5 Bool.false)) (.br (I.hid (α:=Bool) y7) (.need (I.hid (α:=(Prop)) (Eq y7 Bool.true)) (.fin (.pan (.ifc 145 .false [(.int .i64 8)])) [(.pack [(.obj 149 [(.p (.str y3))])])])) (.need (I.hid (α:=(Prop)) (Eq y7 Bool.false)) (.need (I.few (I.add (I.len (α:=Go.Ab.Fld) l) (I.len (α:=Go.Ab.Fld) ([(Go.Ab.Fld.mk y2 y6)]:List Go.Ab.Fld))) 100000000) (.need (I.hid (α:=(Prop)) True) (.need (A ⟨[(0,(.v (.one (.ptr 0 0)))),(2,(.v (.one (.ptr 1 0)))),(3,(.v (.one (.ptr 2 0))))],[(.pack [(.obj 149 [(.p (.str (I.hid (α:=(List UInt8)) (skS y3))))])]),(.pack [(.obj 115 [(.p (.str ([]:List UInt8))),(.row 1)]),(.row .fld 135 ([]:List Go.Ab.Fld))]),(.pack [(.obj 115 [(.p (.str w0)),(.row 1)]),(.row .fld 135 (I.app (α:=Go.Ab.Fld) l ([(Go.Ab.Fld.mk y2 y6)]:List Go.Ab.Fld)))])],60,none⟩) .qed))))))))) (.need (I.hid (α:=(Prop)) (And (LE.le (List.length y1) 1000000) (Not (Eq (Prod.fst (parM y1)) (0:Int))))) (.fin (.pan (.ifc 145 .false [(.int .i64 (I.hid (α:=Int) (Prod.fst (parM y1))))])) [(.pack [(.obj 149 [(.p (.str y3))])])])))) (.br (I.hid (α:=Bool) y4) (.need (I.hid (α:=(Prop)) (Eq y4 Bool.true)) (.fin (.pan (.ifc 145 .false [(.int .i64 5)])) [(.pack [(.obj 149 [(.p (.str y0))])])])) (.need (I.hid (α:=(Prop)) (Eq y4 Bool.false)) (.fin (.ret (.v (.agg [(.p (.str w0)),(.p (.list .fld l))]))) [(.pack [(.obj 149 [(.p (.str y0))])])]))))) (by kernel_rfl) ?_
    simp only [zl]
    cases n with
    |zero=>omega
    |succ n=>
    simp only [medL] at hm
    have hgo:=hA (skS (parM (skS (t.drop 1))).2.2,l++[(parM (skS (t.drop 1))).2.1])
    have hpl:=zdM (skS (t.drop 1))
    have hpc:=zaH (skS (t.drop 1))
    have hsl:=wZ (t.drop 1)
    have hsr:=wZ (parM (skS (t.drop 1))).2.2
    rw [List.length_drop] at hsl
    clear hA
    simp only [hh,show UInt8.ofNat (Int.toNat 59)=59 from rfl]
    subst hI
    by_cases h59:zZ t 59=true
    · have hpos:=TN h59
      simp only [h59,if_true] at hm ⊢
      have hgo2:(parM (skS (t.drop 1))).1=0→(getP l (parM (skS (t.drop 1))).2.1.name).2=false→¬ l.length=8→_:=fun h1 h2 h3=>hgo ⟨by simp only;omega,by simp only [List.length_append,List.length_cons,List.length_nil];omega,n,by simp only;omega,by
        rw [if_neg (fun h=>h h1),if_neg (by rw [h2];exact Bool.false_ne_true),if_neg h3] at hm;exact hm⟩ (by simp only;omega)
      clear hgo
      simp only at hgo2
      generalize parM (skS (t.drop 1))=p at *
      obtain⟨pc,⟨pn,pv⟩,pr⟩:=p
      simp only at hgo2 hm hpl hpc hsl hsr ⊢
      simp only [nrmA,nrmB,nrlB,reduceCtorEq,List.length_cons,List.length_nil]
      (repeat' (first|refine And.intro ?_ ?_|intro _))<;>first|omega|exact True.intro|exact False.elim ‹False›|skip
      all_goals first
        |omega
        |assumption
        | (by_cases hpz:pc=0
           · exact hpz
           · rw [if_pos hpz] at hm;simp only [Prod.mk.injEq] at hm;exact hm.1)
        |exact hgo2 ‹_› ‹_› (by omega)
        |(exfalso;rw [if_neg (fun h=>h ‹pc=0›),if_neg (by rw [‹(getP l pn).2=false›];exact Bool.false_ne_true),if_pos (by omega)] at hm;simp_all;done)
        |(rw [if_neg (fun h=>h ‹pc=0›),if_neg (by rw [‹(getP l pn).2=false›];exact Bool.false_ne_true),if_pos (by omega)] at hm;simp_all;done)
        |(exfalso;simp_all;done)
        |(simp_all;done)
        |trace_state
    · have h59:zZ t 59=false:=by simpa using h59
      simp only [h59,Bool.false_eq_true,if_false] at hm ⊢
      simp only [nrmA,nrmB,nrlB,reduceCtorEq,List.length_cons,List.length_nil]
      (repeat' (first|refine And.intro ?_ ?_|intro _))<;>first|omega|exact True.intro|exact False.elim ‹False›|skip
      all_goals first
        |omega
        |(exfalso;simp_all;done)
        |(simp_all;done)
        |(by_cases hte:t=[]<;>simp_all;done)
        |trace_state
  have hl1:=wZ s
  have hl2:=wP (skS s)
  have hl3:=wO (skS s)
  simp only [hh,show UInt8.ofNat (Int.toNat 47)=47 from rfl,decide_eq_true_eq,decide_eq_false_iff_not]
  unfold yI medA at hr
  generalize skS s=t at *
  have hl4:=wO ((tokE t).drop 1)
  have hl5:=wP ((tokE t).drop 1)
  rw [List.length_drop] at hl4 hl5
  (repeat' (first|refine And.intro ?_ ?_|intro _))
  all_goals try first|trivial|assumption|omega|(exfalso;simp_all;done)|(subst hI;(try(simp only [nrmA,nrmB,nrlB,reduceCtorEq,List.length_cons,List.length_nil,xB]))<;>first|omega|(simp_all [xB];done)|(simp_all [xB];omega))
  all_goals(have happ: ∀ a b:Str,I.app (α:=UInt8) a b=a++b:=by subst hI;intros;rfl)
  all_goals try simp only [happ]
  all_goals first
    | (rename_i q1 q2 q3
       rw [if_neg q1,if_pos q2] at hr
       simp only [q2,if_true] at q3 ⊢
       rw [if_neg q3] at hr
       have hsk:=wZ (tokE ((tokE t).drop 1))
       exact key _ _ (by omega) hr)
    | (rename_i q1 q2
       rw [if_neg q1,if_neg (by simp [q2])] at hr
       simp only [q2,Bool.false_eq_true,if_false] at ⊢
       have hsk:=wZ (tokE t)
       exact key _ _ (by omega) hr)
    |trace_state
set_option maxHeartbeats 4000000 in
theorem zmB (s:Str) (hneed:s.length≤1000000∧¬ (yI s).1=0):Spc Tryz.prog 113 [.v (.one (.ptr 0 0))] [.pack [.obj 149 [(.p (.str s))]]] (.pan (.ifc 145 false [(.int .i64 ((yI s).1))])) [.pack [.obj 149 [(.p (.str ((yI s).2.2)))]]]:=by
  obtain⟨hl,hc⟩:=hneed
  generalize hr:yI s=r at hc
  obtain⟨c,⟨w,ps⟩,z⟩:=r
  simp only at hc
  refine spcG zi mixed Tryz.func113 (by kernel_rfl) { cfgM with lend:=[140],keep:=some [0,2,3,4,6]} [wI,wH,xh,xg,qR,qQ,qP,qO,Y7,Y6,RG,RF,RN,RJ] (by kernel_rfl) ?_
  intro I X hI hX
  refine zh (let y3:=I.hid (α:=(List UInt8)) (skS s);let y11:=I.hid (α:=(List UInt8)) (tokE y3);let y0:=I.hid (α:=(List UInt8)) (ite (Eq (zZ y11 (UInt8.ofNat (Int.toNat (47:Int)))) Bool.true) (List.drop 1 y11) y11);let y4:=I.hid (α:=(List UInt8)) (lowS (I.hid (α:=(List UInt8)) (tokS y3)));let y6:=I.hid (α:=(List UInt8)) (lowS (I.hid (α:=(List UInt8)) (tokS y0)));let y1:=I.few (I.add (I.len (α:=UInt8) y4) (I.len (α:=UInt8) (I.app (α:=UInt8) (Array.toList (List.toArray ([47]:List UInt8))) y6))) 1000000000;let y2:=I.few (I.add (I.len (α:=UInt8) (Array.toList (List.toArray ([47]:List UInt8)))) (I.len (α:=UInt8) y6)) 1000000000;let y5:=I.hid (α:=(Prop)) (LE.le (List.length (I.hid (α:=(List UInt8)) (tokS y0))) 1000000);let y12:=I.hid (α:=(List UInt8)) (tokE y0);let y7:=I.hid (α:=(List UInt8)) (skS y12);let y8:=I.hid (α:=(Prop)) (And (LE.le (List.length y0) 1000000) (Not (Eq (tokS y0) ([]:List UInt8))));let y9:=I.hid (α:=(Prop)) (And (LE.le (List.length y0) 1000000) (Eq (tokS y0) ([]:List UInt8)));let y10:=I.hid (α:=Bool) (Decidable.decide (Eq (tokS y0) ([]:List UInt8)));.need (I.hid (α:=(Prop)) True) (.br (I.hid (α:=Bool) (Decidable.decide (Eq (tokS y3) ([]:List UInt8)))) (.need (I.hid (α:=(Prop)) (And (LE.le (List.length y3) 1000000) (Eq (tokS y3) ([]:List UInt8)))) (.fin (.pan (.ifc 145 .false [(.int .i64 5)])) [(.pack [(.obj 149 [(.p (.str y11))])])])) (.need (I.hid (α:=(Prop)) (And (LE.le (List.length y3) 1000000) (Not (Eq (tokS y3) ([]:List UInt8))))) (.need (I.hid (α:=(Prop)) (LE.le (List.length (I.hid (α:=(List UInt8)) (tokS y3))) 1000000)) (.need (I.hid (α:=(Prop)) (And (LE.le (0:Int) (47:Int)) (LE.le (47:Int) (255:Int)))) (.br (I.hid (α:=Bool) (zZ y11 (UInt8.ofNat (Int.toNat (47:Int))))) (.both (.br y10 (.need y9 (.fin (.pan (.ifc 145 .false [(.int .i64 5)])) [(.pack [(.obj 149 [(.p (.str y12))])])])) (.need y8 (.need y5 (.need y2 (.need y1 (.need (I.hid (α:=(Prop)) True) (.code 0 [1,1,1,1,0,1,0] ⟨[(3,(.v (.one (.ptr 2 0)))),(2,(.v (.one (.ptr 1 0)))),(0,(.v (.one (.ptr 0 0))))],[(.pack [(.obj 149 [(.p (.str y7))])]),(.obj 115 [(.p (.str ([]:List UInt8))),.nilS]),(.obj 115 [(.p (.str (I.app (α:=UInt8) y4 (I.app (α:=UInt8) (Array.toList (List.toArray ([47]:List UInt8))) y6)))),.nilS])],60,none⟩))))))) (.br y10 (.need y9 (.fin (.pan (.ifc 145 .false [(.int .i64 5)])) [(.pack [(.obj 149 [(.p (.str y12))])])])) (.need y8 (.both (.need y5 (.need y2 (.need y1 (.need (I.hid (α:=(Prop)) True) (.code 0 [1,1,1,1,0,1,0] ⟨[(3,(.v (.one (.ptr 2 0)))),(2,(.v (.one (.ptr 1 0)))),(0,(.v (.one (.ptr 0 0))))],[(.pack [(.obj 149 [(.p (.str y7))])]),(.obj 115 [(.p (.str ([]:List UInt8))),.nilS]),(.obj 115 [(.p (.str (I.app (α:=UInt8) y4 (I.app (α:=UInt8) (Array.toList (List.toArray ([47]:List UInt8))) y6)))),.nilS])],60,none⟩))))) (.need y5 (.need y2 (.need y1 (.need (I.hid (α:=(Prop)) True) (.code 0 [1,1,1,1,0,1,0] ⟨[(3,(.v (.one (.ptr 2 0)))),(2,(.v (.one (.ptr 1 0)))),(0,(.v (.one (.ptr 0 0))))],[(.pack [(.obj 149 [(.p (.str y7))])]),(.obj 115 [(.p (.str ([]:List UInt8))),.nilS]),(.obj 115 [(.p (.str (I.app (α:=UInt8) y4 (I.app (α:=UInt8) (Array.toList (List.toArray ([47]:List UInt8))) y6)))),.nilS])],60,none⟩))))))))) (.need (I.hid (α:=(Prop)) True) (.code 0 [1,1,1,1,0,1,0] ⟨[(3,(.v (.one (.ptr 2 0)))),(2,(.v (.one (.ptr 1 0)))),(0,(.v (.one (.ptr 0 0))))],[(.pack [(.obj 149 [(.p (.str (I.hid (α:=(List UInt8)) (skS y0))))])]),(.obj 115 [(.p (.str ([]:List UInt8))),.nilS]),(.obj 115 [(.p (.str y4)),.nilS])],60,none⟩)))))))) (by kernel_rfl) ?_
  simp only [zl]
  have hh: ∀ {α:Type} (x:α),I.hid x=x:=by subst hI;intros;rfl
  have key : ∀ (w0 t0:Str),t0.length≤1000000→((medL (t0.length+1) t0 []).1,(⟨w0,(medL (t0.length+1) t0 []).2.1⟩:Med),(medL (t0.length+1) t0 []).2.2)=(c,⟨w,ps⟩,z)→Ok Tryz.prog X (fun o h=>o=AOut.pan (C.ifc 145 false [P.int IntKind.i64 c])∧h=[HO.pack [HO.obj 149 [C.p (P.str z)]]]) (leaf I tab { cfgM with lend:=[140],keep:=some [0,2,3,4,6]} [⟨xP Tryz.f113,finK I tab { cfgM with lend:=[140],keep:=some [0,2,3,4,6]} 1 Tryz.f113⟩] 0 [1,1,1,1,0,1,0] ⟨[(3,.v (.one (.ptr 2 0))),(2,.v (.one (.ptr 1 0))),(0,.v (.one (.ptr 0 0)))],[.pack [.obj 149 [(.p (.str t0))]],.obj 115 [(.p (.str ([]))),.nilS],.obj 115 [(.p (.str w0)),.nilS]],60,none⟩):=by
    intro w0 t0 ht0 hm
    simp only [Prod.mk.injEq,Med.mk.injEq] at hm
    obtain⟨hm1,⟨rfl,hm2⟩,hm3⟩:=hm
    refine zA hI zi mixed [wI,wH,xh,xg,qR,qQ,qP,qO,Y7,Y6,RG,RF,RN,RJ] hX [0,2,3] (fun(g:Str × List Fld)=>match g with|(t,l)=>t.length≤1000000∧l.length≤8∧∃ n,t.length<n∧medL n t l=(c,ps,z)) (fun(g:Str × List Fld)=>match g with|(t,l)=>⟨[(0,.v (.one (.ptr 0 0))),(2,.v (.one (.ptr 1 0))),(3,.v (.one (.ptr 2 0)))],[.pack [.obj 149 [(.p (.str t))]],.pack [.obj 115 [(.p (.str ([]))),(.row 1)],.row .fld 135 ([])],.pack [.obj 115 [(.p (.str w0)),(.row 1)],.row .fld 135 l]],60,none⟩) (fun(g:Str × List Fld)=>match g with|(t,l)=>t.length) (t0,[]) (by kernel_rfl) (by kernel_rfl) ?_ ?_
    · exact⟨ht0,by simp,t0.length+1,by omega,by rw [← hm1,← hm2,← hm3]⟩
    rintro⟨t,l⟩ ⟨ht,hl8,n,hn,hm⟩ A hA
    clear hm1 hm2 hm3 hr
    simp only at hA
    refine zh (let y0:=I.hid (α:=(List UInt8)) (ite (Eq (zZ t (UInt8.ofNat (Int.toNat (59:Int)))) Bool.true) (List.drop 1 t) t);let y1:=I.hid (α:=(List UInt8)) (skS y0);let y2:=I.hid (α:=(List UInt8)) (Go.Ab.Fld.name (Prod.fst (Prod.snd (parM y1))));let y3:=I.hid (α:=(List UInt8)) (Prod.snd (Prod.snd (parM y1)));let y4:=I.bnot (I.seq y0 (Array.toList (List.toArray ([]:List UInt8))));let y5:=I.hid (α:=Bool) (Prod.snd (getP l y2));let y6:=I.hid (α:=(List UInt8)) (Go.Ab.Fld.value (Prod.fst (Prod.snd (parM y1))));let y7:=I.ieq (I.len (α:=Go.Ab.Fld) l) 8;.need (I.hid (α:=(Prop)) (And (LE.le (0:Int) (59:Int)) (LE.le (59:Int) (255:Int)))) (.br (I.hid (α:=Bool) (zZ t (UInt8.ofNat (Int.toNat (59:Int))))) (.need (I.hid (α:=(Prop)) True) (.br (I.hid (α:=Bool) (Decidable.decide (Eq (Prod.fst (parM y1)) (0:Int)))) (.need (I.hid (α:=(Prop)) (And (LE.le (List.length y1) 1000000) (Eq (Prod.fst (parM y1)) (0:Int)))) (.need (I.hid (α:=(Prop)) (LE.le (List.length l) 1000000)) (.br (I.hid (α:=Bool) y5) (.need (I.hid (α:=(Prop)) (Eq y5 Bool.true)) (.fin (.pan (.ifc 145 .false [(.int .i64 9)])) [(.pack [(.obj 149 [(.p (.str y3))])])])) (.need (I.hid (α:=(Prop)) (Eq y5 Bool.false)) (.br (I.hid (α:=Bool) y7) (.need (I.hid (α:=(Prop)) (Eq y7 Bool.true)) (.fin (.pan (.ifc 145 .false [(.int .i64 8)])) [(.pack [(.obj 149 [(.p (.str y3))])])])) (.need (I.hid (α:=(Prop)) (Eq y7 Bool.false)) (.need (I.few (I.add (I.len (α:=Go.Ab.Fld) l) (I.len (α:=Go.Ab.Fld) ([(Go.Ab.Fld.mk y2 y6)]:List Go.Ab.Fld))) 100000000) (.need (I.hid (α:=(Prop)) True) (.need (A ⟨[(0,(.v (.one (.ptr 0 0)))),(2,(.v (.one (.ptr 1 0)))),(3,(.v (.one (.ptr 2 0))))],[(.pack [(.obj 149 [(.p (.str (I.hid (α:=(List UInt8)) (skS y3))))])]),(.pack [(.obj 115 [(.p (.str ([]:List UInt8))),(.row 1)]),(.row .fld 135 ([]:List Go.Ab.Fld))]),(.pack [(.obj 115 [(.p (.str w0)),(.row 1)]),(.row .fld 135 (I.app (α:=Go.Ab.Fld) l ([(Go.Ab.Fld.mk y2 y6)]:List Go.Ab.Fld)))])],60,none⟩) .qed))))))))) (.need (I.hid (α:=(Prop)) (And (LE.le (List.length y1) 1000000) (Not (Eq (Prod.fst (parM y1)) (0:Int))))) (.fin (.pan (.ifc 145 .false [(.int .i64 (I.hid (α:=Int) (Prod.fst (parM y1))))])) [(.pack [(.obj 149 [(.p (.str y3))])])])))) (.br (I.hid (α:=Bool) y4) (.need (I.hid (α:=(Prop)) (Eq y4 Bool.true)) (.fin (.pan (.ifc 145 .false [(.int .i64 5)])) [(.pack [(.obj 149 [(.p (.str y0))])])])) (.need (I.hid (α:=(Prop)) (Eq y4 Bool.false)) (.fin (.ret (.v (.agg [(.p (.str w0)),(.p (.list .fld l))]))) [(.pack [(.obj 149 [(.p (.str y0))])])]))))) (by kernel_rfl) ?_
    simp only [zl]
    cases n with
    |zero=>omega
    |succ n=>
    simp only [medL] at hm
    have hgo:=hA (skS (parM (skS (t.drop 1))).2.2,l++[(parM (skS (t.drop 1))).2.1])
    have hpl:=zdM (skS (t.drop 1))
    have hpc:=zaH (skS (t.drop 1))
    have hsl:=wZ (t.drop 1)
    have hsr:=wZ (parM (skS (t.drop 1))).2.2
    rw [List.length_drop] at hsl
    clear hA
    simp only [hh,show UInt8.ofNat (Int.toNat 59)=59 from rfl]
    subst hI
    by_cases h59:zZ t 59=true
    · have hpos:=TN h59
      simp only [h59,if_true] at hm ⊢
      have hgo2:(parM (skS (t.drop 1))).1=0→(getP l (parM (skS (t.drop 1))).2.1.name).2=false→¬ l.length=8→_:=fun h1 h2 h3=>hgo ⟨by simp only;omega,by simp only [List.length_append,List.length_cons,List.length_nil];omega,n,by simp only;omega,by
        rw [if_neg (fun h=>h h1),if_neg (by rw [h2];exact Bool.false_ne_true),if_neg h3] at hm;exact hm⟩ (by simp only;omega)
      clear hgo
      simp only at hgo2
      generalize parM (skS (t.drop 1))=p at *
      obtain⟨pc,⟨pn,pv⟩,pr⟩:=p
      simp only at hgo2 hm hpl hpc hsl hsr ⊢
      simp only [nrmA,nrmB,nrlB,reduceCtorEq,List.length_cons,List.length_nil]
      (repeat' (first|refine And.intro ?_ ?_|intro _))<;>first|omega|exact True.intro|exact False.elim ‹False›|skip
      all_goals first
        |omega
        |assumption
        | (by_cases hpz:pc=0
           · exact hpz
           · rw [if_pos hpz] at hm;simp only [Prod.mk.injEq] at hm;exact hm.1)
        |exact hgo2 ‹_› ‹_› (by omega)
        |(exfalso;rw [if_neg (fun h=>h ‹pc=0›),if_neg (by rw [‹(getP l pn).2=false›];exact Bool.false_ne_true),if_pos (by omega)] at hm;simp_all;done)
        |(rw [if_neg (fun h=>h ‹pc=0›),if_neg (by rw [‹(getP l pn).2=false›];exact Bool.false_ne_true),if_pos (by omega)] at hm;simp_all;done)
        |(exfalso;simp_all;done)
        |(simp_all;done)
        |trace_state
    · have h59:zZ t 59=false:=by simpa using h59
      simp only [h59,Bool.false_eq_true,if_false] at hm ⊢
      simp only [nrmA,nrmB,nrlB,reduceCtorEq,List.length_cons,List.length_nil]
      (repeat' (first|refine And.intro ?_ ?_|intro _))<;>first|omega|exact True.intro|exact False.elim ‹False›|skip
      all_goals first
        |omega
        |(exfalso;simp_all;done)
        |(simp_all;done)
        |(by_cases hte:t=[]<;>simp_all;done)
        |trace_state
  have hl1:=wZ s
  have hl2:=wP (skS s)
  have hl3:=wO (skS s)
  simp only [hh,show UInt8.ofNat (Int.toNat 47)=47 from rfl,decide_eq_true_eq,decide_eq_false_iff_not]
  unfold yI medA at hr
  generalize skS s=t at *
  have hl4:=wO ((tokE t).drop 1)
  have hl5:=wP ((tokE t).drop 1)
  rw [List.length_drop] at hl4 hl5
  (repeat' (first|refine And.intro ?_ ?_|intro _))
  all_goals try first|trivial|assumption|omega|(exfalso;simp_all;done)|(subst hI;(try(simp only [nrmA,nrmB,nrlB,reduceCtorEq,List.length_cons,List.length_nil,xB]))<;>first|omega|(simp_all [xB];done)|(simp_all [xB];omega))
  all_goals(have happ: ∀ a b:Str,I.app (α:=UInt8) a b=a++b:=by subst hI;intros;rfl)
  all_goals try simp only [happ]
  all_goals first
    | (rename_i q1 q2 q3
       rw [if_neg q1,if_pos q2] at hr
       simp only [q2,if_true] at q3 ⊢
       rw [if_neg q3] at hr
       have hsk:=wZ (tokE ((tokE t).drop 1))
       exact key _ _ (by omega) hr)
    | (rename_i q1 q2
       rw [if_neg q1,if_neg (by simp [q2])] at hr
       simp only [q2,Bool.false_eq_true,if_false] at ⊢
       have hsk:=wZ (tokE t)
       exact key _ _ (by omega) hr)
    |trace_state
def RI (I:Alg) (args:List D) (hp:List HO):Option CT:=match args,hp with
  |[.v (.one (.ptr 0 0))],[.pack [.obj 149 [(.p (.str s))]]]=>(fun(s:Str)=>(some (.br (I.hid (decide ((yI s).1=0))) (.one ⟨I.hid (s.length≤1000000∧(yI s).1=0),(.ret (.v (.agg [(.p (.str (I.hid ((yI s).2.1.word)))),(.p (.list .fld (I.hid ((yI s).2.1.params))))]))),[.pack [.obj 149 [(.p (.str (I.hid ((yI s).2.2))))]]]⟩) (.one ⟨I.hid (s.length≤1000000∧¬ (yI s).1=0),(.pan (.ifc 145 false [(.int .i64 (I.hid ((yI s).1)))])),[.pack [.obj 149 [(.p (.str (I.hid ((yI s).2.2))))]]]⟩)):Option CT)) s
  |_,_=>none
theorem zg1:zo Tryz.prog 113 (RI alg):=by
  intro args hp r h
  unfold RI at h
  split at h
  · cases h;exact⟨fun _ hn=>zmC _ hn,fun _ hn=>zmB _ hn⟩
  · cases h
def zk4:Know Tryz.prog:=⟨113,RI,zg1⟩
def zk3:Know Tryz.prog:=⟨113,fun I=>zu I (RI I),zf zg1⟩
end Go.Proofs.YtcclfkakcgnacaaGreatDoor
namespace Go.Proofs.YtcclfkakcgnacaaGreatDoor
open Go Go.Sep Go.Ab
set_option maxRecDepth 100000
theorem zmH (w:Str) (l:List Fld) (n:Int) (s:Str):SpcD Tryz.prog 112 [.ptr 0 0,.ptr 1 0] .ret [.obj 115 [.p (.str w),.p (.list .fld l)],.obj 3 [.p (.int .i64 n)],.pack [.obj 149 [.p (.str s)]]] .ret [.obj 115 [.p (.str w),.p (.list .fld l)],.obj 3 [.p (.int .i64 n)],.obj 149 [.p (.str s)]]:=by
  refine YV zi mixed Tryz.func112 (by kernel_rfl) { flat:=true} [] (rest:=_) rfl (by kernel_rfl) ?_
  intro I X hI hX
  refine zh (.fin (.ret (.tup [])) [(.obj 115 [(.p (.str w)),(.p (.list .fld l))]),(.obj 3 [(.p (.int .i64 n))]),(.obj 149 [(.p (.str s))])]) (by kernel_rfl) ?_
  simp only [zl]
  try trivial
theorem zmG (w:Str) (n k:Int) (s:Str):SpcD Tryz.prog 112 [.ptr 0 0,.ptr 1 0] (.pan (.ifc 145 false [.int .i64 k])) [.obj 115 [.p (.str w),.nilS],.obj 3 [.p (.int .i64 n)],.pack [.obj 149 [.p (.str s)]]] .ret [.obj 115 [.p (.str []),.nilS],.obj 3 [.p (.int .i64 k)],.obj 149 [.p (.str s)]]:=by
  refine YV zi mixed Tryz.func112 (by kernel_rfl) { flat:=true} [] (rest:=_) rfl (by kernel_rfl) ?_
  intro I X hI hX
  refine zh (.fin (.ret (.tup [])) [(.obj 115 [(.p (.str ([]:List UInt8))),.nilS]),(.obj 3 [(.p (.int .i64 k))]),(.obj 149 [(.p (.str s))])]) (by kernel_rfl) ?_
  simp only [zl]
  try trivial
def znP:Door Tryz.prog where
  g:=112
  c :=fun _ m caps hp=>match m,caps,hp with
    |.ret,[.ptr 0 0,.ptr 1 0],[.obj 115 [.p (.str w),.p (.list .fld l)],.obj 3 [.p (.int .i64 n)],.pack [.obj 149 [.p (.str s)]]]=>some (True,.ret,[.obj 115 [.p (.str w),.p (.list .fld l)],.obj 3 [.p (.int .i64 n)],.obj 149 [.p (.str s)]])
    |.pan (.ifc 145 false [.int .i64 k]),[.ptr 0 0,.ptr 1 0],[.obj 115 [.p (.str w),.nilS],.obj 3 [.p (.int .i64 n)],.pack [.obj 149 [.p (.str s)]]]=>some (True,.ret,[.obj 115 [.p (.str []),.nilS],.obj 3 [.p (.int .i64 k)],.obj 149 [.p (.str s)]])
    |_,_,_=>none
  ok:=by
    intro m caps hp p m' hp' h _
    split at h
    · cases h;exact zmH _ _ _ _
    · cases h;exact zmG _ _ _ _
    · cases h
theorem zk2 (s:Str) (hneed:s.length≤1000000):Spc Tryz.prog 85 [.v (.one (.p (.str s)))] [] (.ret (.tup [(.agg [(.p (.str ((vO s).1.word))),(.p (.list .fld ((vO s).1.params)))]),(.one (.p (.int .i64 ((vO s).2))))])) []:=by
  generalize hr:vO s=r
  obtain⟨⟨w,ps⟩,c⟩:=r
  unfold vO at hr
  refine zme zi mixed Tryz.func85 (by kernel_rfl) { cfgM with keep:=some [0,2,3,4]} [Xz,Xy,zk4,zk3] znP (by kernel_rfl) ?_
  intro I X hI hX
  refine zh (.need (I.hid (α:=(Prop)) (LE.le (List.length s) 1000000)) (.br (I.bnot (I.hid (α:=Bool) (vG s))) (.fin (.ret (.tup [(.agg [(.p (.str ([]:List UInt8))),(.p (.list .fld ([]:List Go.Ab.Fld)))]),(.one (.p (.int .i64 3)))])) []) (.br (I.hid (α:=Bool) (Decidable.decide (Eq (Prod.fst (yI s)) (0:Int)))) (.need (I.hid (α:=(Prop)) (And (LE.le (List.length s) 1000000) (Eq (Prod.fst (yI s)) (0:Int)))) (.need True (.fin (.ret (.tup [(.agg [(.p (.str (I.hid (α:=(List UInt8)) (Go.Ab.Med.word (Prod.fst (Prod.snd (yI s))))))),(.p (.list .fld (I.hid (α:=(List Go.Ab.Fld)) (Go.Ab.Med.params (Prod.fst (Prod.snd (yI s)))))))]),(.one (.p (.int .i64 0)))])) []))) (.need (I.hid (α:=(Prop)) (And (LE.le (List.length s) 1000000) (Not (Eq (Prod.fst (yI s)) (0:Int))))) (.need True (.fin (.ret (.tup [(.agg [(.p (.str ([]:List UInt8))),(.p (.list .fld ([]:List Go.Ab.Fld)))]),(.one (.p (.int .i64 (I.hid (α:=Int) (Prod.fst (yI s))))))])) [])))))) (by kernel_rfl) ?_
  simp only [zl]
  subst hI
  simp only [nrmA,nrmB,nrlB,reduceCtorEq,V0.agg.injEq]
  (repeat' (first|refine And.intro ?_ ?_|intro _))<;>first|omega|exact True.intro|exact False.elim ‹False›|skip
  all_goals first|(simp_all;done)|trace_state
def Ym (I:Alg) (args:List D) (hp:List HO):Option CT:=match args,hp with
  |[.v (.one (.p (.str s)))],[]=>(fun(s:Str)=>(some (.one ⟨I.hid (s.length≤1000000),(.ret (.tup [(.agg [(.p (.str (I.hid ((vO s).1.word)))),(.p (.list .fld (I.hid ((vO s).1.params))))]),(.one (.p (.int .i64 (I.hid ((vO s).2)))))])),[]⟩):Option CT)) s
  |_,_=>none
theorem zaJ:zo Tryz.prog 85 (Ym alg):=by
  intro args hp r h
  unfold Ym at h
  split at h
  · cases h;exact fun hn=>zk2 _ hn
  · cases h
def wF:Know Tryz.prog:=⟨85,Ym,zaJ⟩
def wE:Know Tryz.prog:=⟨85,fun I=>zu I (Ym I),zf zaJ⟩
end Go.Proofs.YtcclfkakcgnacaaGreatDoor
namespace Go.Proofs.YtcclfkakcgnacaaGreatDoor
open Go Go.Sep Go.Ab
set_option maxRecDepth 100000
def uT (m:Str):Str→Int→Int
  |[],i=>if m.isPrefixOf [] then i else -1
  |x::b,i=>if m.isPrefixOf (x::b) then i else uT m b (i+1)
theorem zbq (m:Str): ∀ (b:Str) (i:Int),b.length<m.length→uT m b i= -1
  | [],i,h=>by
    cases m with
    |nil=>simp at h
    |cons y m=>simp [uT,List.isPrefixOf]
  | x ::b,i,h=>by
    have: ¬ m.isPrefixOf (x::b)=true:=fun hp=>by
      have:=(List.isPrefixOf_iff_prefix.1 hp).length_le;omega
    rw [uT,if_neg this]
    exact zbq m b _ (by simp at h;omega)
theorem findAt_step (m b:Str) (i:Nat) (h:i<b.length∨m=[]):uT m (b.drop i) i=if m=(b.drop i).take m.length then(i:Int) else uT m (b.drop (i+1)) (i+1:Nat):=by
  have hp:m.isPrefixOf (b.drop i)=true↔m=(b.drop i).take m.length:=by rw [List.isPrefixOf_iff_prefix,List.prefix_iff_eq_take]
  rcases h with h|h
  · rw [List.drop_eq_getElem_cons h] at hp ⊢
    rw [uT]
    by_cases hc:m.isPrefixOf (b[i]::b.drop (i+1))=true
    · rw [if_pos hc,if_pos (hp.1 hc)]
    · rw [if_neg hc,if_neg (fun e=>hc (hp.2 e))];rfl
  · subst h
    have h2:([]:Str).isPrefixOf (b.drop i)=true:=by cases b.drop i<;>rfl
    rw [if_pos (hp.1 h2)]
    cases hd:b.drop i with
    |nil=>simp [uT]
    |cons y r=>simp [uT]
end Go.Proofs.YtcclfkakcgnacaaGreatDoor
namespace Go.Proofs.YtcclfkakcgnacaaGreatDoor
open Go Go.Sep Go.Ab
set_option maxRecDepth 100000
def cutB (s:Str) (c:UInt8):Str × Str × Bool:=
  if 0≤Lib.indexByte s c then(s.take (Lib.indexByte s c).toNat,s.drop ((Lib.indexByte s c).toNat+1),true) else(s,[],false)
def parseF (s:Str):Fld × Int:=
  if(cutB s 58).2.2=false then(⟨[],[]⟩,5)
  else if zj9 (cutB s 58).1=false then(⟨[],[]⟩,6)
  else if 40<(cutB s 58).1.length then(⟨[],[]⟩,4)
  else if vG (cutB s 58).2.1=false then(⟨[],[]⟩,3)
  else(⟨(cutB s 58).1,Lib.trimS (cutB s 58).2.1 [32,9]⟩,0)
def textF (f:Fld):Str × Int:=
  if zj9 f.name=false then([],6)
  else if 40<f.name.length∨200<f.name.length+2+f.value.length then([],4)
  else if vG f.value=false∨¬ Lib.trimS f.value [32,9]=f.value then([],3)
  else(f.name++[58,32]++f.value,0)
theorem cutB_len (s:Str) (c:UInt8):(cutB s c).1.length≤s.length∧(cutB s c).2.1.length≤s.length:=by
  unfold cutB
  split
  · simp only [List.length_take,List.length_drop];omega
  · simp
end Go.Proofs.YtcclfkakcgnacaaGreatDoor
namespace Go.Proofs.YtcclfkakcgnacaaGreatDoor
open Go Go.Sep Go.Ab
set_option maxRecDepth 100000
theorem Sj (c:UInt8): ∀ (s:Str) (i:Int),uT [c] s i=if Lib.indexByte s c= -1 then -1 else i+Lib.indexByte s c
  |[],i=>by simp [uT,Lib.indexByte,List.isPrefixOf]
  | x ::l,i=>by
    have ih:=Sj c l (i+1)
    have hb:=XB l c
    have hp:([c]:Str).isPrefixOf (x::l)=(c == x):=by simp [List.isPrefixOf]
    rw [uT,hp,ih,Lib.indexByte]
    by_cases h:x=c
    · subst h;simp
    · have h1:(c == x)=false:=by simpa using fun e=>h e.symm
      have h2:(x == c)=false:=by simpa using h
      simp only [h1,h2,Bool.false_eq_true,if_false]
      by_cases h3:Lib.indexByte l c= -1
      · simp [h3]
      · simp only [h3,beq_iff_eq,if_false]
        rw [if_neg (by omega)]
        omega
theorem findAt_cut (s:Str):uT [58] s 0=Lib.indexByte s 58:=by
  rw [Sj]
  split
  · rename_i h;rw [h]
  · omega
def uS (l:List Fld):Bool:=decide (100<l.length)||l.any fun f=>decide (1000<f.name.length+f.value.length)
theorem zm6 (l:List Fld) (hneed: ∀ f ∈ l,f.name.length≤140737488355328∧f.value.length≤140737488355328):Spc Tryz.prog 24 [.v (.one (.p (.list .fld l)))] [] (.ret (.v (.one (.p (.bool (uS l)))))) []:=by
  generalize hr:uS l=r
  refine spcG zi mixed Tryz.func24 (by kernel_rfl) { keep:=some [0,2,3]} [] (by kernel_rfl) ?_
  intro I X hI hX
  refine zh (.br (I.ilt 100 (I.len (α:=Go.Ab.Fld) l)) (.fin (.ret (.v (.one (.p (.bool Bool.true))))) []) (.code 0 [1,1,0,1,0] ⟨[(3,(.v (.one (.p (.int .i64 0))))),(2,(.v (.one (.p (.val (.bool .false)))))),(0,(.v (.one (.p (.list .fld l)))))],[],27,none⟩)) (by kernel_rfl) ?_
  simp only [zl]
  refine⟨fun c1=> ?_,fun c1=> ?_⟩
  · subst hI
    simp only [nrmA,nrmB] at c1
    simp only [nrmA,nrmB]
    rw [← hr,uS,decide_eq_true (by omega),Bool.true_or]
  have hl:l.length≤100:=by
    subst hI
    simp only [nrmA,nrmB] at c1
    omega
  have hr2:(l.any fun f=>decide (1000<f.name.length+f.value.length))=r:=by rw [← hr,uS,decide_eq_false (by omega),Bool.false_or]
  refine zA hI zi mixed [] hX [0,3] (fun(i:Nat)=>i≤l.length∧((l.drop i).any fun f=>decide (1000<f.name.length+f.value.length))=r) (fun(i:Nat)=>⟨[(0,.v (.one (.p (.list .fld l)))),(3,.v (.one (.p (.int .i64 i))))],[],27,none⟩) (fun(i:Nat)=>l.length - i) 0 (by kernel_rfl) (by kernel_rfl) ?_ ?_
  · exact⟨Nat.zero_le _,hr2⟩
  rintro i ⟨h1,h2⟩ A hA
  refine zh (let y0:=I.add (I.len (α:=UInt8) (Go.Ab.Fld.name (I.get (α:=Go.Ab.Fld) l (Go.Ab.Fld.mk ([]:List UInt8) ([]:List UInt8)) (Nat.cast i)))) (I.len (α:=UInt8) (Go.Ab.Fld.value (I.get (α:=Go.Ab.Fld) l (Go.Ab.Fld.mk ([]:List UInt8) ([]:List UInt8)) (Nat.cast i))));let y1:=I.inb (Nat.cast i) (I.len (α:=Go.Ab.Fld) l);.br (I.ilt (Nat.cast i) (I.len (α:=Go.Ab.Fld) l)) (.need y1 (.need y1 (.need y1 (.need y1 (.need (I.inr Go.IntKind.i64 y0) (.br (I.ilt 1000 y0) (.fin (.ret (.v (.one (.p (.bool Bool.true))))) []) (.need (I.inr Go.IntKind.i64 (I.add (Nat.cast i) 1)) (.need (A ⟨[(0,(.v (.one (.p (.list .fld l))))),(3,(.v (.one (.p (.int .i64 (I.add (Nat.cast i) 1))))))],[],27,none⟩) .qed)))))))) (.fin (.ret (.v (.one (.p (.bool Bool.false))))) [])) (by kernel_rfl) ?_
  simp only [zl]
  subst hI
  simp only [nrmA,nrmB]
  have hd:i<l.length→((l.drop i).any fun f=>decide (1000<f.name.length+f.value.length))=(decide (1000<(l.getD i ⟨[],[]⟩).name.length+(l.getD i ⟨[],[]⟩).value.length)||((l.drop (i+1)).any fun f=>decide (1000<f.name.length+f.value.length))):=fun h=>by
    rw [List.drop_eq_getElem_cons h,List.any_cons];simp [h]
  have hxl:i<l.length→(l.getD i ⟨[],[]⟩).name.length≤140737488355328∧(l.getD i ⟨[],[]⟩).value.length≤140737488355328:=fun h=>hneed _ (by
    rw [show l.getD i ⟨[],[]⟩=l[i] by simp [h]]
    exact List.getElem_mem h)
  generalize l.getD i ⟨[],[]⟩=x at *
  (repeat' (first|refine And.intro ?_ ?_|intro _))<;>first|omega|exact True.intro|exact False.elim ‹False›|skip
  all_goals first
    |(have:=hxl (by omega);omega)
    |(rw [← h2,hd (by omega),decide_eq_true (by omega),Bool.true_or])
    |(refine hA (i+1) ⟨by omega,?_⟩ (by omega);rw [← h2,hd (by omega),decide_eq_false (by omega),Bool.false_or])
    |(rw [← h2,List.drop_of_length_le (by omega)];rfl)
def WV (I:Alg) (args:List D) (hp:List HO):Option CT:=match args,hp with
  |[.v (.one (.p (.list .fld l)))],[]=>(fun(l:List Fld)=>(some (.one ⟨I.hid (∀ f ∈ l,f.name.length≤140737488355328∧f.value.length≤140737488355328),(.ret (.v (.one (.p (.bool (I.hid (uS l))))))),[]⟩):Option CT)) l
  |_,_=>none
theorem zeo:zo Tryz.prog 24 (WV alg):=by
  intro args hp r h
  unfold WV at h
  split at h
  · cases h;exact fun hn=>zm6 _ hn
  · cases h
def zen:Know Tryz.prog:=⟨24,WV,zeo⟩
def zem:Know Tryz.prog:=⟨24,fun I=>zu I (WV I),zf zeo⟩
end Go.Proofs.YtcclfkakcgnacaaGreatDoor
namespace Go.Proofs.YtcclfkakcgnacaaGreatDoor
open Go Go.Sep Go.Ab
set_option maxRecDepth 100000
end Go.Proofs.YtcclfkakcgnacaaGreatDoor
namespace Go.Proofs.YtcclfkakcgnacaaGreatDoor
open Go Go.Sep Go.Ab
set_option maxRecDepth 100000
def valsF (l:List Fld) (n:Str):List Str:=(l.filter fun f=>decide (lowS f.name=lowS n)).map (·.value)
theorem zn9 (l:List Fld) (n:Str) (hneed:l.length≤1000∧n.length≤1000000∧∀ f ∈ l,f.name.length≤1000000∧f.value.length≤1000000):Spc Tryz.prog 109 [.v (.one (.p (.list .fld l))),.v (.one (.p (.str n)))] [] (.ret (.v (.one (.row 0)))) [.row .str 9 ((valsF l n))]:=by
  refine spcG zi mixed Tryz.func109 (by kernel_rfl) { nr:=[5],keep:=some [0,1,4,5,7,8,9,10]} [wI,wH] (by kernel_rfl) ?_
  intro I X hI hX
  refine zh (.code 0 [1,1,0,1,0] ⟨[(10,(.v (.one (.p (.int .i64 0))))),(9,(.v (.one (.p (.int .i64 (I.len (α:=Go.Ab.Fld) l)))))),(8,(.v (.one (.p (.list .fld l))))),(5,(.v (.one (.row 0)))),(4,(.v (.one .nilS))),(0,(.v (.one (.p (.list .fld l))))),(1,(.v (.one (.p (.str n)))))],[(.row .str 9 ([]:List (List UInt8)))],27,none⟩) (by kernel_rfl) ?_
  simp only [zl]
  refine zA hI zi mixed [wI,wH] hX [0,1,5,8,9,10] (fun(g:Nat × List Str)=>match g with|(i,o)=>i≤l.length∧o=valsF (l.take i) n) (fun(g:Nat × List Str)=>match g with|(i,o)=>⟨[(0,.v (.one (.p (.list .fld l)))),(1,.v (.one (.p (.str n)))),(5,.v (.one (.row 0))),(8,.v (.one (.p (.list .fld l)))),(9,.v (.one (.p (.int .i64 ((I.len (α:=Fld) l)))))),(10,.v (.one (.p (.int .i64 i))))],[.row .str 9 o],27,none⟩) (fun(g:Nat × List Str)=>match g with|(i,o)=>l.length - i) (0,[]) (by kernel_rfl) (by kernel_rfl) ?_ ?_
  · exact⟨Nat.zero_le _,rfl⟩
  rintro⟨i,o⟩ ⟨h1,h2⟩ A hA
  simp only at hA
  refine zh (let y0:=I.get (α:=Go.Ab.Fld) l (Go.Ab.Fld.mk ([]:List UInt8) ([]:List UInt8)) (Nat.cast i);let y1:=I.inb (Nat.cast i) (I.len (α:=Go.Ab.Fld) l);let y2:=I.inr Go.IntKind.i64 (I.add (Nat.cast i) 1);.br (I.ilt (Nat.cast i) (I.len (α:=Go.Ab.Fld) l)) (.need y1 (.need y1 (.need (I.hid (α:=(Prop)) (LE.le (List.length (Go.Ab.Fld.name y0)) 1000000)) (.need (I.hid (α:=(Prop)) (LE.le (List.length n) 1000000)) (.br (I.seq (I.hid (α:=(List UInt8)) (lowS (Go.Ab.Fld.name y0))) (I.hid (α:=(List UInt8)) (lowS n))) (.need (I.few (I.add (I.len (α:=(List UInt8)) o) (I.len (α:=(List UInt8)) ([(Go.Ab.Fld.value y0)]:List (List UInt8)))) 100000000) (.need y2 (.need (A ⟨[(0,(.v (.one (.p (.list .fld l))))),(1,(.v (.one (.p (.str n))))),(5,(.v (.one (.row 0)))),(8,(.v (.one (.p (.list .fld l))))),(9,(.v (.one (.p (.int .i64 (I.len (α:=Go.Ab.Fld) l)))))),(10,(.v (.one (.p (.int .i64 (I.add (Nat.cast i) 1))))))],[(.row .str 9 (I.app (α:=(List UInt8)) o ([(Go.Ab.Fld.value y0)]:List (List UInt8))))],27,none⟩) .qed))) (.need y2 (.need (A ⟨[(0,(.v (.one (.p (.list .fld l))))),(1,(.v (.one (.p (.str n))))),(5,(.v (.one (.row 0)))),(8,(.v (.one (.p (.list .fld l))))),(9,(.v (.one (.p (.int .i64 (I.len (α:=Go.Ab.Fld) l)))))),(10,(.v (.one (.p (.int .i64 (I.add (Nat.cast i) 1))))))],[(.row .str 9 o)],27,none⟩) .qed))))))) (.fin (.ret (.v (.one (.row 0)))) [(.row .str 9 o)])) (by kernel_rfl) ?_
  simp only [zl]
  subst hI
  simp only [nrmA,nrmB]
  have hx:i<l.length→(l.getD i ⟨[],[]⟩) ∈ l:=fun h=>by rw [show l.getD i ⟨[],[]⟩=l[i] by simp [h]];exact List.getElem_mem h
  have hs:i<l.length→valsF (l.take (i+1)) n=if lowS (l.getD i ⟨[],[]⟩).name=lowS n then o++[(l.getD i ⟨[],[]⟩).value] else o:=fun h=>by
    rw [show l.getD i ⟨[],[]⟩=l[i] by simp [h],List.take_succ_eq_append_getElem h,h2]
    unfold valsF
    rw [List.filter_append,List.map_append]
    by_cases hc:lowS l[i].name=lowS n<;>simp [hc]
  have hol:o.length≤i:=by
    rw [h2]
    unfold valsF
    rw [List.length_map]
    exact Nat.le_trans (List.length_filter_le _ _) (by rw [List.length_take];omega)
  have hn:=fun h=>hneed.2.2 _ (hx h)
  generalize l.getD i ⟨[],[]⟩=x at *
  simp only [List.length_cons,List.length_nil]
  (repeat' (first|refine And.intro ?_ ?_|intro _))<;>first|omega|exact True.intro|exact False.elim ‹False›|skip
  all_goals first
    |(have:=hn (by omega);omega)
    |exact hA (i+1,_) ⟨by simp only;omega,by simp only;rw [hs (by omega),if_pos (by assumption)]⟩ (by simp only;omega)
    |exact hA (i+1,_) ⟨by simp only;omega,by simp only;rw [hs (by omega),if_neg (by assumption)]⟩ (by simp only;omega)
    |(rw [h2,List.take_of_length_le (by omega)])
def QD (I:Alg) (args:List D) (hp:List HO):Option CT:=match args,hp with
  |[.v (.one (.p (.list .fld l))),.v (.one (.p (.str n)))],[]=>(fun(l:List Fld) (n:Str)=>(some (.one ⟨I.hid (l.length≤1000∧n.length≤1000000∧∀ f ∈ l,f.name.length≤1000000∧f.value.length≤1000000),(.ret (.v (.one (.row 0)))),[.row .str 9 (I.hid ((valsF l n)))]⟩):Option CT)) l n
  |_,_=>none
theorem zh6:zo Tryz.prog 109 (QD alg):=by
  intro args hp r h
  unfold QD at h
  split at h
  · cases h;exact fun hn=>zn9 _ _ hn
  · cases h
def zlA:Know Tryz.prog:=⟨109,QD,zh6⟩
def zlz:Know Tryz.prog:=⟨109,fun I=>zu I (QD I),zf zh6⟩
theorem zf3 (l:List Fld) (n:Str) (hneed:l.length≤1000∧n.length≤1000000∧∀ f ∈ l,f.name.length≤1000000∧f.value.length≤1000000):Spc Tryz.prog 45 [.v (.one (.p (.list .fld l))),.v (.one (.p (.str n)))] [] (.ret (.v (.one (.row 0)))) [.row .str 9 ((valsF l n))]:=by
  refine spcG zi mixed Tryz.func45 (by kernel_rfl) { nr:=[5],keep:=some [0,1,4,5,6]} [Wi,Wh] (by kernel_rfl) ?_
  intro I X hI hX
  refine zh (.code 0 [1,1,0,1,0] ⟨[(6,(.v (.one (.p (.int .i64 0))))),(5,(.v (.one (.row 0)))),(4,(.v (.one .nilS))),(0,(.v (.one (.p (.list .fld l))))),(1,(.v (.one (.p (.str n)))))],[(.row .str 9 ([]:List (List UInt8)))],31,none⟩) (by kernel_rfl) ?_
  simp only [zl]
  refine zA hI zi mixed [Wi,Wh] hX [0,1,5,6] (fun(g:Nat × List Str)=>match g with|(i,o)=>i≤l.length∧o=valsF (l.take i) n) (fun(g:Nat × List Str)=>match g with|(i,o)=>⟨[(0,.v (.one (.p (.list .fld l)))),(1,.v (.one (.p (.str n)))),(5,.v (.one (.row 0))),(6,.v (.one (.p (.int .i64 i))))],[.row .str 9 o],31,none⟩) (fun(g:Nat × List Str)=>match g with|(i,o)=>l.length - i) (0,[]) (by kernel_rfl) (by kernel_rfl) ?_ ?_
  · exact⟨Nat.zero_le _,rfl⟩
  rintro⟨i,o⟩ ⟨h1,h2⟩ A hA
  simp only at hA
  refine zh (let y0:=I.get (α:=Go.Ab.Fld) l (Go.Ab.Fld.mk ([]:List UInt8) ([]:List UInt8)) (Nat.cast i);let y1:=I.inb (Nat.cast i) (I.len (α:=Go.Ab.Fld) l);let y2:=I.inr Go.IntKind.i64 (I.add (Nat.cast i) 1);.br (I.ilt (Nat.cast i) (I.len (α:=Go.Ab.Fld) l)) (.need y1 (.need y1 (.need (I.hid (α:=(Prop)) (LE.le (List.length (Go.Ab.Fld.name y0)) 1000000)) (.need (I.hid (α:=(Prop)) (LE.le (List.length n) 1000000)) (.br (I.seq (I.hid (α:=(List UInt8)) (lowS (Go.Ab.Fld.name y0))) (I.hid (α:=(List UInt8)) (lowS n))) (.need y1 (.need y1 (.need (I.few (I.add (I.len (α:=(List UInt8)) o) (I.len (α:=(List UInt8)) ([(Go.Ab.Fld.value y0)]:List (List UInt8)))) 100000000) (.need y2 (.need (A ⟨[(0,(.v (.one (.p (.list .fld l))))),(1,(.v (.one (.p (.str n))))),(5,(.v (.one (.row 0)))),(6,(.v (.one (.p (.int .i64 (I.add (Nat.cast i) 1))))))],[(.row .str 9 (I.app (α:=(List UInt8)) o ([(Go.Ab.Fld.value y0)]:List (List UInt8))))],31,none⟩) .qed))))) (.need y2 (.need (A ⟨[(0,(.v (.one (.p (.list .fld l))))),(1,(.v (.one (.p (.str n))))),(5,(.v (.one (.row 0)))),(6,(.v (.one (.p (.int .i64 (I.add (Nat.cast i) 1))))))],[(.row .str 9 o)],31,none⟩) .qed))))))) (.fin (.ret (.v (.one (.row 0)))) [(.row .str 9 o)])) (by kernel_rfl) ?_
  simp only [zl]
  subst hI
  simp only [nrmA,nrmB]
  have hx:i<l.length→(l.getD i ⟨[],[]⟩) ∈ l:=fun h=>by rw [show l.getD i ⟨[],[]⟩=l[i] by simp [h]];exact List.getElem_mem h
  have hs:i<l.length→valsF (l.take (i+1)) n=if lowS (l.getD i ⟨[],[]⟩).name=lowS n then o++[(l.getD i ⟨[],[]⟩).value] else o:=fun h=>by
    rw [show l.getD i ⟨[],[]⟩=l[i] by simp [h],List.take_succ_eq_append_getElem h,h2]
    unfold valsF
    rw [List.filter_append,List.map_append]
    by_cases hc:lowS l[i].name=lowS n<;>simp [hc]
  have hol:o.length≤i:=by
    rw [h2]
    unfold valsF
    rw [List.length_map]
    exact Nat.le_trans (List.length_filter_le _ _) (by rw [List.length_take];omega)
  have hn:=fun h=>hneed.2.2 _ (hx h)
  generalize l.getD i ⟨[],[]⟩=x at *
  simp only [List.length_cons,List.length_nil]
  (repeat' (first|refine And.intro ?_ ?_|intro _))<;>first|omega|exact True.intro|exact False.elim ‹False›|skip
  all_goals first
    |(have:=hn (by omega);omega)
    |exact hA (i+1,_) ⟨by simp only;omega,by simp only;rw [hs (by omega),if_pos (by assumption)]⟩ (by simp only;omega)
    |exact hA (i+1,_) ⟨by simp only;omega,by simp only;rw [hs (by omega),if_neg (by assumption)]⟩ (by simp only;omega)
    |(rw [h2,List.take_of_length_le (by omega)])
def uV (I:Alg) (args:List D) (hp:List HO):Option CT:=match args,hp with
  |[.v (.one (.p (.list .fld l))),.v (.one (.p (.str n)))],[]=>(fun(l:List Fld) (n:Str)=>(some (.one ⟨I.hid (l.length≤1000∧n.length≤1000000∧∀ f ∈ l,f.name.length≤1000000∧f.value.length≤1000000),(.ret (.v (.one (.row 0)))),[.row .str 9 (I.hid ((valsF l n)))]⟩):Option CT)) l n
  |_,_=>none
theorem Vj:zo Tryz.prog 45 (uV alg):=by
  intro args hp r h
  unfold uV at h
  split at h
  · cases h;exact fun hn=>zf3 _ _ hn
  · cases h
def zbV:Know Tryz.prog:=⟨45,uV,Vj⟩
def zbU:Know Tryz.prog:=⟨45,fun I=>zu I (uV I),zf Vj⟩
end Go.Proofs.YtcclfkakcgnacaaGreatDoor
namespace Go.Proofs.YtcclfkakcgnacaaGreatDoor
open Go Go.Sep Go.Ab
set_option maxRecDepth 100000
def oneF (l:List Str):Str × Int:=if l.length=0 then([],10) else if l.length=1 then(l.getD 0 [],0) else([],9)
theorem zn8 (l:List Fld) (n:Str) (hneed:l.length≤1000∧n.length≤1000000∧∀ f ∈ l,f.name.length≤1000000∧f.value.length≤1000000):Spc Tryz.prog 78 [.v (.one (.p (.list .fld l))),.v (.one (.p (.str n)))] [] (.ret (.tup [(.one (.p (.str ((oneF (valsF l n)).1)))),(.one (.p (.int .i64 ((oneF (valsF l n)).2))))])) []:=by
  generalize hr:oneF (valsF l n)=r
  obtain⟨a,d⟩:=r
  refine spcG zi mixed Tryz.func78 (by kernel_rfl) { keep:=some [0,1,4,5,6,11]} [zlA,zlz] (by kernel_rfl) ?_
  intro I X hI hX
  refine zh (let y0:=I.len (α:=(List UInt8)) (I.hid (α:=(List (List UInt8))) (valsF l n));.need (I.hid (α:=(Prop)) (And (LE.le (List.length l) 1000) (And (LE.le (List.length n) 1000000) (∀ (f:Fld),f ∈ l→List.length f.name≤1000000∧List.length f.value≤1000000)))) (.br (I.ieq y0 0) (.fin (.ret (.tup [(.one (.p (.str (Array.toList (List.toArray ([]:List UInt8)))))),(.one (.p (.int .i64 10)))])) []) (.br (I.ieq y0 1) (.need (I.inb 0 y0) (.need (I.inb 0 y0) (.fin (.ret (.tup [(.one (.p (.str (I.get (α:=(List UInt8)) (I.hid (α:=(List (List UInt8))) (valsF l n)) ([]:List UInt8) 0)))),(.one (.p (.int .i64 0)))])) []))) (.fin (.ret (.tup [(.one (.p (.str (Array.toList (List.toArray ([]:List UInt8)))))),(.one (.p (.int .i64 9)))])) [])))) (by kernel_rfl) ?_
  simp only [zl]
  subst hI
  simp only [nrmA,nrmB]
  unfold oneF at hr
  (repeat' (first|refine And.intro ?_ ?_|intro _))<;>first|omega|exact True.intro|exact False.elim ‹False›|skip
  all_goals first
    |assumption
    |exact(hneed.2.2 _ (by assumption)).1
    |exact(hneed.2.2 _ (by assumption)).2
    |(rw [if_pos (by omega)] at hr;cases hr;rfl)
    |(rw [if_neg (by omega),if_pos (by omega)] at hr;cases hr;rfl)
    |(rw [if_neg (by omega),if_neg (by omega)] at hr;cases hr;rfl)
def QC (I:Alg) (args:List D) (hp:List HO):Option CT:=match args,hp with
  |[.v (.one (.p (.list .fld l))),.v (.one (.p (.str n)))],[]=>(fun(l:List Fld) (n:Str)=>(some (.one ⟨I.hid (l.length≤1000∧n.length≤1000000∧∀ f ∈ l,f.name.length≤1000000∧f.value.length≤1000000),(.ret (.tup [(.one (.p (.str (I.hid ((oneF (valsF l n)).1))))),(.one (.p (.int .i64 (I.hid ((oneF (valsF l n)).2)))))])),[]⟩):Option CT)) l n
  |_,_=>none
theorem zh5:zo Tryz.prog 78 (QC alg):=by
  intro args hp r h
  unfold QC at h
  split at h
  · cases h;exact fun hn=>zn8 _ _ hn
  · cases h
def zh4:Know Tryz.prog:=⟨78,QC,zh5⟩
def zh3:Know Tryz.prog:=⟨78,fun I=>zu I (QC I),zf zh5⟩
theorem zmK (l:List Fld) (n:Str) (hneed:l.length≤1000∧n.length≤1000000∧∀ f ∈ l,f.name.length≤1000000∧f.value.length≤1000000):Spc Tryz.prog 20 [.v (.one (.p (.list .fld l))),.v (.one (.p (.str n)))] [] (.ret (.tup [(.one (.p (.str ((oneF (valsF l n)).1)))),(.one (.p (.int .i64 ((oneF (valsF l n)).2))))])) []:=by
  generalize hr:oneF (valsF l n)=r
  obtain⟨a,d⟩:=r
  refine spcG zi mixed Tryz.func20 (by kernel_rfl) { keep:=some [0,1,4,5,6]} [zbV,zbU] (by kernel_rfl) ?_
  intro I X hI hX
  refine zh (let y0:=I.len (α:=(List UInt8)) (I.hid (α:=(List (List UInt8))) (valsF l n));.need (I.hid (α:=(Prop)) (And (LE.le (List.length l) 1000) (And (LE.le (List.length n) 1000000) (∀ (f:Fld),f ∈ l→List.length f.name≤1000000∧List.length f.value≤1000000)))) (.br (I.ieq y0 0) (.fin (.ret (.tup [(.one (.p (.str (Array.toList (List.toArray ([]:List UInt8)))))),(.one (.p (.int .i64 10)))])) []) (.br (I.ilt 1 y0) (.fin (.ret (.tup [(.one (.p (.str (Array.toList (List.toArray ([]:List UInt8)))))),(.one (.p (.int .i64 9)))])) []) (.need (I.inb 0 y0) (.need (I.inb 0 y0) (.fin (.ret (.tup [(.one (.p (.str (I.get (α:=(List UInt8)) (I.hid (α:=(List (List UInt8))) (valsF l n)) ([]:List UInt8) 0)))),(.one (.p (.int .i64 0)))])) [])))))) (by kernel_rfl) ?_
  simp only [zl]
  subst hI
  simp only [nrmA,nrmB]
  unfold oneF at hr
  (repeat' (first|refine And.intro ?_ ?_|intro _))<;>first|omega|exact True.intro|exact False.elim ‹False›|skip
  all_goals first
    |assumption
    |exact(hneed.2.2 _ (by assumption)).1
    |exact(hneed.2.2 _ (by assumption)).2
    |(rw [if_pos (by omega)] at hr;cases hr;rfl)
    |(rw [if_neg (by omega),if_pos (by omega)] at hr;cases hr;rfl)
    |(rw [if_neg (by omega),if_neg (by omega)] at hr;cases hr;rfl)
def WI (I:Alg) (args:List D) (hp:List HO):Option CT:=match args,hp with
  |[.v (.one (.p (.list .fld l))),.v (.one (.p (.str n)))],[]=>(fun(l:List Fld) (n:Str)=>(some (.one ⟨I.hid (l.length≤1000∧n.length≤1000000∧∀ f ∈ l,f.name.length≤1000000∧f.value.length≤1000000),(.ret (.tup [(.one (.p (.str (I.hid ((oneF (valsF l n)).1))))),(.one (.p (.int .i64 (I.hid ((oneF (valsF l n)).2)))))])),[]⟩):Option CT)) l n
  |_,_=>none
theorem zdT:zo Tryz.prog 20 (WI alg):=by
  intro args hp r h
  unfold WI at h
  split at h
  · cases h;exact fun hn=>zmK _ _ hn
  · cases h
def oneOf__k:Know Tryz.prog:=⟨20,WI,zdT⟩
def oneOf__l:Know Tryz.prog:=⟨20,fun I=>zu I (WI I),zf zdT⟩
end Go.Proofs.YtcclfkakcgnacaaGreatDoor
namespace Go.Proofs.YtcclfkakcgnacaaGreatDoor
open Go Go.Sep Go.Ab
set_option maxRecDepth 100000
def numG (base:Int):Int→Str→Int × Bool
  |n,[]=>(n,true)
  |n,c::l=>if hexK c.toNat<0∨base≤hexK c.toNat then(0,false) else numG base (n * base+hexK c.toNat) l
def numA (s:Str) (base most:Int):Int × Bool:=if s=[]∨most<s.length then(0,false) else numG base 0 s
def top9:Nat→Nat
  |0=>0
  |i+1=>16 * top9 i+15
theorem zb1 {i:Nat} (h:i≤9):top9 i≤68719476735:=(by decide: ∀ i:Fin 10,top9 i.1≤68719476735) ⟨i,by omega⟩
theorem VU {base n:Int} {s:Str} {i:Nat} (h:i<s.length):numG base n (s.drop i)=if hexK (s.getD i 0).toNat<0∨base≤hexK (s.getD i 0).toNat then(0,false) else numG base (n * base+hexK (s.getD i 0).toNat) (s.drop (i+1)):=by
  rw [List.drop_eq_getElem_cons h,numG];simp [h]
theorem zcC {k:Int} (hk:0≤k∧k≤255): -1≤hexK k∧hexK k≤15:=zj3 (p:=fun k=> -1≤hexK k∧hexK k≤15) (by decide+kernel) hk
theorem zfH {k:Int} (hk:0≤k∧k≤255):([48,49,50,51,52,53,54,55,56,57]:Str).contains (UInt8.ofNat k.toNat)=decide (0≤hexK k∧hexK k<10):=
  zj3 (p:=fun k=>([48,49,50,51,52,53,54,55,56,57]:Str).contains (UInt8.ofNat k.toNat)=decide (0≤hexK k∧hexK k<10)) (by decide+kernel) hk
theorem zjF {k:Int} (hk:0≤k∧k≤255):(∀ j:Fin 16,lowC (UInt8.ofNat k.toNat)=([48,49,50,51,52,53,54,55,56,57,97,98,99,100,101,102]:Str).getD j.1 0→hexK k=(j.1:Int))∧((∀ j:Fin 16,¬ lowC (UInt8.ofNat k.toNat)=([48,49,50,51,52,53,54,55,56,57,97,98,99,100,101,102]:Str).getD j.1 0)→hexK k= -1):=
  zj3 (p:=fun k=>(∀ j:Fin 16,lowC (UInt8.ofNat k.toNat)=([48,49,50,51,52,53,54,55,56,57,97,98,99,100,101,102]:Str).getD j.1 0→hexK k=(j.1:Int))∧((∀ j:Fin 16,¬ lowC (UInt8.ofNat k.toNat)=([48,49,50,51,52,53,54,55,56,57,97,98,99,100,101,102]:Str).getD j.1 0)→hexK k= -1)) (by decide+kernel) hk
theorem zhf (s:Str):Spc Tryz.prog 111 [.v (.one (.p (.str s))),.v (.one (.p (.int .i64 10))),.v (.one (.p (.int .i64 9)))] [] (.ret (.tup [(.one (.p (.int .i64 ((numA s 10 9).1)))),(.one (.p (.bool ((numA s 10 9).2))))])) []:=by
  generalize hr:numA s 10 9=r
  refine spcG zi mixed Tryz.func111 (by kernel_rfl) { keep:=some [0,1,2,6,7,8,9,10,20,21]} [zed,zec] (by kernel_rfl) ?_
  intro I X hI hX
  refine zh (.br (I.seq s (Array.toList (List.toArray ([]:List UInt8)))) (.fin (.ret (.tup [(.one (.p (.int .i64 0))),(.one (.p (.bool Bool.false)))])) []) (.br (I.ilt 9 (I.len (α:=UInt8) s)) (.fin (.ret (.tup [(.one (.p (.int .i64 0))),(.one (.p (.bool Bool.false)))])) []) (.code 0 [1,1,1,0,1,0] ⟨[(21,(.v (.one (.p (.int .i64 0))))),(20,(.v (.one (.p (.int .i64 (I.len (α:=UInt8) s)))))),(8,(.v (.one (.p (.int .i64 0))))),(7,(.v (.one (.p (.val (.bool .false)))))),(6,(.v (.one (.p (.int .i64 0))))),(0,(.v (.one (.p (.str s))))),(1,(.v (.one (.p (.int .i64 10))))),(2,(.v (.one (.p (.int .i64 9)))))],[],42,none⟩))) (by kernel_rfl) ?_
  simp only [zl]
  have hne:s≠[]→¬ (9:Int)<s.length→numG 10 0 s=r:=fun h1 h2=>by rw [← hr,numA,if_neg (fun h=>by rcases h with h|h;exact h1 h;exact h2 h)]
  have hyes:(s=[]∨(9:Int)<s.length)→r=(0,false):=fun h=>by rw [← hr,numA,if_pos h]
  refine⟨fun c1=> ?_,fun c1=>⟨fun c2=> ?_,fun c2=> ?_⟩⟩
  · subst hI
    simp only [nrmA,nrmB] at c1
    rw [hyes (.inl c1)]
    simp
  · subst hI
    simp only [nrmA,nrmB] at c2
    rw [hyes (.inr c2)]
    simp
  have d1:s≠[]:=by
    subst hI
    simp only [nrmA,nrmB] at c1
    exact c1
  have d2:s.length≤9:=by
    subst hI
    simp only [nrmA,nrmB] at c2
    omega
  refine zA hI zi mixed [zed,zec] hX [0,1,2,8,20,21] (fun(g:Nat × Int)=>match g with|(i,n)=>i≤s.length∧0≤n∧n≤top9 i∧numG 10 n (s.drop i)=r) (fun(g:Nat × Int)=>match g with|(i,n)=>⟨[(0,.v (.one (.p (.str s)))),(1,.v (.one (.p (.int .i64 10)))),(2,.v (.one (.p (.int .i64 9)))),(8,.v (.one (.p (.int .i64 n)))),(20,.v (.one (.p (.int .i64 ((I.len (α:=UInt8) s)))))),(21,.v (.one (.p (.int .i64 i))))],[],42,none⟩) (fun(g:Nat × Int)=>match g with|(i,n)=>s.length - i) (0,0) (by kernel_rfl) (by kernel_rfl) ?_ ?_
  · exact⟨Nat.zero_le _,Int.le_refl _,Int.le_refl _,hne d1 (by omega)⟩
  rintro⟨i,n⟩ ⟨h1,h2,h3,h4⟩ A hA
  simp only at hA
  refine zh (let y0:=I.b2i (I.get (α:=UInt8) s 0 (Nat.cast i));let y1:=I.add (I.mul n 10) (I.hid (α:=Int) (hexK y0));.br (I.ilt (Nat.cast i) (I.len (α:=UInt8) s)) (.need (I.inb (Nat.cast i) (I.len (α:=UInt8) s)) (.need (I.hid (α:=(Prop)) (And (LE.le (0:Int) y0) (LE.le y0 (255:Int)))) (.br (I.ilt (I.hid (α:=Int) (hexK y0)) 0) (.fin (.ret (.tup [(.one (.p (.int .i64 0))),(.one (.p (.bool Bool.false)))])) []) (.br (I.ile 10 (I.hid (α:=Int) (hexK y0))) (.fin (.ret (.tup [(.one (.p (.int .i64 0))),(.one (.p (.bool Bool.false)))])) []) (.need (I.inr Go.IntKind.i64 (I.mul n 10)) (.need (I.inr Go.IntKind.i64 y1) (.need (I.inr Go.IntKind.i64 (I.add (Nat.cast i) 1)) (.need (A ⟨[(0,(.v (.one (.p (.str s))))),(1,(.v (.one (.p (.int .i64 10))))),(2,(.v (.one (.p (.int .i64 9))))),(8,(.v (.one (.p (.int .i64 y1))))),(20,(.v (.one (.p (.int .i64 (I.len (α:=UInt8) s)))))),(21,(.v (.one (.p (.int .i64 (I.add (Nat.cast i) 1))))))],[],42,none⟩) .qed)))))))) (.fin (.ret (.tup [(.one (.p (.int .i64 n))),(.one (.p (.bool Bool.true)))])) [])) (by kernel_rfl) ?_
  simp only [zl]
  subst hI
  simp only [nrmA,nrmB]
  have hb:=xu (s.getD i 0)
  have hk:=zcC hb
  have hd:i<s.length→_:=fun h=>VU (base:=10) (n:=n) h
  have ht:i≤9:=by omega
  have ht:=zb1 ht
  have ht2:top9 (i+1)=16 * top9 i+15:=rfl
  generalize s.getD i 0=x at *
  generalize hexK (x.toNat:Int)=k at *
  (repeat' (first|refine And.intro ?_ ?_|intro _))<;>first|omega|exact True.intro|exact False.elim ‹False›|skip
  all_goals first
    |omega
    |(rw [← h4,hd (by omega),if_pos (.inl (by omega))])
    |(rw [← h4,hd (by omega),if_pos (.inr (by omega))])
    |(refine hA (i+1,_) ⟨by simp only;omega,by simp only;omega,by simp only;omega,?_⟩ (by simp only;omega);rw [← h4,hd (by omega),if_neg (by omega)])
    |(rw [← h4,List.drop_of_length_le (by omega)];rfl)
def sF (I:Alg) (args:List D) (hp:List HO):Option CT:=match args,hp with
  |[.v (.one (.p (.str s))),.v (.one (.p (.int .i64 10))),.v (.one (.p (.int .i64 9)))],[]=>(fun(s:Str)=>(some (.one ⟨I.hid (True),(.ret (.tup [(.one (.p (.int .i64 (I.hid ((numA s 10 9).1))))),(.one (.p (.bool (I.hid ((numA s 10 9).2)))))])),[]⟩):Option CT)) s
  |_,_=>none
theorem VR:zo Tryz.prog 111 (sF alg):=by
  intro args hp r h
  unfold sF at h
  split at h
  · cases h;exact fun hn=>zhf _
  · cases h
def Zw:Know Tryz.prog:=⟨111,sF,VR⟩
def Zv:Know Tryz.prog:=⟨111,fun I=>zu I (sF I),zf VR⟩
theorem zhe (s:Str):Spc Tryz.prog 111 [.v (.one (.p (.str s))),.v (.one (.p (.int .i64 16))),.v (.one (.p (.int .i64 6)))] [] (.ret (.tup [(.one (.p (.int .i64 ((numA s 16 6).1)))),(.one (.p (.bool ((numA s 16 6).2))))])) []:=by
  generalize hr:numA s 16 6=r
  refine spcG zi mixed Tryz.func111 (by kernel_rfl) { keep:=some [0,1,2,6,7,8,9,10,20,21]} [zed,zec,Zw,Zv] (by kernel_rfl) ?_
  intro I X hI hX
  refine zh (.br (I.seq s (Array.toList (List.toArray ([]:List UInt8)))) (.fin (.ret (.tup [(.one (.p (.int .i64 0))),(.one (.p (.bool Bool.false)))])) []) (.br (I.ilt 6 (I.len (α:=UInt8) s)) (.fin (.ret (.tup [(.one (.p (.int .i64 0))),(.one (.p (.bool Bool.false)))])) []) (.code 0 [1,1,1,0,1,0] ⟨[(21,(.v (.one (.p (.int .i64 0))))),(20,(.v (.one (.p (.int .i64 (I.len (α:=UInt8) s)))))),(8,(.v (.one (.p (.int .i64 0))))),(7,(.v (.one (.p (.val (.bool .false)))))),(6,(.v (.one (.p (.int .i64 0))))),(0,(.v (.one (.p (.str s))))),(1,(.v (.one (.p (.int .i64 16))))),(2,(.v (.one (.p (.int .i64 6)))))],[],42,none⟩))) (by kernel_rfl) ?_
  simp only [zl]
  have hne:s≠[]→¬ (6:Int)<s.length→numG 16 0 s=r:=fun h1 h2=>by rw [← hr,numA,if_neg (fun h=>by rcases h with h|h;exact h1 h;exact h2 h)]
  have hyes:(s=[]∨(6:Int)<s.length)→r=(0,false):=fun h=>by rw [← hr,numA,if_pos h]
  refine⟨fun c1=> ?_,fun c1=>⟨fun c2=> ?_,fun c2=> ?_⟩⟩
  · subst hI
    simp only [nrmA,nrmB] at c1
    rw [hyes (.inl c1)]
    simp
  · subst hI
    simp only [nrmA,nrmB] at c2
    rw [hyes (.inr c2)]
    simp
  have d1:s≠[]:=by
    subst hI
    simp only [nrmA,nrmB] at c1
    exact c1
  have d2:s.length≤6:=by
    subst hI
    simp only [nrmA,nrmB] at c2
    omega
  refine zA hI zi mixed [zed,zec,Zw,Zv] hX [0,1,2,8,20,21] (fun(g:Nat × Int)=>match g with|(i,n)=>i≤s.length∧0≤n∧n≤top9 i∧numG 16 n (s.drop i)=r) (fun(g:Nat × Int)=>match g with|(i,n)=>⟨[(0,.v (.one (.p (.str s)))),(1,.v (.one (.p (.int .i64 16)))),(2,.v (.one (.p (.int .i64 6)))),(8,.v (.one (.p (.int .i64 n)))),(20,.v (.one (.p (.int .i64 ((I.len (α:=UInt8) s)))))),(21,.v (.one (.p (.int .i64 i))))],[],42,none⟩) (fun(g:Nat × Int)=>match g with|(i,n)=>s.length - i) (0,0) (by kernel_rfl) (by kernel_rfl) ?_ ?_
  · exact⟨Nat.zero_le _,Int.le_refl _,Int.le_refl _,hne d1 (by omega)⟩
  rintro⟨i,n⟩ ⟨h1,h2,h3,h4⟩ A hA
  simp only at hA
  refine zh (let y0:=I.b2i (I.get (α:=UInt8) s 0 (Nat.cast i));let y1:=I.add (I.mul n 16) (I.hid (α:=Int) (hexK y0));.br (I.ilt (Nat.cast i) (I.len (α:=UInt8) s)) (.need (I.inb (Nat.cast i) (I.len (α:=UInt8) s)) (.need (I.hid (α:=(Prop)) (And (LE.le (0:Int) y0) (LE.le y0 (255:Int)))) (.br (I.ilt (I.hid (α:=Int) (hexK y0)) 0) (.fin (.ret (.tup [(.one (.p (.int .i64 0))),(.one (.p (.bool Bool.false)))])) []) (.br (I.ile 16 (I.hid (α:=Int) (hexK y0))) (.fin (.ret (.tup [(.one (.p (.int .i64 0))),(.one (.p (.bool Bool.false)))])) []) (.need (I.inr Go.IntKind.i64 (I.mul n 16)) (.need (I.inr Go.IntKind.i64 y1) (.need (I.inr Go.IntKind.i64 (I.add (Nat.cast i) 1)) (.need (A ⟨[(0,(.v (.one (.p (.str s))))),(1,(.v (.one (.p (.int .i64 16))))),(2,(.v (.one (.p (.int .i64 6))))),(8,(.v (.one (.p (.int .i64 y1))))),(20,(.v (.one (.p (.int .i64 (I.len (α:=UInt8) s)))))),(21,(.v (.one (.p (.int .i64 (I.add (Nat.cast i) 1))))))],[],42,none⟩) .qed)))))))) (.fin (.ret (.tup [(.one (.p (.int .i64 n))),(.one (.p (.bool Bool.true)))])) [])) (by kernel_rfl) ?_
  simp only [zl]
  subst hI
  simp only [nrmA,nrmB]
  have hb:=xu (s.getD i 0)
  have hk:=zcC hb
  have hd:i<s.length→_:=fun h=>VU (base:=16) (n:=n) h
  have ht:i≤9:=by omega
  have ht:=zb1 ht
  have ht2:top9 (i+1)=16 * top9 i+15:=rfl
  generalize s.getD i 0=x at *
  generalize hexK (x.toNat:Int)=k at *
  (repeat' (first|refine And.intro ?_ ?_|intro _))<;>first|omega|exact True.intro|exact False.elim ‹False›|skip
  all_goals first
    |omega
    |(rw [← h4,hd (by omega),if_pos (.inl (by omega))])
    |(rw [← h4,hd (by omega),if_pos (.inr (by omega))])
    |(refine hA (i+1,_) ⟨by simp only;omega,by simp only;omega,by simp only;omega,?_⟩ (by simp only;omega);rw [← h4,hd (by omega),if_neg (by omega)])
    |(rw [← h4,List.drop_of_length_le (by omega)];rfl)
def sD (I:Alg) (args:List D) (hp:List HO):Option CT:=match args,hp with
  |[.v (.one (.p (.str s))),.v (.one (.p (.int .i64 16))),.v (.one (.p (.int .i64 6)))],[]=>(fun(s:Str)=>(some (.one ⟨I.hid (True),(.ret (.tup [(.one (.p (.int .i64 (I.hid ((numA s 16 6).1))))),(.one (.p (.bool (I.hid ((numA s 16 6).2)))))])),[]⟩):Option CT)) s
  |_,_=>none
theorem VQ:zo Tryz.prog 111 (sD alg):=by
  intro args hp r h
  unfold sD at h
  split at h
  · cases h;exact fun hn=>zhe _
  · cases h
def zcn:Know Tryz.prog:=⟨111,sD,VQ⟩
def zcm:Know Tryz.prog:=⟨111,fun I=>zu I (sD I),zf VQ⟩
theorem zm1 (k:Int) (hneed:0≤k∧k≤255):Spc Tryz.prog 44 [.v (.one (.p (.int .u8 k)))] [] (.ret (.v (.one (.p (.int .i64 (hexK k)))))) []:=by
  generalize hr:hexK k=r
  obtain⟨f1,f2⟩:=zjF hneed
  rw [hr] at f1 f2
  refine spcG zi mixed Tryz.func44 (by kernel_rfl) { keep:=some [0,2,3,4,5]} [Wi,Wh] (by kernel_rfl) ?_
  intro I X hI hX
  refine zh (.need (I.inr Go.IntKind.u8 k) (.need (I.hid (α:=(Prop)) (LE.le (List.length ([(I.i2b k)]:List UInt8)) 1000000)) (.code 0 [1,1,1,0,1,0] ⟨[(5,(.v (.one (.p (.int .i64 0))))),(4,(.v (.one (.p (.str (I.hid (α:=(List UInt8)) (lowS ([(I.i2b k)]:List UInt8)))))))),(3,(.v (.one (.p (.str (Array.toList (List.toArray ([48,49,50,51,52,53,54,55,56,57,97,98,99,100,101,102]:List UInt8)))))))),(2,(.v (.one (.p (.int .i64 0))))),(0,(.v (.one (.p (.int .u8 k)))))],[(.row .byte 5 ([(I.i2b k)]:List UInt8))],22,none⟩))) (by kernel_rfl) ?_
  simp only [zl]
  refine⟨(by rw [hI];simp only [nrmA,nrmB];omega),(by rw [hI,zcZ];simp),?_⟩
  generalize hu:I.hid (lowS [I.i2b k])=u
  have hu1:u=[lowC (UInt8.ofNat k.toNat)]:=by rw [← hu,hI];rfl
  generalize lowC (UInt8.ofNat k.toNat)=x at *
  refine zA hI zi mixed [Wi,Wh] hX [0,3,4,5] (fun(j:Nat)=>j≤16∧∀ j':Fin 16,j'.1<j→¬ x=([48,49,50,51,52,53,54,55,56,57,97,98,99,100,101,102]:Str).getD j'.1 0) (fun(j:Nat)=>⟨[(0,.v (.one (.p (.int .u8 k)))),(3,.v (.one (.p (.str ([48,49,50,51,52,53,54,55,56,57,97,98,99,100,101,102]))))),(4,.v (.one (.p (.str u)))),(5,.v (.one (.p (.int .i64 j))))],[],22,none⟩) (fun(j:Nat)=>16 - j) 0 (by kernel_rfl) (by kernel_rfl) ?_ ?_
  · exact⟨Nat.zero_le _,fun _ h=>absurd h (Nat.not_lt_zero _)⟩
  rintro j ⟨h1,h2⟩ A hA
  refine zh (let y0:=I.inr Go.IntKind.i64 (I.add (Nat.cast j) 1);.br (I.ilt (Nat.cast j) 16) (.need y0 (.need (I.cutb (Int.ofNat j) (I.add (Nat.cast j) 1) (I.len (α:=UInt8) ([48,49,50,51,52,53,54,55,56,57,97,98,99,100,101,102]:List UInt8))) (.br (I.seq u (I.cut (α:=UInt8) ([48,49,50,51,52,53,54,55,56,57,97,98,99,100,101,102]:List UInt8) (Int.ofNat j) (I.add (Nat.cast j) 1))) (.fin (.ret (.v (.one (.p (.int .i64 (Nat.cast j)))))) []) (.need y0 (.need (A ⟨[(0,(.v (.one (.p (.int .u8 k))))),(3,(.v (.one (.p (.str ([48,49,50,51,52,53,54,55,56,57,97,98,99,100,101,102]:List UInt8)))))),(4,(.v (.one (.p (.str u))))),(5,(.v (.one (.p (.int .i64 (I.add (Nat.cast j) 1))))))],[],22,none⟩) .qed))))) (.fin (.ret (.v (.one (.p (.int .i64 (Neg.neg (1:Int))))))) [])) (by kernel_rfl) ?_
  simp only [zl]
  subst hI
  simp only [nrmA,nrmB]
  generalize hH:([48,49,50,51,52,53,54,55,56,57,97,98,99,100,101,102]:Str)=H at *
  have hHl:H.length=16:=by rw [← hH];rfl
  have hcut:j<16→(H.drop j).take (((j:Int)+1).toNat - j)=[H.getD j 0]:=fun h=>by
    rw [show((j:Int)+1).toNat - j=1 by omega,List.drop_eq_getElem_cons (by omega),List.take_succ_cons,List.take_zero]
    simp [hHl,h]
  have hq:j<16→(u=(H.drop j).take (((j:Int)+1).toNat - j)↔x=H.getD j 0):=fun h=>by
    rw [hcut h,hu1];simp
  (repeat' (first|refine And.intro ?_ ?_|intro _))<;>first|omega|exact True.intro|exact False.elim ‹False›|skip
  all_goals first
    |omega
    |exact(f1 ⟨j,by omega⟩ ((hq (by omega)).1 ‹_›)).symm
    | (refine hA (j+1) ⟨by omega,fun j' hj'=> ?_⟩ (by omega)
       rcases Nat.lt_or_ge j'.1 j with hlt|hge
       · exact h2 j' hlt
       · rw [show j'.1=j by omega];exact fun e=>‹¬ u=_› ((hq (by omega)).2 e))
    |exact(f2 fun j'=>h2 j' (by have:=j'.2;omega)).symm
def WQ (I:Alg) (args:List D) (hp:List HO):Option CT:=match args,hp with
  |[.v (.one (.p (.int .u8 k)))],[]=>(fun(k:Int)=>(some (.one ⟨I.hid (0≤k∧k≤255),(.ret (.v (.one (.p (.int .i64 (I.hid (hexK k))))))),[]⟩):Option CT)) k
  |_,_=>none
theorem zeh:zo Tryz.prog 44 (WQ alg):=by
  intro args hp r h
  unfold WQ at h
  split at h
  · cases h;exact fun hn=>zm1 _ hn
  · cases h
def zeg:Know Tryz.prog:=⟨44,WQ,zeh⟩
def zef:Know Tryz.prog:=⟨44,fun I=>zu I (WQ I),zf zeh⟩
end Go.Proofs.YtcclfkakcgnacaaGreatDoor
