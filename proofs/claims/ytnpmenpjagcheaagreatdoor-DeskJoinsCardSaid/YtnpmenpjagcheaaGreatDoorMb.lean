/- Texts of this proof, one behind the other: AbI AbJ AbK AbL AbM AbN AbP AbO ShpD Tab Laid Wrap InZ. -/
import Derived.OrdersHeld
import Derived.Deep.LoopGhost
import Derived.Recover
import Derived.Handy
import Derived.KernelRfl
import Derived.Test.YtnpmenpjagcheaaGreatDoorProg
import Derived.WalkKit
import Derived.Lib.ItoaNum
import Derived.Lib.LaidTab
import Derived.Shelf.Vars
import Derived.HandedShaped
import Derived.WideShapes
import Derived.ChangeArms
import Derived.SizedLaws
import Derived.Test.YtnpmenpjagcheaaGreatDoorMa
set_option linter.all false
namespace Go.Ab
open Go Go.Sep
variable [Facts]
def Td (f:Nat→Option Nat):List Cap→Option (List Cap)
 |[]=>some []
 |.p x::cs=>match Td f cs with|some r=>some (.p x::r)|none=>none
 |.ptr k off::cs=>match f k,Td f cs with|some j,some r=>some (.ptr j off::r)|_,_=>none
def C.ren (f:Nat→Option Nat):C→C
 |.fn g caps=>match Td f caps with|some cs=>.fn g cs|none=>.any
 |.ptr k off=>match f k with|some j=>.ptr j off|none=>.any
 |.ept u k i off=>match f k with|some j=>.ept u j i off|none=>.any
 |.row k=>match f k with|some j=>.row j|none=>.any
 |.sub u k lo hi=>match f k with|some j=>.sub u j lo hi|none=>.any
 |c=>c
def V0.ren (f:Nat→Option Nat):V0→V0
 |.one c=>.one (c.ren f)
 |.agg cs=>.agg (cs.map (C.ren f))
def D.ren (f:Nat→Option Nat):D→D
 |.v x=>.v (x.ren f)
 |.tup l=>.tup (l.map (V0.ren f))
 |.bad=>.bad
def HO.ren (f:Nat→Option Nat):HO→HO
 |.obj T cs=>.obj T (cs.map (C.ren f))
 |o=>o
theorem ZH {S:Frz} {bs bs':List Value} {f:Nat→Option Nat} (hf: ∀ (k j:Nat) (v:Value),f k=some j→bs[k]? =some v→bs'[j]? =some v): ∀ {cs rs:List Cap} {vs:List Value},Td f cs=some rs→ZV S bs cs vs→ZV S bs' rs vs
 |[],rs,vs,h,hm=>by cases h;cases vs with|nil=>trivial|cons _ _=>exact hm.elim
 |.p x::cs,rs,[],h,hm=>hm.elim
 |.ptr k off::cs,rs,[],h,hm=>hm.elim
 | .p x::cs,rs,v::vs,h,hm=>by
   simp only [Td] at h
   split at h
   · rename_i r hr;cases h;exact⟨hm.1,ZH hf hr hm.2⟩
   · cases h
 | .ptr k off::cs,rs,v::vs,h,hm=>by
   simp only [Td] at h
   split at h
   · rename_i j r hj hr
     cases h;obtain⟨b,h1,h2⟩:=hm.1;exact⟨⟨b,hf _ _ _ hj h1,h2⟩,ZH hf hr hm.2⟩
   · cases h
theorem C.zG {S:Frz} {bs bs':List Value} {f:Nat→Option Nat} (hf: ∀ (k j:Nat) (v:Value),f k=some j→bs[k]? =some v→bs'[j]? =some v) (c:C) (v:Value) (h:MC S bs c v):MC S bs' (c.ren f) v:=by
 have h1:=h.one
 cases c with
 | ptr k off=>
   simp only [C.ren]
   split
   · rename_i j hj;obtain⟨b,h2,h3⟩:=h;exact⟨b,hf _ _ _ hj h2,h3⟩
   · exact h1
 | ept u k i off=>
   simp only [C.ren]
   split
   · rename_i j hj;obtain⟨ao,n,cap,h2,h3⟩:=h;exact⟨ao,n,cap,hf _ _ _ hj h2,h3⟩
   · exact h1
 | row k=>
   simp only [C.ren]
   split
   · rename_i j hj;exact⟨hf _ _ _ hj h.1,h.2⟩
   · exact h1
 | sub u k lo hi=>
   simp only [C.ren]
   split
   · rename_i j hj;obtain⟨ao,n,cap,h2,h3⟩:=h;exact⟨ao,n,cap,hf _ _ _ hj h2,h3⟩
   · exact h1
 |p x=>exact h
 |fpt u l i off=>exact h
 |nilS=>exact h
 | fn g caps=>
   simp only [C.ren]
   split
   · rename_i cs hcs;obtain⟨vs,h2,h3⟩:=h;exact⟨vs,ZH hf hcs h2,h3⟩
   · exact h1
 | ifc T agg cs=>
   cases agg with
   | false=>cases cs with
     |nil=>exact h.elim
     | cons p ps=>cases ps with
       |nil=>exact h
       |cons q qs=>exact h.elim
   |true=>exact h
 |any=>exact h
theorem V0.zG {S:Frz} {bs bs':List Value} {f:Nat→Option Nat} (hf: ∀ (k j:Nat) (v:Value),f k=some j→bs[k]? =some v→bs'[j]? =some v) (c:V0) (v:Value) (h:MV S bs c v):MV S bs' (c.ren f) v:=by
 cases c with
 |one c=>exact C.zG hf c v h
 |agg cs=>obtain⟨vs,h1,h2⟩:=h;exact⟨vs,h1.map (C.zG hf),h2⟩
theorem D.zG {S:Frz} {bs bs':List Value} {f:Nat→Option Nat} (hf: ∀ (k j:Nat) (v:Value),f k=some j→bs[k]? =some v→bs'[j]? =some v) (d:D) (v:Value) (h:MD S bs d v):MD S bs' (d.ren f) v:=by
 cases d with
 |v x=>exact V0.zG hf x v h
 |tup vs=>obtain⟨us,h1,h2⟩:=h;exact⟨us,h1.map (V0.zG hf),h2⟩
 |bad=>trivial
theorem HO.zG {S:Frz} {bs bs':List Value} {f:Nat→Option Nat} (hf: ∀ (k j:Nat) (v:Value),f k=some j→bs[k]? =some v→bs'[j]? =some v) {o:HO} {c:CO} (h:Rel S bs o c):Rel S bs' (o.ren f) c:=by
 cases h with
 |obj h=>exact .obj (h.map (C.zG hf))
 |row a b=>exact .row a b
 |pack a b=>exact .pack a b
 |abs a b=>exact .abs a b
 |gone=>exact .gone
def zpe (k n:Nat):Nat→Option Nat
 |0=>some k
 |i+1=>some (n+i)
def St.zmr (st:St) (k:Nat):St:=
 match nth st.hp k with
 | some o=>(match partsOf o with
   |h0::hs=> { st with hp:=setN st.hp k (h0.ren (zpe k st.hp.length))++hs.map (HO.ren (zpe k st.hp.length))}
   |[]=>st)
 |none=>st
theorem qU {X:Ctx} {st:St} {a:Act} {w:World} {S:Frz} {K:List CO} (hH:Heap X st.hp S K w) (hE:Env S (K.map CO.base) st a) (k:Nat):
  ∃ K',Ext (K.map CO.base) (K'.map CO.base)∧Heap X (st.zmr k).hp S K' w∧Env S (K'.map CO.base) (st.zmr k) a:=by
 unfold St.zmr
 split
 · rename_i o ho
   rw [yg] at ho;obtain⟨c,hc,hr⟩:=hH.2.2.1.get ho
   split
   case h_2=>exact⟨K,Ext.refl _,hH,hE⟩
   rename_i h0 hs hpo;obtain⟨L,rfl,hl,hrel⟩:=hr.parts hpo
   · cases L with
     |nil=>cases hl
     | cons c0 cs=>
       have hbs:(K.set k c0).map CO.base=K.map CO.base:=yY hc rfl
       have he:Ext (K.map CO.base) ((K.set k c0++cs).map CO.base):=by rw [List.map_append,hbs];exact Ext.append _ _
       have hlen:st.hp.length=K.length:=hH.2.2.1.1
       have hf: ∀ (i j:Nat) (v:Value),zpe k st.hp.length i=some j→((c0::cs).map CO.base)[i]? =some v→((K.set k c0++cs).map CO.base)[j]? =some v:=by
        intro i j v h1 h2
        cases i with
        | zero=>
          simp only [zpe,jw] at h1;subst h1;simp only [List.map_cons,List.getElem?_cons_zero,jw] at h2;subst h2;have hb:=zL hc;exact he _ _ hb
        | succ i=>
          simp only [zpe,jw] at h1;subst h1;simp only [List.map_cons,List.getElem?_cons_succ] at h2
          rw [List.map_append,jA (by simp [hlen])]
          simpa [hlen] using h2
       refine⟨K.set k c0++cs,he,⟨hH.1,fun i v h=>he i v (hH.2.1 i v h),?_,?_⟩,⟨hE.size,hE.defers.mono (Frz.le.refl S) he,fun t d h=>(hE.slots t d h).mono (Frz.le.refl S) he⟩⟩
       · refine⟨by simp [yJ,hlen];simpa using hl,fun i o c' h1 h2=> ?_⟩
         simp only [yJ] at h1
         rcases Nat.lt_or_ge i K.length with hi|hi
         · rw [jy (by simp [hlen];exact hi)] at h1
           rw [jy (by simp;exact hi)] at h2
           have h0r:=HO.zG hf (hrel 0 h0 c0 rfl rfl);exact((hH.2.2.1.mono (Frz.le.refl S) he).set k h0r).2 i o c' h1 h2
         · rw [jA (by simp [hlen];exact hi)] at h1
           rw [jA (by simp;exact hi)] at h2
           simp only [List.length_set,hlen] at h1 h2;rw [List.getElem?_map,Option.map_eq_some_iff] at h1;obtain⟨o',h3,rfl⟩:=h1
           have:=HO.zG hf (hrel (i - K.length+1) o' c' (by simpa using h3) (by simpa using h2))
           rw [hlen] at this;exact this
       · obtain⟨p,r,hp1,hp2,hp3⟩:=xE hc
         have H:=hH.2.2.2;rw [hp1,zB] at H;have H2:=H.perm (zD _ _ _ _ _);have H3:At w ((c0.chunk::CO.zy cs)++(frzC S::((CO.zy p++CO.zy r)++X.fr))):=At.many.1 H2;rw [hp3,zB,zB];refine H3.perm ?_;simp only [List.cons_append,CO.zy,jo];refine List.Perm.trans (l₂:=c0.chunk::frzC S::(CO.zy p++(CO.zy r++(CO.zy cs++X.fr)))) (List.Perm.cons _ ?_) ?_
         · refine List.perm_middle.trans (List.Perm.cons _ ?_)
           have:(CO.zy cs++((CO.zy p++CO.zy r)++X.fr)).Perm ((CO.zy p++CO.zy r)++(CO.zy cs++X.fr)):=by
            refine(List.Perm.append_left _ (List.Perm.refl _)).trans ?_;have h9:(CO.zy cs++(CO.zy p++CO.zy r)).Perm ((CO.zy p++CO.zy r)++CO.zy cs):=List.perm_append_comm;have h10:=h9.append_right X.fr;rw [jo (CO.zy cs),jo (CO.zy p++CO.zy r)] at h10;exact h10
           simpa [jo] using this
         · refine(List.Perm.swap _ _ _).trans (List.Perm.cons _ ?_)
           exact List.perm_middle.symm
 · exact⟨K,Ext.refl _,hH,hE⟩
def idx (q:Nat):List Nat→Nat→Option Nat
 |[],_=>none
 |x::l,n=>match Nat.beq x q with|true=>some n|false=>idx q l (n+1)
def sJ:List Nat→List HO→Option (List HO × List HO)
 |[],hp=>some ([],hp)
 | q::qs,hp=>match nth hp q with
   |none=>none
   |some o=>(match sJ qs (setN hp q .gone) with|some (os,hp')=>some (o::os,hp')|none=>none)
def zbv:List Cap→List Nat
 |[]=>[]
 |.ptr k _::cs=>k::zbv cs
 |.p _::cs=>zbv cs
def refs:List C→List Nat
 |[]=>[]
 |.fn _ caps::cs=>zbv caps++refs cs
 |.ptr k _::cs=>k::refs cs
 |.row k::cs=>k::refs cs
 |_::cs=>refs cs
def memN (k:Nat):List Nat→Bool
 |[]=>false
 |x::l=>match Nat.beq x k with|true=>true|false=>memN k l
def gather (hp:List HO):Nat→List Nat→List Nat→List Nat
 |0,_,seen=>seen
 |_+1,[],seen=>seen
 | f +1,k::work,seen=>match memN k seen with
   |true=>gather hp f work seen
   | false=>match nth hp k with
     |some (.obj _ cs)=>gather hp f (refs cs++work) (seen++[k])
     |some .gone=>gather hp f work seen
     |none=>gather hp f work seen
     |some _=>gather hp f work (seen++[k])
def St.shut0 (st:St) (k:Nat):St:=
 match nth st.hp k with
 | some (.obj _ _)=>
   let qs:=gather st.hp 60 [k] []
   match sJ qs st.hp with
   |some (os,hp')=> { st with hp:=setN hp' k (zfQ (os.map (HO.ren fun q=>idx q qs 0)))}
   |none=>st
 |_=>st
theorem ve {S:Frz} {bs:List Value} {w:World}: ∀ {qs:List Nat} {hp os hp':List HO} {K:List CO} {fr:List Chunk},sJ qs hp=some (os,hp')→K.map CO.base=bs→HR S bs hp K→At w (frzC S::(CO.zy K++fr))→
  ∃ Cs K',K'.map CO.base=bs∧HR S bs hp' K'∧At w (frzC S::(CO.zy K'++(CO.zy Cs++fr)))∧Cs.length=os.length∧os.length=qs.length∧(∀ (i q:Nat) (c:CO),qs[i]? =some q→Cs[i]? =some c→bs[q]? =some c.base)∧
    (∀ (i:Nat) (o:HO) (c:CO),os[i]? =some o→Cs[i]? =some c→Rel S bs o c)
 | [],hp,os,hp',K,fr,h,hb,hr,hat=>by
   cases h
   exact⟨[],K,hb,hr,hat,rfl,rfl,fun i q c h=>by simp at h,fun i o c h=>by simp at h⟩
 | q ::qs,hp,os,hp',K,fr,h,hb,hr,hat=>by
   simp only [sJ] at h
   split at h
   · cases h
   · rename_i o hno
     split at h
     · rename_i os' hp'' hrec
       cases h;rw [yg] at hno;obtain⟨c,hc,hrel⟩:=hr.get hno;obtain⟨p,r,hp1,hp2,hp3⟩:=xE hc
       have hbs:(K.set q (.gone c.base)).map CO.base=bs:=by rw [← hb];exact yY hc rfl
       have hat2:At w (frzC S::(CO.zy (K.set q (.gone c.base))++(c.chunk::fr))):=by
        rw [hp1,zB] at hat;have H2:=hat.perm (zD _ _ _ _ _);rw [hp3,zB];have H3:At w (frzC S::((CO.zy p++CO.zy r)++(c.chunk::fr))):=H2.perm (xB _ _ _ _);exact(At.void H3).perm (zD _ _ _ _ _).symm
       have hr2:HR S bs (setN hp q .gone) (K.set q (.gone c.base)):=by rw [yJ];exact hr.set q .gone
       obtain⟨Cs,K',h1,h2,h3,h4,h5,h6,h7⟩:=ve hrec hbs hr2 hat2
       refine⟨c::Cs,K',h1,h2,?_,by simp [h4],by simp [h5],fun i q' c' e1 e2=> ?_,fun i o' c' e1 e2=> ?_⟩
       · refine h3.perm (List.Perm.cons _ (List.Perm.append_left _ ?_))
         simp only [CO.zy,List.cons_append];exact List.perm_middle
       · cases i with
         |zero=>simp at e1 e2;subst e1;subst e2;rw [← hb];exact zL hc
         |succ i=>exact h6 i q' c' (by simpa using e1) (by simpa using e2)
       · cases i with
         |zero=>simp at e1 e2;subst e1;subst e2;exact hrel
         |succ i=>exact h7 i o' c' (by simpa using e1) (by simpa using e2)
     · cases h
theorem zeg {q:Nat}: ∀ {l:List Nat} {n j:Nat},idx q l n=some j→n≤j∧l[j - n]? =some q
 |[],n,j,h=>by cases h
 | x ::l,n,j,h=>by
   simp only [idx] at h
   split at h
   · rename_i hx
     cases h
     exact⟨jL _,by rw [Nat.sub_self];simp [jI hx]⟩
   · obtain⟨h1,h2⟩:=zeg h
     refine⟨by omega,?_⟩
     rw [show j - n=(j - (n+1))+1 by omega]
     simpa using h2
theorem vV (hp:List HO): ∀ (f:Nat) (work seen:List Nat) (q:Nat) (r:List Nat),seen=q::r→∃ r',gather hp f work seen=q::r'
 |0,_,seen,q,r,h=>⟨r,h⟩
 |f+1,[],seen,q,r,h=>⟨r,h⟩
 | f +1,k::work,seen,q,r,h=>by
   simp only [gather]
   split
   · exact vV hp f work seen q r h
   · split
     · exact vV hp f _ _ q (r++[k]) (by rw [h];rfl)
     · exact vV hp f work seen q r h
     · exact vV hp f work seen q r h
     · exact vV hp f _ _ q (r++[k]) (by rw [h];rfl)
theorem zat {X:Ctx} {st:St} {a:Act} {w:World} {S:Frz} {K:List CO} (hH:Heap X st.hp S K w) (hE:Env S (K.map CO.base) st a) (k:Nat):
  ∃ K',K'.map CO.base=K.map CO.base∧Heap X (st.shut0 k).hp S K' w∧Env S (K'.map CO.base) (st.shut0 k) a:=by
 unfold St.shut0
 split
 · rename_i T0 cs0 ho
   simp only
   split
   · rename_i os hp' hto
     obtain⟨Cs,K',h1,h2,h3,h4,h5,h6,h7⟩:=ve hto rfl hH.2.2.1 hH.2.2.2
     obtain⟨r',hq⟩: ∃ r',gather st.hp 60 [k] []=k::r':=by
      have:gather st.hp 60 [k] []=gather st.hp 59 (refs cs0++[]) ([]++[k]):=by
       rw [gather];simp only [memN];rw [ho]
      rw [this];exact vV st.hp 59 _ _ k [] rfl
     have hCs: ∃ c0 cs,Cs=c0::cs:=by
      cases Cs with
      |nil=>rw [hq] at h5;simp at h4 h5;omega
      |cons c0 cs=>exact⟨c0,cs,rfl⟩
     obtain⟨c0,cs,rfl⟩:=hCs
     have hb0:=h6 0 k c0 (by rw [hq];rfl) rfl
     have hklt:k<K'.length:=by
      have:=(jl.1 hb0).1
      rw [← h1] at this;simpa using this
     have hck:K'[k]? =some K'[k]:=jm hklt
     have hbk:(CO.pack (c0::cs)).base=(K'[k]).base:=by
      rw [← h1,zL hck] at hb0;simp only [jw] at hb0;exact hb0.symm
     have hbs:(K'.set k (.pack (c0::cs))).map CO.base=K.map CO.base:=by rw [yY hck hbk,h1]
     refine⟨K'.set k (.pack (c0::cs)),hbs,⟨hH.1,by rw [hbs];exact hH.2.1,?_,?_⟩,?_⟩
     · rw [hbs]
       simp only;rw [yJ]
       refine h2.set k (Rel.zfQ (.pack (by simp [h4]) fun i o c e1 e2=> ?_))
       rw [List.getElem?_map,Option.map_eq_some_iff] at e1;obtain⟨o',e3,rfl⟩:=e1;refine HO.zG (bs:=K.map CO.base) (fun q j v e4 e5=> ?_) (h7 i o' c e3 e2);obtain⟨_,e6⟩:=zeg e4;simp only [Nat.sub_zero] at e6
       have hjl:j<(c0::cs).length:=by rw [h4,h5];exact(jl.1 e6).1
       have:=h6 j q _ e6 (jm hjl);rw [e5] at this;cases this;rw [List.getElem?_map,jm hjl];rfl
     · obtain⟨p,r,hp1,hp2,hp3⟩:=xE hck
       rw [hp3,zB];rw [hp1,zB] at h3;have H4:=(h3.perm (zD _ _ _ _ _)).tail
       have H5:At w (CO.zy (c0::cs)++(frzC S::((CO.zy p++CO.zy r)++X.fr))):=by
        refine H4.perm ?_;refine List.Perm.trans ?_ List.perm_middle.symm;refine List.Perm.cons _ ?_;have h9:((CO.zy p++CO.zy r)++CO.zy (c0::cs)).Perm (CO.zy (c0::cs)++(CO.zy p++CO.zy r)):=List.perm_append_comm;have h10:=h9.append_right X.fr;rw [jo (CO.zy p++CO.zy r),jo (CO.zy (c0::cs))] at h10;exact h10
       have H6:At w ((CO.pack (c0::cs)).chunk::(frzC S::((CO.zy p++CO.zy r)++X.fr))):=At.many.2 H5;exact H6.perm (zD _ _ _ _ _).symm
     · rw [hbs];exact⟨hE.size,hE.defers,hE.slots⟩
   · exact⟨K,rfl,hH,hE⟩
 · exact⟨K,rfl,hH,hE⟩
structure SlE where
 T:Nat
 off:Nat
 u:U
 E:Option Nat
def fix1 (k:Nat) (e:SlE) (st:St):St:=
 match nth st.hp k with
 | some (.obj ty cs)=>match Nat.beq ty e.T,nth cs e.off with
   | true,some .nilS=>(match e.E with
     |some E=> { st with hp:=setN st.hp k (.obj ty (setN cs e.off (.row st.hp.length)))++[.row e.u E []]}
     |none=> { st with hp:=setN st.hp k (.obj ty (setN cs e.off (.p (.list e.u []))))})
   |_,_=>st
 |_=>st
def zlb (k:Nat):List SlE→St→St
 |[],st=>st
 |e::es,st=>zlb k es (fix1 k e st)
def zlc (sl:List SlE):List Nat→St→St
 |[],st=>st
 |k::ks,st=>zlc sl ks (zlb k sl st)
def zy1:List SlE→Bool
 |⟨T,_,_,_⟩::_=>Nat.beq T 1000000
 |[]=>false
def zxf:List SlE:=[⟨1000000,0,.byte,none⟩]
def zxM:List SlE→Bool
 |⟨T,_,_,_⟩::_=>Nat.beq T 1000002
 |[]=>false
def zus:List SlE:=[⟨1000002,0,.byte,none⟩]
def zvZ:List SlE→Nat→Bool
 |[],_=>false
 | ⟨T,off,_,_⟩::l,t=>match Nat.beq off 1000001 with
   |true=>(match Nat.beq T t with|true=>true|false=>zvZ l t)
   |false=>zvZ l t
def za2 (sl:List SlE):List Nat→St→St
 |[],st=>st
 | q::qs,st=>match nth st.hp q with
   |some (.obj t _)=>(match zvZ sl t with|true=>za2 sl qs (st.shut0 q)|false=>za2 sl qs st)
   |_=>za2 sl qs st
def zuu:List SlE→Bool
 |[]=>false
 |⟨_,off,_,_⟩::l=>match Nat.beq off 1000001 with|true=>true|false=>zuu l
def zs6 (sl:List SlE) (k:Nat) (st:St):St:=match zuu sl with
 |true=>za2 sl (gather st.hp 60 [k] []).reverse st
 |false=>st
def zpd:List SlE→Nat→Bool
 |[],_=>false
 | ⟨T,off,_,_⟩::l,t=>match Nat.beq off 1000003 with
   |true=>(match Nat.beq T t with|true=>true|false=>zpd l t)
   |false=>zpd l t
def St.znY (sl:List SlE) (st:St) (k:Nat):St:=(zs6 sl k (zlc sl (gather st.hp 60 [k] []) st)).shut0 k
def Ro (sl:List SlE):List Nat→St→St
 |[],st=>st
 |k::ks,st=>Ro sl ks (st.znY sl k)
def zxI (sl:List SlE) (st:St) (k:Nat):Option (List Nat):=match nth st.hp k with
 |some (.obj t cs)=>(match zpd sl t with|true=>some (refs cs)|false=>none)
 |_=>none
def St.shut (sl:List SlE) (st:St) (k:Nat):St:=match zy1 sl with
 |true=>st.zmr k
 | false=>match zxM sl with
   |true=>st
   | false=>match zxI sl st k with
     |some ks=>Ro sl ks st
     |none=>st.znY sl k
theorem Ye {X:Ctx} {hp:List HO} {w:World} {S:Frz} {K:List CO} (hH:Heap X hp S K w) (u:U) (E:Nat):
  Ext (K.map CO.base) ((K++[CO.row E u.size none 0 0 []]).map CO.base)∧Heap X (hp++[.row u E []]) S (K++[CO.row E u.size none 0 0 []]) w∧MC S ((K++[CO.row E u.size none 0 0 []]).map CO.base) (.row hp.length) (.slice none 0 0):=by
 have he:Ext (K.map CO.base) ((K++[CO.row E u.size none 0 0 []]).map CO.base):=by rw [List.map_append];exact Ext.append _ _
 refine⟨he,⟨hH.1,fun k v h=>he k v (hH.2.1 k v h),?_,?_⟩,?_⟩
 · exact(hH.2.2.1.mono (Frz.le.refl S) he).push (Rel.row (l:=([]:List u.den)) (Elts.nil S u).1 (Elts.nil S u).2)
 · exact At.more (hH.2.2.2.nilRow E u.size)
 · rw [hH.2.2.1.1]
   exact⟨yZ _ _,none,0,0,rfl⟩
theorem zmU {X:Ctx} {st:St} {a:Act} {w:World} {S:Frz} {K:List CO} (hH:Heap X st.hp S K w) (hE:Env S (K.map CO.base) st a) (k:Nat) (e:SlE):
  ∃ K',Ext (K.map CO.base) (K'.map CO.base)∧Heap X (fix1 k e st).hp S K' w∧Env S (K'.map CO.base) (fix1 k e st) a:=by
 unfold fix1
 split
 · rename_i ty cs ho
   split
   · rename_i hc
     rw [yg] at ho hc;obtain⟨c,hk,hr⟩:=hH.2.2.1.get ho;have hklt:=(jl.1 hk).1
     cases hr with
     | @obj _ b _ _ vs hm=>
       obtain⟨v,hv,hv0⟩:=hm.get hc;cases hv0
       have turn: ∀ {hp':List HO} {K':List CO} {x:C},Ext (K.map CO.base) (K'.map CO.base)→K'[k]? =some (.obj b ty vs)→Heap X hp' S K' w→MC S (K'.map CO.base) x (.slice none 0 0)→Heap X (hp'.set k (.obj ty (cs.set e.off x))) S K' w:=by
        intro hp' K' x hex hk' hH' hx;refine⟨hH'.1,hH'.2.1,?_,hH'.2.2.2⟩;have h1:=(hm.mono (Frz.le.refl S) hex).set e.off hx
        have e1:vs.set e.off (.slice none 0 0)=vs:=by
         apply List.ext_getElem?;intro j;rw [List.getElem?_set]
         split
         · rename_i hj;subst hj;split
           · exact hv.symm
           · rename_i hno;rw [List.getElem?_eq_none (by omega)]
         · rfl
        rw [e1] at h1;have h2:=hH'.2.2.1.set k (Rel.obj (b:=b) (T:=ty) h1)
        have e2:K'.set k (.obj b ty vs)=K':=by
         apply List.ext_getElem?;intro j;rw [List.getElem?_set]
         split
         · rename_i hj;subst hj;split
           · exact hk'.symm
           · rename_i hno;rw [List.getElem?_eq_none (by omega)]
         · rfl
        rw [e2] at h2;exact h2
       split
       · rename_i E hE2
         obtain⟨h1,h2,h3⟩:=Ye hH e.u E;refine⟨_,h1,?_,⟨hE.size,hE.defers.mono (Frz.le.refl S) h1,fun t d h=>(hE.slots t d h).mono (Frz.le.refl S) h1⟩⟩
         have h4:=turn h1 (by rw [jy hklt];exact hk) h2 h3
         have hlt2:=(jl.1 ho).1;rw [List.set_append_left _ _ hlt2] at h4;simp only;rw [yJ,yJ];exact h4
       · refine⟨K,Ext.refl _,?_,⟨hE.size,hE.defers,hE.slots⟩⟩
         simp only;rw [yJ,yJ];exact turn (Ext.refl _) hk hH (Ve e.u)
   · exact⟨K,Ext.refl _,hH,hE⟩
 · exact⟨K,Ext.refl _,hH,hE⟩
theorem TW {X:Ctx} {a:Act} {w:World} {S:Frz} (k:Nat): ∀ {sl:List SlE} {st:St} {K:List CO},Heap X st.hp S K w→Env S (K.map CO.base) st a→∃ K',Ext (K.map CO.base) (K'.map CO.base)∧Heap X (zlb k sl st).hp S K' w∧Env S (K'.map CO.base) (zlb k sl st) a
 |[],st,K,hH,hE=>⟨K,Ext.refl _,hH,hE⟩
 | e::es,st,K,hH,hE=>by
   obtain⟨K1,h1,h2,h3⟩:=zmU hH hE k e;obtain⟨K2,h4,h5,h6⟩:=TW k (sl:=es) h2 h3;exact⟨K2,h1.trans h4,h5,h6⟩
theorem TY {X:Ctx} {a:Act} {w:World} {S:Frz} {sl:List SlE}: ∀ {ks:List Nat} {st:St} {K:List CO},Heap X st.hp S K w→Env S (K.map CO.base) st a→∃ K',Ext (K.map CO.base) (K'.map CO.base)∧Heap X (zlc sl ks st).hp S K' w∧Env S (K'.map CO.base) (zlc sl ks st) a
 |[],st,K,hH,hE=>⟨K,Ext.refl _,hH,hE⟩
 | k::ks,st,K,hH,hE=>by
   obtain⟨K1,h1,h2,h3⟩:=TW k (sl:=sl) hH hE;obtain⟨K2,h4,h5,h6⟩:=TY (ks:=ks) h2 h3;exact⟨K2,h1.trans h4,h5,h6⟩
theorem qf {X:Ctx} {a:Act} {w:World} {S:Frz} {sl:List SlE}: ∀ {ks:List Nat} {st:St} {K:List CO},Heap X st.hp S K w→Env S (K.map CO.base) st a→∃ K',K'.map CO.base=K.map CO.base∧Heap X (za2 sl ks st).hp S K' w∧Env S (K'.map CO.base) (za2 sl ks st) a
 |[],st,K,hH,hE=>⟨K,rfl,hH,hE⟩
 | q ::qs,st,K,hH,hE=>by
   unfold za2
   split
   · split
     · obtain⟨K1,h1,h2,h3⟩:=zat hH hE q
       obtain⟨K2,h4,h5,h6⟩:=qf (ks:=qs) h2 h3;exact⟨K2,h4.trans h1,h5,h6⟩
     · exact qf (ks:=qs) hH hE
   · exact qf (ks:=qs) hH hE
theorem zix {X:Ctx} {a:Act} {w:World} {S:Frz} {sl:List SlE} {k:Nat} {st:St} {K:List CO} (hH:Heap X st.hp S K w) (hE:Env S (K.map CO.base) st a): ∃ K',K'.map CO.base=K.map CO.base∧Heap X (zs6 sl k st).hp S K' w∧Env S (K'.map CO.base) (zs6 sl k st) a:=by
 unfold zs6
 split
 · exact qf hH hE
 · exact⟨K,rfl,hH,hE⟩
theorem zas {X:Ctx} {st:St} {a:Act} {w:World} {S:Frz} {K:List CO} {sl:List SlE} (hH:Heap X st.hp S K w) (hE:Env S (K.map CO.base) st a) (k:Nat):
  ∃ K',Ext (K.map CO.base) (K'.map CO.base)∧Heap X (st.znY sl k).hp S K' w∧Env S (K'.map CO.base) (st.znY sl k) a:=by
 unfold St.znY;obtain⟨K1,h1,h2,h3⟩:=TY (sl:=sl) (ks:=gather st.hp 60 [k] []) hH hE;obtain⟨K3,h7,h8,h9⟩:=zix (sl:=sl) (k:=k) h2 h3;obtain⟨K2,h4,h5,h6⟩:=zat h8 h9 k
 exact⟨K2,by rw [h4,h7];exact h1,h5,h6⟩
theorem Xu {X:Ctx} {a:Act} {w:World} {S:Frz} {sl:List SlE}: ∀ (ks:List Nat) {st:St} {K:List CO},Heap X st.hp S K w→Env S (K.map CO.base) st a→
  ∃ K',Ext (K.map CO.base) (K'.map CO.base)∧Heap X (Ro sl ks st).hp S K' w∧Env S (K'.map CO.base) (Ro sl ks st) a
 |[],st,K,hH,hE=>⟨K,Ext.refl _,hH,hE⟩
 | k::ks,st,K,hH,hE=>by
   obtain⟨K1,h1,h2,h3⟩:=zas (sl:=sl) hH hE k;obtain⟨K2,h4,h5,h6⟩:=Xu ks h2 h3;exact⟨K2,h1.trans h4,h5,h6⟩
theorem Ut {X:Ctx} {st:St} {a:Act} {w:World} {S:Frz} {K:List CO} {sl:List SlE} (hH:Heap X st.hp S K w) (hE:Env S (K.map CO.base) st a) (k:Nat):
  ∃ K',Ext (K.map CO.base) (K'.map CO.base)∧Heap X (st.shut sl k).hp S K' w∧Env S (K'.map CO.base) (st.shut sl k) a:=by
 unfold St.shut
 split
 · exact qU hH hE k
 split
 · exact⟨K,Ext.refl _,hH,hE⟩
 split
 · exact Xu _ hH hE
 · exact zas hH hE k
def C.al (k n:Nat) (u:U) (len:Int):C→C
 |.row j=>match Nat.beq j k with|true=>.sub u n 0 len|false=>.row j
 |.sub u' j lo hi=>match Nat.beq j k with|true=>.sub u' n lo hi|false=>.sub u' j lo hi
 |.ept u' j i off=>match Nat.beq j k with|true=>.ept u' n i off|false=>.ept u' j i off
 |c=>c
def V0.al (k n:Nat) (u:U) (len:Int):V0→V0
 |.one c=>.one (c.al k n u len)
 |.agg cs=>.agg (cs.map (C.al k n u len))
def D.al (k n:Nat) (u:U) (len:Int):D→D
 |.v x=>.v (x.al k n u len)
 |.tup vs=>.tup (vs.map (V0.al k n u len))
 |.bad=>.bad
def HO.al (k n:Nat) (u:U) (len:Int):HO→HO
 |.obj T cs=>.obj T (cs.map (C.al k n u len))
 |o=>o
def ztB (k n:Nat) (u:U) (len:Int):List (Nat × D)→List (Nat × D)
 |[]=>[]
 |(t,d)::r=>(t,d.al k n u len)::ztB k n u len r
def ztg (I:Alg) (T:Tab) (st:St) (t ut:Nat) (s x:Operand):Option (Prop × St × St):=
 match T t,T ut,oneC (st.eval s),oneC (st.eval x) with
 | some ⟨.slice E,_,_,_,some u⟩,some ue,some (.row k),some cx=>(match ue.ty with
   |.int _=>none
   |.other=>none
   | _ =>match T E,zrX I st.hp u cx,nth st.hp k with
     | some ee,some m,some (.row u' E' l')=>(match Nat.ble ee.bytes 1000000,ee.zero,Nat.beq E E',zm2 u u' l' with
       |true,some _,true,some l=>some (I.few (I.add (I.len l) (I.len m)) 100000000,
        { st with env:=ztB k st.hp.length u (I.len l) st.env,hp:=setN (st.hp.map (HO.al k st.hp.length u (I.len l))) k .gone++[.row u E (I.app l m)]},
        { st with hp:=st.hp++[.row u E (I.app l m)]})
       |_,_,_,_=>none)
     |_,_,_=>none)
 |_,_,_,_=>none
section
variable {Pr:Program} {T:Tab} {X:Ctx} {st:St} {a:Act} {w:World} {S:Frz} {K:List CO}
theorem C.Xn {bs bs':List Value} (he:Ext bs bs') {k n:Nat} {u:U} {g:Addr} {L L2 cap cap2:Nat} (hk:bs[k]? =some (.slice (some g) L cap)) (hn:bs'[n]? =some (.slice (some g) L2 cap2)) (hL:L≤L2) (hc:L≤cap) (hm:cap≤maxLen) (hcc:cap≤cap2)
  (c:C) (v:Value) (h:MC S bs c v):MC S bs' (c.al k n u (L:Int)) v:=by
 have keep:MC S bs' c v:=MC.mono (Frz.le.refl S) he h
 cases c with
 | row j=>
   simp only [C.al]
   split
   · rename_i hj
     obtain rfl:=jI hj;obtain⟨h1,ao,n',cap',rfl⟩:=h;rw [hk] at h1;simp only [jw,Value.slice.injEq] at h1;obtain⟨rfl,rfl,rfl⟩:=h1
     refine⟨some g,L2,cap2,hn,Int.le_refl 0,by omega,some g,cap,?_,by omega,by omega,by omega,hm,(fun e=>by cases e),fun _=> ?_,fun _=>⟨rfl,hcc⟩⟩
     · simp
     · simp only [Int.toNat_zero,Nat.zero_mul,Option.map_some]
       congr 1
   · exact keep
 | sub u' j lo hi=>
   simp only [C.al]
   split
   · rename_i hj
     obtain rfl:=jI hj;obtain⟨ao,n',cap',h1,h2,h3,ao',cap3,h4,h5,h6,h7,h8,h9,h10⟩:=h;rw [hk] at h1;simp only [jw,Value.slice.injEq] at h1;obtain⟨rfl,rfl,rfl⟩:=h1
     exact⟨some g,L2,cap2,hn,h2,h3,ao',cap3,h4,h5,by omega,h7,h8,h9,h10.1,fun h0=>⟨(h10.2 h0).1,Nat.le_trans (h10.2 h0).2 hcc⟩⟩
   · exact keep
 | ept u' j i off=>
   simp only [C.al]
   split
   · rename_i hj
     obtain rfl:=jI hj;obtain⟨ao,n',cap',h1,h2,h3⟩:=h;rw [hk] at h1;simp only [jw,Value.slice.injEq] at h1;obtain⟨rfl,rfl,rfl⟩:=h1;exact⟨some g,L2,cap2,hn,h2,h3⟩
   · exact keep
 |_=>exact keep
theorem V0.Xn {bs bs':List Value} {k n:Nat} {u:U} {len:Int} (hf: ∀ c v,MC S bs c v→MC S bs' (c.al k n u len) v) (c:V0) (v:Value) (h:MV S bs c v):MV S bs' (c.al k n u len) v:=by
 cases c with
 |one c=>exact hf c v h
 |agg cs=>obtain⟨vs,h1,h2⟩:=h;exact⟨vs,h1.map hf,h2⟩
theorem D.Xn {bs bs':List Value} {k n:Nat} {u:U} {len:Int} (hf: ∀ c v,MC S bs c v→MC S bs' (c.al k n u len) v) {d:D} {v:Value} (h:MD S bs d v):MD S bs' (d.al k n u len) v:=by
 cases d with
 |v x=>exact V0.Xn hf x v h
 |tup vs=>obtain⟨us,h1,h2⟩:=h;exact⟨us,h1.map (V0.Xn hf),h2⟩
 |bad=>trivial
theorem zpu {k n:Nat} {u:U} {len:Int}: ∀ {env:List (Nat × D)} {t:Nat} {d:D},look (ztB k n u len env) t=some d→∃ d',look env t=some d'∧d=d'.al k n u len
 |[],t,d,h=>by cases h
 | (s,d0)::r,t,d,h=>by
   simp only [ztB] at h;rw [xK] at h ⊢
   split at h
   · rename_i hs;cases h;exact⟨d0,by rw [if_pos hs],rfl⟩
   · rename_i hs;obtain⟨d',h1,h2⟩:=zpu h;exact⟨d',by rw [if_neg hs];exact h1,h2⟩
variable {dst:Option Tmp} {ty:TypeId} {pos:String} {af:Array Edge} {gd:Option (Nat × Bool)}
theorem zmK (hT:T.fits Pr) (hH:Heap X st.hp S K w) (hE:Env S (K.map CO.base) st a) {t ut:Nat} {s x:Operand} {p:Prop} {stA stB:St} (hf:ztg alg T st t ut s x=some (p,stA,stB)) (hp:p):
  ∃ v w' K' st',(st'=stA∨st'=stB)∧Does Pr a w ⟨dst,.call { callee:=.builtin .append,args:= #[s,x],argTypes:= #[t,ut]},ty,pos,af,gd⟩ v w'∧Heap X st'.hp S K' w'∧Env S (K'.map CO.base) st' a∧MD S (K'.map CO.base) (.v (.one (.row st.hp.length))) v:=by
 unfold ztg at hf
 split at hf
 · rename_i E n1 n2 z u ue k cx hte hue hcs hcx
   split at hf
   · cases hf
   · cases hf
   · rename_i hni hno
     split at hf
     · rename_i ee m u' E' l' hee hm ho
       split at hf
       · rename_i zz l hby hez hb hcast
         simp only [jw,Prod.mk.injEq] at hf;obtain⟨rfl,rfl,rfl⟩:=hf;have hby:=Nat.le_of_ble_eq_true hby;have hb:=jI hb;subst hb;obtain⟨e,he⟩:=V6 hcast;subst e;subst he;have hms:=(hH.sit hT hE).one hcs;have hmx:=(hH.sit hT hE).one hcx;generalize hxv:a.eval x=xv at hmx;generalize hsv:a.eval s=sv at hms;obtain⟨us,hsrc,helt⟩:=zam hT hH hE hm hmx;rw [ZO,uh,zN,zN] at hp;rw [yg] at ho;obtain⟨ao0,cap0,vs,hk,hlen,hxs,hrd⟩:=(hH.sit hT hE).row ho;have hv:=hms.1;rw [zL hk] at hv;cases hv;obtain⟨pp,r,hp1,hp2,hfront⟩:=ZG hk hH.2.2.2;obtain⟨ao,cap,w',hd,hA⟩:=zhy (dst:=dst) (ty:=ty) (pos:=pos) (af:=af) (gd:=gd) (S:=S) hT hte hue (fun k h=>hni k h) (fun h=>hno h) hee hby hez hsv hxv hfront hsrc helt (.inr hp);have hall:=Elts.append ⟨hlen,hxs⟩ helt;obtain⟨_,_,erd,hnc,hcm,_⟩:=hrd;cases erd
         rcases hA with hA|⟨hA,g,cap9,e1,e2⟩
         ·
          have he:Ext (K.map CO.base) ((K++[CO.row E u'.size ao (l'++m).length cap (vs++us)]).map CO.base):=by rw [List.map_append];exact Ext.append _ _
          refine⟨_,w',K++[CO.row E u'.size ao (l'++m).length cap (vs++us)],_,.inr rfl,hd,⟨hH.1,fun k v h=>he k v (hH.2.1 k v h),?_,?_⟩,⟨hE.size,hE.defers.mono (Frz.le.refl S) he,fun t d h=>(hE.slots t d h).mono (Frz.le.refl S) he⟩,?_⟩
          · exact(hH.2.2.1.mono (Frz.le.refl S) he).push (.row hall.1 hall.2)
          · refine At.more ?_
            have h5:=hA.perm (List.Perm.swap _ _ _);rw [hp1,zB];refine hA.perm ?_;refine List.Perm.cons _ ?_;exact(zD (frzC S) (CO.zy pp) (CO.zy r) _ X.fr).symm
          · show MC S _ (.row st.hp.length) _
            rw [hH.2.2.1.1];exact⟨yZ _ _,_,_,_,rfl⟩
         ·
          cases e1;obtain⟨e2,hc02⟩:=e2;subst e2;have hbs:(K.set k (.gone (.slice (some g) l'.length cap0))).map CO.base=K.map CO.base:=yY hk rfl
          have hb2:(K.set k (.gone (.slice (some g) l'.length cap0))++[CO.row E u'.size (some g) (l'++m).length cap (vs++us)]).map CO.base=K.map CO.base++[.slice (some g) (l'++m).length cap]:=by rw [List.map_append,hbs];rfl
          have he:Ext (K.map CO.base) (K.map CO.base++[.slice (some g) (l'++m).length cap]):=Ext.append _ _
          have hlk:st.hp.length=(K.map CO.base).length:=by rw [hH.2.2.1.1,List.length_map]
          have hal: ∀ c v,MC S (K.map CO.base) c v→MC S (K.map CO.base++[.slice (some g) (l'++m).length cap]) (c.al k st.hp.length u' (alg.len l')) v:=fun c v hm=>by
           rw [zN]
           exact C.Xn (L2:=(l'++m).length) (cap2:=cap) he (zL hk) (by rw [hlk,jA (jL _)];simp) (by simp) hnc hcm (Nat.le_of_eq hc02) c v hm
          refine⟨_,w',K.set k (.gone (.slice (some g) l'.length cap0))++[CO.row E u'.size (some g) (l'++m).length cap (vs++us)],_,.inl rfl,hd,⟨hH.1,fun k v h=> ?_,?_,?_⟩,?_,?_⟩
          · rw [hb2];exact he k v (hH.2.1 k v h)
          · rw [hb2]
            refine HR.push ?_ (.row hall.1 hall.2);rw [yJ]
            refine HR.set ⟨by simp [hH.2.2.1.1],fun i o' c' e1 e2=> ?_⟩ k .gone
            rw [List.getElem?_map,Option.map_eq_some_iff] at e1;obtain⟨o0,e3,rfl⟩:=e1;have:=hH.2.2.1.2 i o0 c' e3 e2
            cases this with
            |obj hm=>exact .obj (hm.map hal)
            |row a b=>exact .row a b
            |pack a b=>exact .pack a b
            |abs a b=>exact .abs a b
            |gone=>exact .gone
          · refine At.more ?_
            rw [hp2,zB]
            have h6:At w' (frzC S::((CO.zy pp++CO.chunk (CO.gone (.slice (some g) l'.length cap0))::CO.zy r)++(CO.row E u'.size (some g) (l'++m).length cap (vs++us)).chunk::X.fr)):=by
             refine(At.void ?_).perm (zD _ _ _ _ _).symm;refine hA.perm ?_;exact xB _ _ _ _
            refine h6.perm ?_;exact(xB _ _ _ _).symm
          · rw [hb2]
            refine⟨hE.size,hE.defers.mono (Frz.le.refl S) (Ext.append _ _),fun t d hd=> ?_⟩;obtain⟨d',h5,rfl⟩:=zpu hd;exact D.Xn hal (hE.slots t d' h5)
          · show MC S _ (.row st.hp.length) _
            have:st.hp.length=(K.set k (.gone (.slice (some g) l'.length cap0))).length:=by rw [hH.2.2.1.1];simp
            rw [this];exact⟨yZ _ _,_,_,_,rfl⟩
       · cases hf
     · cases hf
 · cases hf
end
end Go.Ab
namespace Go.Ab
open Go Go.Sep
variable [Facts]
def zbE:List C→List Nat
 |[]=>[]
 |.fn _ caps::cs=>zbv caps++zbE cs
 |.ptr k _::cs=>k::zbE cs
 |.row k::cs=>k::zbE cs
 |.sub _ k _ _::cs=>k::zbE cs
 |.ept _ k _ _::cs=>k::zbE cs
 |_::cs=>zbE cs
def zxe:V0→List Nat
 |.one c=>zbE [c]
 |.agg cs=>zbE cs
def zt7:List V0→List Nat
 |[]=>[]
 |v::vs=>zxe v++zt7 vs
def zsz:D→List Nat
 |.v x=>zxe x
 |.tup l=>zt7 l
 |.bad=>[]
def zoU:List (Nat × D)→List Nat
 |[]=>[]
 |(_,d)::r=>zsz d++zoU r
def upto:Nat→Nat→List Nat
 |_,0=>[]
 |n,m+1=>n::upto (n+1) m
inductive AOut where
 |ret (d:D)
 |pan (c:C)
inductive AEx where
 |normal
 |exit (id:Nat)
 |ret
 |pan (c:C)
def MDs (S:Frz) (bs:List Value):List D→List Value→Prop
 |[],[]=>True
 |d::ds,v::vs=>MD S bs d v∧MDs S bs ds vs
 |_,_=>False
def EOut (S:Frz) (bs:List Value):AOut→Ending→Prop
 |.ret d,.returned v=>MD S bs d v
 |.pan c,.panicked ch=>∃ v,ch=[{ v:=v,recovered:=false}]∧MC S bs c v
 |_,_=>False
def Spc (Pr:Program) (f:Nat) (args:List D) (hp:List HO) (out:AOut) (hp':List HO):Prop:=
 (∃ fn,Pr.funcs[f]? =some fn∧(fn.name == "runtime.NumGoroutine")=false∧fn.body.isNone=false)∧
 ∀ (S:Frz) (K:List CO) (fr:List Chunk) (w:World) (vs:List Value),HR S (K.map CO.base) hp K→MDs S (K.map CO.base) args vs→At w (frzC S::(CO.zy K++fr))→
   Calls Pr f vs.toArray w fun e w'=>∃ S' K',S.le S'∧Ext (K.map CO.base) (K'.map CO.base)∧HR S' (K'.map CO.base) hp' K'∧At w' (frzC S'::(CO.zy K'++fr))∧EOut S' (K'.map CO.base) out e
inductive Tree where
 |need (p:Prop) (t:Tree)
 |br (b:Bool) (t f:Tree)
 |call (f:Nat) (args:List D) (hp:List HO) (k:AOut→List HO→Tree)
 |code (c:Code) (st:St) (k:AEx→St→Tree)
 |fin (o:AOut) (hp:List HO)
 |both (t f:Tree)
 |qed
 |stop (why:Nat)
def EM (S:Frz) (bs:List Value):Exit→AEx→Prop
 |.normal,.normal=>True
 |.exit i,.exit j=>i=j
 |.ret,.ret=>True
 |.panic ch,.pan c=>∃ v,ch=[{ v:=v,recovered:=false}]∧MC S bs c v
 |_,_=>False
def Post (X:Ctx) (R:AEx→St→Prop):Exit→Act→World→Prop:=fun e a w=>
 ∃ e' st',R e' st'∧∃ S K,Heap X st'.hp S K w∧Env S (K.map CO.base) st' a∧EM S (K.map CO.base) e e'
def Tree.ok (Pr:Program) (X:Ctx) (G:AOut→List HO→Prop):Tree→Prop
 |.need p t=>p∧t.ok Pr X G
 |.br b t f=>(b=true→t.ok Pr X G)∧(b=false→f.ok Pr X G)
 |.call f args hp k=>∃ out hp',Spc Pr f args hp out hp'∧(k out hp').ok Pr X G
 |.code c st k=>∀ S K a w,Heap X st.hp S K w→Env S (K.map CO.base) st a→c.wp Pr (Post X fun e st'=>(k e st').ok Pr X G) a w
 |.fin o hp=>G o hp
 |.both t f=>t.ok Pr X G∧f.ok Pr X G
 |.qed=>True
 |.stop _=>False
def QR.tree:QR→(D→Tree)→Tree
 |.ok d,k=>k d
 |.need p r,k=>.need p (r.tree k)
 |.br b t f,k=>.br b (t.tree k) (f.tree k)
 |.both t f,k=>.both (t.tree k) (f.tree k)
 |.no,_=>.stop 0
def LR.tree:LR→(D→St→Tree)→Tree
 |.ok d st,k=>k d st
 |.need p r,k=>.need p (r.tree k)
 |.no,_=>.stop 1
def tt:D:=.v (.one (.p (.val (.bool true))))
def ff:D:=.v (.one (.p (.val (.bool false))))
def resolve (st:St) (x:Operand) (k:St→Tree):Tree:=
 match x with
 | .tmp t=>match look st.env t with
   |some (.v (.one (.p (.bool b))))=>.br b (k (st.put (some t) tt)) (k (st.put (some t) ff))
   |_=>k st
 |_=>k st
def vS (st:St) (x:Operand):St:=
 match oneC (st.eval x) with
 | some (.ptr k _)=>match nth st.hp k with
   |some (.pack _)=>st.zmr k
   |some (.abs _)=>st.zmr k
   |_=>st
 |_=>st
structure Cfg where
 fz:List Nat:=[]
 own:List Nat:=[]
 nils:List Nat:=[]
 bare:List Nat:=[]
 lend:List Nat:=[]
 flat:Bool:=false
 asis:Bool:=false
 asisF:List Nat:=[]
 sl:List SlE:=[]
 raw:Bool:=false
 rl:List Nat:=[]
 nr:List Nat:=[]
 keep:Option (List Nat):=none
 mv:List Nat:=[]
 fork:List Nat:=[]
 cut:List Nat:=[]
 seam:List Nat:=[]
 wrp:Bool:=false
 arr:List Nat:=[]
 inn:List Nat:=[]
def zcq (ks:List Nat):List (Nat × D)→List (Nat × D)
 |[]=>[]
 |(t,d)::r=>match memN t ks with|true=>(t,d)::zcq ks r|false=>zcq ks r
def St.tidy (ks:Option (List Nat)) (st:St):St:=
 match ks with
 |none=>st
 |some l=> { st with env:=zcq l st.env}
def zo0:D→List Nat
 |.v (.one (.ptr k _))=>[k]
 |.v (.one (.fn _ caps))=>zbv caps
 |_=>[]
def shutAll (sl:List SlE):List Nat→St→St
 |[],st=>st
 |k::ks,st=>shutAll sl ks (st.shut sl k)
def zpk:D→D
 |.v (.one c)=>.v (.one (zd6 c))
 |.v (.agg cs)=>.v (.agg (cs.map zd6))
 |d=>d
def zbn (st:St):List Operand→Option (List D)
 |[]=>some []
 |x::xs=>match st.eval x,zbn st xs with|some d,some ds=>some (zpk d::ds)|_,_=>none
def mixC (z:P) (c:C):Option C:=match purC z c with|some p=>some (.p p)|none=>match c with|.row k=>some (.row k)|.sub u k lo hi=>some (.sub u k lo hi)|_=>none
def zkC:List P→List C→Option (List C)
 |[],[]=>some []
 |z::zs,c::cs=>match mixC z c,zkC zs cs with|some d,some ds=>some (d::ds)|_,_=>none
 |_,_=>none
def Xx (T:Tab) (own:Option Bool):List D→List Nat→List HO→Option (List D × List HO)
 |[],_,hp=>some ([],hp)
 | d ::ds,ty::tys,hp=>match d with
   | .v (.one .nilS)=>(match own with
     |none=>(match Xx T own ds tys hp with|some (r,hp')=>some (.v (.one .nilS)::r,hp')|none=>none)
     | some ow=>(match T ty with
       | some ⟨.slice E,_,_,_,some u⟩=>(match ow with
         |true=>(match Xx T own ds tys (hp++[.row u E []]) with|some (r,hp')=>some (.v (.one (.row hp.length))::r,hp')|none=>none)
         |false=>(match Xx T own ds tys hp with|some (r,hp')=>some (.v (.one (.p (.list u [])))::r,hp')|none=>none))
       |_=>none))
   |.v (.one (.p (.nl l)))=>(match Xx T own ds tys hp with|some (r,hp')=>some (.v (.one (.p (.list .byte l)))::r,hp')|none=>none)
   | .v (.agg cs)=>(match T ty with
     |some ⟨_,_,_,some z,_⟩=>(match zkC z cs,Xx T own ds tys hp with|some ps,some (r,hp')=>some (.v (.agg ps)::r,hp')|_,_=>none)
     |_=>none)
   |d=>(match Xx T own ds tys hp with|some (r,hp')=>some (d::r,hp')|none=>none)
 |_::_,[],_=>none
def zmk:D→List Nat
 |.v (.one c)=>zaD [c]
 |.v (.agg cs)=>zaD cs
 |_=>[]
def Cap.cell:Cap→C
 |.p x=>.p x
 |.ptr k off=>.ptr k off
def dP (c:Cap):D:=.v (.one c.cell)
def zrz:D→List Nat
 |.v (.agg cs)=>zaD cs
 |_=>[]
def zgJ (I:Alg) (cfg:Cfg) (g:Nat) (ds:List D) (st:St):St:=match memN g cfg.fz with|true=>xu I (ds.flatMap zmk) st|false=>match memN g cfg.lend with|true=>st|false=>xu I (ds.flatMap zrz) st
def Cfg.fsl (cfg:Cfg):List SlE:=match cfg.flat with|true=>zxf|false=>match cfg.asis with|true=>zus|false=>cfg.sl
def zlR (cfg:Cfg) (g:Nat):List SlE:=match memN g cfg.bare with|true=>zxf|false=>match memN g cfg.asisF with|true=>zus|false=>cfg.sl
def zwG (I:Alg) (T:Tab) (cfg:Cfg) (kp:C→St→Tree) (o:Oper) (f:Operand) (xs:List Operand) (tys:List Nat) (st:St) (k:St→Tree):Tree:=
 match st.eval f,zbn st xs with
 | some (.v (.one (.fn g caps))),some ds=>
   let st2:=shutAll (zlR cfg g) ((ds++[D.v (.one (.fn g caps))]).flatMap zo0) (zgJ I cfg g ds st)
   match zbn st2 xs,st2.eval f with
   | some ds2,some (.v (.one (.fn g2 caps2)))=>(match Xx T (match memN g cfg.nils with|true=>none|false=>some (memN g cfg.own)) ds2 tys st2.hp with
     | some (ds3,hp3)=>.call g2 (ds3++caps2.map dP) hp3 fun out hp'=>match out with
       |.ret d=>k ({ st2 with hp:=hp'}.put o.dst d)
       |.pan c=>kp c { st2 with hp:=hp'}
     |none=>.stop 20)
   |_,_=>.stop 2
 |_,_=>.stop 3
def zar (T:Tab) (t ty:Nat) (st:St):St:=
 match look st.env t,T ty with
 |some (.v (.one .nilS)),some ⟨.slice E,_,_,_,some u⟩=>St.put { st with hp:=st.hp++[HO.row u E []]} (some t) (.v (.one (.row st.hp.length)))
 |_,_=>st
def nilRow (T:Tab) (nr:List Nat) (o:Oper) (st:St):St:=
 match o.dst with
 |some t=>(match memN t nr with|true=>zar T t o.type st|false=>st)
 |none=>st
def zeJ (I:Alg) (cut:List Nat) (x:Option Nat) (st:St) (k:St→Tree):Tree:=
 match x with
 |none=>k st
 | some t=>match memN t cut with
   |false=>k st
   | true=>match look st.env t with
     | some (.v (.one (.sub u j lo hi)))=>(match nth st.hp j with
       | some (.row u' E l)=>(match zm2 u u' l with
         |some l'=>.need (I.same lo 0) (k (St.put { st with hp:=setN st.hp j .gone++[.row u E (I.cut l' 0 hi)]} (some t) (.v (.one (.row st.hp.length)))))
         |none=>.stop 70)
       |_=>.stop 71)
     |_=>k st
def zyF:Operand→Option Nat
 |.tmp t=>some t
 |_=>none
def zlQ (st:St):List Operand→Option (List Cap)
 |[]=>some []
 |x::xs=>match oneC (st.eval x),zlQ st xs with|some (.p p),some ps=>some (.p p::ps)|some (.ptr k off),some ps=>some (.ptr k off::ps)|_,_=>none
def zrH (I:Alg) (st:St) (x y:Operand):QR:=
 match oneC (st.eval x),oneC (st.eval y) with
 |some (.p (.int k a)),some (.p (.int k' b))=>(match zga k k' with|true=>okp (.int k (I.wrap k (I.add a b)))|false=>.no)
 |_,_=>.no
def zkT (cfg:Cfg) (t k:Nat) (st:St):St:=match memN t cfg.inn with|true=>shutAll cfg.sl [k] st|false=>st
def vop (I:Alg) (T:Tab) (cfg:Cfg) (kp:C→St→Tree) (o:Oper) (st:St) (k:St→Tree):Tree:=
 match o.op with
 |.pick c a b=>resolve st c fun st=>(qop I T st (.pick c a b)).tree fun d=>k (st.put o.dst d)
 |.load t x=>(qop I T (vS st x) (.load t x)).tree fun d=>k ((vS st x).put o.dst d)
 |.assign x=>(qop I T st (.assign x)).tree fun d=>zeJ I cfg.cut o.dst (nilRow T cfg.nr o (st.put o.dst d)) k
 |.store t x v=>zeJ I cfg.cut (zyF v) (vS st x) fun st1=>(lop I T st1 (.store t x v)).tree fun _ st'=>k (st'.put o.dst (.tup []))
 | .alloc t=>match memN t cfg.arr with
   |true=>(arrL I T st t).tree fun d st'=>k (st'.put o.dst d)
   |false=>(lop I T st (.alloc t)).tree fun d st'=>k (st'.put o.dst d)
 |.box t x=>(lop I T st (.box t x)).tree fun d st'=>k (zkT cfg t st.hp.length (st'.put o.dst d))
 |.buildSlice t n ps=>(lop I T st (.buildSlice t n ps)).tree fun d st'=>k (st'.put o.dst d)
 |.makeSlice t x y=>(lop I T st (.makeSlice t x y)).tree fun d st'=>k (st'.put o.dst d)
 | .convert s d x=>match T d with
   |some ⟨.slice _,_,_,_,_⟩=>(lop I T st (.convert s d x)).tree fun d st'=>k (st'.put o.dst d)
   |_=>(qop I T st (.convert s d x)).tree fun d=>k (st.put o.dst d)
 | .makeFunc fn first captured=>match fn,first.toList,zlQ st captured.toList with
   |.func f,[],some ps=>k (st.put o.dst (.v (.one (.fn f ps))))
   |_,_,_=>.stop 4
 | .panic x=>match oneC (st.eval x) with
   |some (.ifc t b ps)=>kp (.ifc t b ps) st
   |_=>.stop 5
 | .call c=>match c.callee with
   | .builtin .append=>(match(match o.dst with|some t=>memN t cfg.fork|none=>false) with
     |false=>(lop I T st (.call c)).tree fun d st'=>k (st'.put o.dst d)
     | true=>(match c.args.toList,c.argTypes.toList with
       | [s,x],[t,u]=>(match ztg I T st t u s x with
         |some (p,stA,stB)=>.need p (.both (k (stA.put o.dst (.v (.one (.row st.hp.length))))) (k (stB.put o.dst (.v (.one (.row st.hp.length))))))
         |none=>.stop 60)
       |_,_=>.stop 61))
   |.builtin .clear=>(lop I T st (.call c)).tree fun d st'=>k (st'.put o.dst d)
   |.builtin _=>(qop I T st (.call c)).tree fun d=>k (st.put o.dst d)
   |.value f=>zwG I T cfg kp o f c.args.toList c.argTypes.toList st k
   |.invoke _ _=>.stop 6
 | .binOp .add t x y yt=>match cfg.wrp with
   |true=>(zrH I st x y).tree fun d=>k (st.put o.dst d)
   |false=>(qop I T st (.binOp .add t x y yt)).tree fun d=>k (st.put o.dst d)
 |op=>(qop I T st op).tree fun d=>k (st.put o.dst d)
def ziR:Op→Option Operand
 |.defer c=>match c.callee,c.args.toList with|.value f,[]=>some f|_,_=>none
 |_=>none
def zqN (o:Oper) (f:Operand) (st:St) (k:St→Tree):Tree:=
 match o.dst,st.df,st.eval f with
 |none,none,some (.v (.one (.fn g caps)))=>k { st with df:=some (g,caps)}
 |_,_,_=>.stop 80
def zcv (all:List Oper) (o:Oper) (st:St) (kt kf:St→Tree):Tree:=
 match o.guard with
 |none=>kt st
 | some (j,want)=>match nth all j with
   |none=>.stop 7
   | some oj=>match oj.dst with
     |none=>.stop 8
     | some t=>resolve st (.tmp t) fun st=>match look st.env t with
       |some (.v (.one (.p (.val (.bool true)))))=>(match want with|true=>kt st|false=>kf st)
       |some (.v (.one (.p (.val (.bool false)))))=>(match want with|true=>kf st|false=>kt st)
       |some (.tup [])=>kf st
       |_=>.stop 9
def zk5 {α:Type} (c:C) (k:C→α):α:=match c with
 | .p x=>(match x with
   |.int a b=>k (.p (.int a b))
   |.bool b=>k (.p (.bool b))
   |.str l=>k (.p (.str l))
   |.list u l=>k (.p (.list u l))
   |.nl l=>k (.p (.nl l))
   |.val v=>k (.p (.val v)))
 |.ptr j off=>k (.ptr j off)
 |.ept u j i off=>k (.ept u j i off)
 |.fpt u l i off=>k (.fpt u l i off)
 |.row j=>k (.row j)
 |.sub u j lo hi=>k (.sub u j lo hi)
 |.nilS=>k .nilS
 |.fn f caps=>k (.fn f caps)
 |.ifc T agg cs=>k (.ifc T agg cs)
 |.any=>k .any
def UY {α:Type}:List C→(List C→α)→α
 |[],k=>k []
 |c::cs,k=>zk5 c fun c=>UY cs fun cs=>k (c::cs)
def zuC {α:Type} (o:HO) (k:HO→α):α:=match o with
 |.obj t cs=>UY cs fun cs=>k (.obj t cs)
 |.row u E l=>k (.row u E l)
 |.pack l=>k (.pack l)
 |.abs g=>k (.abs g)
 |.gone=>k .gone
def zcF {α:Type}:List HO→(List HO→α)→α
 |[],k=>k []
 |o::os,k=>zuC o fun o=>zcF os fun os=>k (o::os)
theorem zbb {α:Type} (c:C) (k:C→α):zk5 c k=k c:=by
 cases c with
 |p x=>cases x<;>rfl
 |_=>rfl
theorem Xa {α:Type}: ∀ (l:List C) (k:List C→α),UY l k=k l
 |[],_=>rfl
 |c::cs,k=>by rw [UY,zbb,Xa cs]
theorem zqb {α:Type} (o:HO) (k:HO→α):zuC o k=k o:=by
 cases o with
 |obj t cs=>exact Xa cs _
 |_=>rfl
theorem za9 {α:Type}: ∀ (l:List HO) (k:List HO→α),zcF l k=k l
 |[],_=>rfl
 |o::os,k=>by rw [zcF,zqb,za9 os]
def zk2 {α:Type} (x:V0) (k:V0→α):α:=match x with
 |.one c=>zk5 c fun c=>k (.one c)
 |.agg cs=>UY cs fun cs=>k (.agg cs)
def zen {α:Type}:List V0→(List V0→α)→α
 |[],k=>k []
 |x::l,k=>zk2 x fun x=>zen l fun l=>k (x::l)
theorem zgM {α:Type} (x:V0) (k:V0→α):zk2 x k=k x:=by
 cases x<;>simp only [zk2,zbb,Xa]
theorem zcB {α:Type}: ∀ (l:List V0) (k:List V0→α),zen l k=k l
 |[],_=>rfl
 |x::l,k=>by rw [zen,zgM,zcB l]
def zk4 {α:Type} (d:D) (k:D→α):α:=match d with
 |.v x=>zk2 x fun x=>k (.v x)
 |.tup l=>zen l fun l=>k (.tup l)
 |.bad=>k .bad
def zgP {α:Type}:List (Nat × D)→(List (Nat × D)→α)→α
 |[],k=>k []
 |(t,d)::r,k=>zk4 d fun d=>zgP r fun r=>k ((t,d)::r)
def zcD {α:Type} (n:Nat) (k:Nat→α):α:=match n with
 |0=>k 0
 |m+1=>k (m+1)
def Yo {α:Type} (st:St) (k:St→α):α:=zgP st.env fun e=>zcF st.hp fun h=>zcD st.n fun n=>match st.df with|none=>k ⟨e,h,n,none⟩|some (g,cs)=>k ⟨e,h,n,some (g,cs)⟩
theorem zgQ {α:Type} (d:D) (k:D→α):zk4 d k=k d:=by
 cases d<;>simp only [zk4,zgM,zcB]
theorem zba {α:Type}: ∀ (l:List (Nat × D)) (k:List (Nat × D)→α),zgP l k=k l
 |[],_=>rfl
 |(t,d)::r,k=>by rw [zgP,zgQ,zba r]
theorem Y9 {α:Type} (st:St) (k:St→α):Yo st k=k st:=by
 unfold Yo;rw [zba,za9];unfold zcD;obtain⟨e,h,n,df⟩:=st
 cases n<;>(cases df<;>rfl)
def vops (I:Alg) (T:Tab) (cfg:Cfg) (all:List Oper) (kp:C→St→Tree) (k:St→Tree):List Oper→St→Tree
 |[],st=>k st
 |o::r,st=>Yo st fun st=>zcv all o st (fun st=>match ziR o.op with|some f=>zqN o f st fun st=>vops I T cfg all kp k r st|none=>vop I T cfg kp o st fun st=>vops I T cfg all kp k r st) (fun st=>vops I T cfg all kp k r (st.put o.dst (.tup [])))
def zoY (T:Tab):Op→Bool
 |.move _|.assign _|.pick .. |.load .. |.nilCheck _|.binOp .. |.unOp .. |.makeInterface .. |.slice .. |.fieldAddr .. |.field .. |.indexAddr .. |.index .. |.extract .. |.build .. =>true
 |.convert _ d _=>match T d with|some ⟨.slice _,_,_,_,_⟩=>false|_=>true
 |.call c=>match c.callee with|.builtin .len|.builtin .min|.builtin .max=>true|_=>false
 |_=>false
def WY (T:Tab):List Oper→Nat
 |[]=>0
 |[_]=>0
 |o::r=>match zoY T o.op with|true=>WY T r+1|false=>0
def qopO (I:Alg) (T:Tab) (o:Oper) (st:St) (k:St→Tree):Tree:=
 match o.op with
 |.pick c a b=>resolve st c fun st=>(qop I T st (.pick c a b)).tree fun d=>k (st.put o.dst d)
 |.load t x=>(qop I T (vS st x) (.load t x)).tree fun d=>k ((vS st x).put o.dst d)
 |op=>(qop I T st op).tree fun d=>k (st.put o.dst d)
def ze7 (I:Alg) (T:Tab) (all:List Oper) (k:St→Tree):List Oper→St→Tree
 |[],st=>k st
 |o::r,st=>Yo st fun st=>zcv all o st (fun st=>qopO I T o st fun st=>ze7 I T all k r st) (fun st=>ze7 I T all k r (st.put o.dst (.tup [])))
def takeN {α:Type}:Nat→List α→List α
 |0,_=>[]
 |_+1,[]=>[]
 |n+1,x::l=>x::takeN n l
def zmX {α:Type}:Nat→List α→List α
 |0,l=>l
 |_+1,[]=>[]
 |n+1,_::l=>zmX n l
theorem zjt {α:Type}: ∀ (n:Nat) (l:List α),takeN n l=l.take n
 |0,_=>by simp [takeN]
 |_+1,[]=>by simp [takeN]
 |n+1,x::l=>by simp [takeN,zjt n l]
theorem zls {α:Type}: ∀ (n:Nat) (l:List α),zmX n l=l.drop n
 |0,_=>by simp [zmX]
 |_+1,[]=>by simp [zmX]
 |n+1,x::l=>by simp [zmX,zls n l]
def zT:List Nat→List CO→List CO→List CO
 |q::qs,c::cs,K=>zT qs cs (K.set q c)
 |[],cs,K=>K++cs
 |_::_,[],K=>K
def tmpsOf:List Operand→List Nat
 |[]=>[]
 |.tmp t::r=>t::tmpsOf r
 |_::r=>tmpsOf r
def zxW (T:Tab):Op→Bool
 |.binOp .. |.unOp .. |.convert .. |.index .. =>true
 |.load t _=>match T t with|some ⟨.int _,_,_,_,_⟩=>true|some ⟨.str,_,_,_,_⟩=>true|some ⟨.bool,_,_,_,_⟩=>true|_=>false
 |.call c=>match c.callee with|.builtin .len|.builtin .min|.builtin .max=>true|_=>false
 |_=>false
def zxG:List (Nat × (List Nat × List Nat))→Nat→Option (List Nat × List Nat)
 |[],_=>none
 |(k,d)::r,t=>match Nat.beq k t with|true=>some d|false=>zxG r t
def expand (m:List (Nat × (List Nat × List Nat))):List Nat→List Nat × List Nat
 |[]=>([],[])
 |t::ts=>match zxG m t,expand m ts with|some us,(a,b)=>(us.1++a,us.2++b)|none,(a,b)=>(t::a,b)
def isLoad:Op→Bool
 |.load .. =>true
 |_=>false
def flow (T:Tab):List Oper→List (Nat × (List Nat × List Nat))→List Nat × List Nat→List Nat × List Nat
 |[],_,acc=>acc
 | o::r,m,acc=>
   let us:=match zxW T o.op with|true=>([],[])|false=>(match isLoad o.op,expand m (tmpsOf o.op.operands.toList) with|true,(a,b)=>([],a++b)|false,x=>x)
   flow T r (match o.dst with|some t=>(t,us)::m|none=>m) (match zoY T o.op with|true=>acc|false=>(match expand m (tmpsOf o.op.operands.toList) with|(a,b)=>(a++acc.1,b++acc.2)))
def XE (st:St):List Nat→List Nat
 |[]=>[]
 |t::ts=>(match look st.env t with|some d=>zsz d|none=>[])++XE st ts
def zgg (hp:List HO):List Nat→List Nat
 |[]=>[]
 |k::ks=>(match nth hp k with|some (.obj _ cs)=>zbE cs|_=>[k])++zgg hp ks
def zjR (T:Tab) (all:List Oper) (st:St):List Nat:=gather st.hp 60 (match flow T all [] ([],[]) with|(a,b)=>XE st a++zgg st.hp (XE st b)) []
def YZ (tI:List Nat):List Nat→St→St
 |[],st=>st
 | t::ts,st=>match oneC (st.eval (.tmp t)) with
   |some (.ptr k _)=>(match memN k tI with|true=>YZ tI ts st|false=>YZ tI ts (vS st (.tmp t)))
   |_=>YZ tI ts st
def Yd (tI:List Nat):List Oper→St→St
 |[],st=>st
 |o::r,st=>Yd tI r (YZ tI (tmpsOf o.op.operands.toList) st)
def zgb (tI:List Nat):Nat→List HO→List Nat
 |_,[]=>[]
 | n,o::r=>match o,memN n tI with
   |.gone,_=>zgb tI (n+1) r
   |_,true=>zgb tI (n+1) r
   |_,false=>n::zgb tI (n+1) r
def putH:List Nat→List HO→List HO→List HO
 |q::qs,o::os,hp=>putH qs os (setN hp q o)
 |_,_,hp=>hp
def isNo:QR→Bool
 |.ok .bad=>true
 |.ok _=>false
 |.need _ r=>isNo r
 |.br _ a b=>match isNo a with|true=>true|false=>isNo b
 |.both a b=>match isNo a with|true=>true|false=>isNo b
 |.no=>true
def zzc (all:List Oper) (o:Oper) (st:St):Bool:=
 match o.guard with
 |none=>false
 | some (j,want)=>match nth all j with
   | some oj=>(match oj.dst with
     | some t=>(match look st.env t with
       |some (.v (.one (.p (.val (.bool b)))))=>(match b,want with|true,true=>false|false,false=>false|_,_=>true)
       |some (.tup [])=>true
       |_=>false)
     |none=>false)
   |none=>false
def zyq (I:Alg) (T:Tab) (all:List Oper) (st stk:St) (o:Oper):Bool:=
 match zzc all o st with
 |true=>true
 | false=>match isNo (qop I T stk o.op) with
   |false=>true
   |true=>match zoY T o.op,zkx o.op with|true,false=>true|_,_=>false
def ru (I:Alg) (T:Tab) (all:List Oper) (listed:Array Bool) (st stk:St):List Nat→Option Nat
 |[]=>none
 | i ::r=>match nth all i with
   | some o=>(match zyq I T all st stk o with
     |true=>(match Region.free .any all.toArray listed i with|true=>some i|false=>ru I T all listed st stk r)
     |false=>ru I T all listed st stk r)
   |none=>ru I T all listed st stk r
def zwE (I:Alg) (T:Tab) (qs:List Nat) (os:List HO) (o:Oper) (st stk:St) (k:St→St→Tree):Tree:=
 match isNo (qop I T stk o.op) with
 |false=>(qop I T stk o.op).tree fun d=>k (st.put o.dst d) (stk.put o.dst d)
 | true=>match zkx o.op with
   |true=>.stop 30
   | false=>match o.op with
     |.pick c x y=>resolve st c fun st=>(qop I T { st with hp:=putH qs os st.hp} (.pick c x y)).tree fun d=>k (st.put o.dst d) (stk.put o.dst .bad)
     |op=>(qop I T { st with hp:=putH qs os st.hp} op).tree fun d=>k (st.put o.dst d) (stk.put o.dst .bad)
def zij (f:Nat→Tree):List Nat→Tree
 |[]=>.qed
 |[i]=>f i
 |i::r=>.both (f i) (zij f r)
def zrt (b:Nat) (pre:Option (List Nat)) (r:List Nat):List Nat:=
 r.filter fun i=>match Nat.beq i b with|true=>false|false=>(match pre with|none=>true|some l=>xJ i l)
def zcE {α:Type}:List Bool→(List Bool→α)→α
 |[],k=>k []
 | b::r,k=>match b with
   |true=>zcE r fun r=>k (true::r)
   |false=>zcE r fun r=>k (false::r)
def zk6 {α:Type} (a:Array Bool) (k:Array Bool→α):α:=match a with|⟨l⟩=>zcE l fun l=>k ⟨l⟩
theorem za8 {α:Type}: ∀ (l:List Bool) (k:List Bool→α),zcE l k=k l
 |[],_=>rfl
 |true::r,k=>by simp only [zcE,za8 r]
 |false::r,k=>by simp only [zcE,za8 r]
theorem zgR {α:Type} (a:Array Bool) (k:Array Bool→α):zk6 a k=k a:=by
 obtain⟨l⟩:=a;simp only [zk6,za8]
def getA (a:Array Bool) (i:Nat):Bool:=match nth a.toList i with|some b=>b|none=>false
theorem zv8 (a:Array Bool) (i:Nat):getA a i=a.getD i false:=by
 obtain⟨l⟩:=a;simp only [getA,yg,Array.getD_eq_getD_getElem?,List.getElem?_toArray]
 cases l[i]? <;>rfl
def setB:List Bool→Nat→List Bool
 |[],_=>[]
 |_::l,0=>true::l
 |b::l,n+1=>b::setB l n
theorem zn2: ∀ (l:List Bool) (n:Nat),setB l n=l.set n true
 |[],_=>rfl
 |_::_,0=>rfl
 |b::l,n+1=>by simp [setB,zn2 l n]
def setA (a:Array Bool) (i:Nat):Array Bool:=⟨setB a.toList i⟩
theorem zvi (a:Array Bool) (i:Nat):setA a i=a.setIfInBounds i true:=by
 obtain⟨l⟩:=a
 simp [setA,zn2]
def zic:List Edge→List Nat
 |[]=>[]
 |e::r=>match Region.binds .any e with|true=>e.on::zic r|false=>zic r
def zbH (o:Oper):List Nat:=zic o.after.toList
def X4:List Operand→List Nat
 |[]=>[]
 |x::r=>match x with|.tmp t=>t::X4 r|_=>X4 r
def zaW (all:List Oper) (o:Oper):List Nat:=
 match o.guard with
 |some (g,_)=>(match nth all g with|some og=>(match og.dst with|some t=>t::X4 o.op.operands.toList|none=>X4 o.op.operands.toList)|none=>X4 o.op.operands.toList)
 |none=>X4 o.op.operands.toList
structure Row1 where
 aft:List Nat
 dst:Option Nat
 lk:List Nat
def TJ (all:List Oper):List Oper→List Row1
 |[]=>[]
 |o::r=>⟨zbH o,o.dst,zaW all o⟩::TJ all r
def zlX (x y:Row1):Bool:=
 match(match x.dst with|some d=>(match xJ d y.lk with|true=>false|false=>(match y.dst with|some e=>(match Nat.beq e d with|true=>false|false=>true)|none=>true))|none=>true) with
 |false=>false
 |true=>match y.dst with|some e=>(match xJ e x.lk with|true=>false|false=>true)|none=>true
def Xw (i:Nat) (x:Row1):Nat→List Row1→Bool
 |_,[]=>true
 | j,y::r=>match Nat.beq j i with
   |true=>Xw i x (j+1) r
   | false=>match xJ j x.aft with
     |true=>Xw i x (j+1) r
     | false=>match xJ i y.aft with
       |true=>Xw i x (j+1) r
       |false=>match zlX x y with|true=>Xw i x (j+1) r|false=>false
structure Row2 where
 aft:List Nat
 fr:Bool
def zl5 (full:List Row1):Nat→List Row1→List Row2
 |_,[]=>[]
 |i,x::r=>⟨x.aft,Xw i x 0 full⟩::zl5 full (i+1) r
def Xo (all:List Oper):List Row2:=zl5 (TJ all all) 0 (TJ all all)
def aftT (t:List Row2) (j:Nat):List Nat:=match nth t j with|some r=>r.aft|none=>[]
def vX {α:Type}:List Nat→(List Nat→α)→α
 |[],k=>k []
 | n::r,k=>match n with
   |0=>vX r fun r=>k (0::r)
   |m+1=>vX r fun r=>k ((m+1)::r)
theorem vW {α:Type}: ∀ (l:List Nat) (k:List Nat→α),vX l k=k l
 |[],_=>rfl
 |0::r,k=>by simp only [vX,vW r]
 |(m+1)::r,k=>by simp only [vX,vW r]
def zp8 {α:Type} (x:Row2) (k:Row2→α):α:=match x with
 |⟨a,f⟩=>vX a fun a=>match f with|true=>k ⟨a,true⟩|false=>k ⟨a,false⟩
theorem zp7 {α:Type} (x:Row2) (k:Row2→α):zp8 x k=k x:=by
 obtain⟨a,f⟩:=x
 cases f<;>simp only [zp8,vW]
def zk3 {α:Type}:List Row2→(List Row2→α)→α
 |[],k=>k []
 |x::r,k=>zp8 x fun x=>zk3 r fun r=>k (x::r)
theorem zgN {α:Type}: ∀ (l:List Row2) (k:List Row2→α),zk3 l k=k l
 |[],_=>rfl
 |x::r,k=>by simp only [zk3,zp7,zgN r]
def Ug (l:List Bool):List Nat→Bool
 |[]=>true
 |j::r=>match nth l j with|some true=>Ug l r|_=>false
def rV (full:List Bool):Nat→List Row2→List Bool→List Nat
 | i,x::r,b::l=>(match b with
   |true=>rV full (i+1) r l
   |false=>match Ug full x.aft with|true=>i::rV full (i+1) r l|false=>rV full (i+1) r l)
 |_,_,_=>[]
def qR (I :Alg) (T:Tab) (all:List Oper) (st stk:St) (b:Nat) (pre:Option (List Nat)) (full:List Bool):Nat→List Oper→List Row2→List Bool→Option Nat
 | i, o :: os,x::r,d::l=>(match d with
   |true=>qR I T all st stk b pre full (i+1) os r l
   | false =>match x.fr with
     |false=>qR I T all st stk b pre full (i+1) os r l
     | true=>match Nat.beq i b with
       |true=>qR I T all st stk b pre full (i+1) os r l
       | false=>match(match pre with|none=>true|some p=>xJ i p) with
         |false=>qR I T all st stk b pre full (i+1) os r l
         | true=>match Ug full x.aft with
           |false=>qR I T all st stk b pre full (i+1) os r l
           | true=>match zyq I T all st stk o with
             |true=>some i
             |false=>qR I T all st stk b pre full (i+1) os r l)
 |_,_,_,_=>none
def mixT (I : Alg) (T:Tab) (cfg:Cfg) (all:List Oper) (tbl:List Row2) (b:Nat) (pre:Option (List Nat)) (qs:List Nat) (os:List HO) (K:Nat→Array Bool→St→Tree) (kq:C→St→Tree) (k:St→Tree):Nat→Array Bool→St→St→Tree
 |0,listed,st,_=>K 0 listed { st with hp:=putH qs os st.hp}
 | n + 1,listed,st,stk=>zk6 listed fun listed=>Yo st fun st=>Yo stk fun stk=>match getA listed b with
   |true=>K (n+1) listed { st with hp:=putH qs os st.hp}
   | false=>match(match qR I T all st stk b pre listed.toList 0 all tbl listed.toList with
     |some i=>some (some i)
     | none=>match rV listed.toList 0 tbl listed.toList with
       |[]=>none
       |r=>some (ru I T all listed st stk (zrt b pre r))) with
     |none=>k { st with hp:=putH qs os st.hp}
     | some (some i)=>(match nth all i with
      |some o=>zcv all o st (fun st=>zwE I T qs os o st stk fun st stk=>mixT I T cfg all tbl b pre qs os K kq k n (setA listed i) st stk)
       (fun st=>mixT I T cfg all tbl b pre qs os K kq k n (setA listed i) (st.put o.dst (.tup [])) (stk.put o.dst .bad))
      |none=>.stop 33)
     |some none=>zij (fun i=>match nth all i with
      |some o=>zcv all o st (fun st=>vop I T cfg (fun c st=>kq c { env:=[],hp:=putH qs os st.hp,n:=st.n,df:=st.df}) o st fun st=>mixT I T cfg all tbl b pre qs os K kq k n (setA listed i) st (stk.put o.dst .bad))
       (fun st=>mixT I T cfg all tbl b pre qs os K kq k n (setA listed i) (st.put o.dst (.tup [])) (stk.put o.dst .bad))
      |none=>.stop 34) (rV listed.toList 0 tbl listed.toList)
def za5:List HO→List HO
 |[]=>[]
 |_::r=>.gone::za5 r
def Qm:List Oper→List Nat→List Nat
 |[],_=>[]
 |o::r,seen=>match o.guard with|some (j,_)=>(match xJ j seen with|true=>Qm r seen|false=>j::Qm r (j::seen))|none=>Qm r seen
def zcf (t:List Row2):Nat→List Nat→List Nat→List Nat
 |0,_,acc=>acc
 |_+1,[],acc=>acc
 |f+1,j::r,acc=>match xJ j acc with|true=>zcf t f r acc|false=>zcf t f (aftT t j++r) (j::acc)
def zyy (b:Nat) (acc:List Nat):List Nat→Bool
 |[]=>false
 |i::r=>match Nat.beq i b with|true=>true|false=>(match xJ i acc with|true=>true|false=>zyy b acc r)
def zeU (b:Nat):Nat→List Row2→List Nat→List Nat
 |_,[],acc=>acc
 | n,x::r,acc=>match zyy b acc x.aft with
   |true=>zeU b (n+1) r (n::acc)
   |false=>zeU b (n+1) r acc
def zrj (b:Nat) (ps bs:List Nat):Nat→List Bool→Bool
 |_,[]=>true
 | j,d::l=>match d with
   |true=>zrj b ps bs (j+1) l
   | false=>match Nat.beq j b with
     |true=>zrj b ps bs (j+1) l
     | false=>match xJ j ps with
       |true=>zrj b ps bs (j+1) l
       |false=>match xJ j bs with|true=>zrj b ps bs (j+1) l|false=>false
def zzi (t:List Row2) (listed:Array Bool) (b:Nat):Bool:=
 match nth listed.toList b with
 |some false=>vX (zcf t 4000 (aftT t b) []) fun ps=>vX (zeU b 0 t []) fun bs=>zrj b ps bs 0 listed.toList
 |_=>false
def zif (t:List Row2) (n:Nat) (listed:Array Bool):List Nat→Nat
 |[]=>n
 |b::r=>match zzi t listed b with|true=>b|false=>zif t n listed r
def zdi (pre:Option (List Nat)) (b:Nat):Nat→List Bool→List Oper→List Oper
 | n,d::l,o::r=>(match d,(match pre with|none=>true|some l=>(match Nat.beq n b with|true=>true|false=>xJ n l)) with
   |false,true=>o::zdi pre b (n+1) l r
   |_,_=>zdi pre b (n+1) l r)
 |_,_,_=>[]
def zsF (t:List Row2) (n b:Nat):Option (List Nat):=match Nat.blt b n with|true=>vX (zcf t 4000 (aftT t b) []) fun l=>some l|false=>none
def zd3 (gs:List Nat) (ops:List Oper) (st:St):St:=match gs with|[]=>st|_=>Yd [] ops st
def zqa {α:Type} (p:Option (List Nat)) (k:Option (List Nat)→α):α:=match p with|none=>k none|some l=>vX l fun l=>k (some l)
theorem zp9 {α:Type} (p:Option (List Nat)) (k:Option (List Nat)→α):zqa p k=k p:=by
 cases p<;>simp only [zqa,vW]
theorem zqc {α:Type} (n:Nat) (k:Nat→α):zcD n k=k n:=by cases n<;>rfl
def zeo {α:Type}:List Oper→(List Oper→α)→α
 |[],k=>k []
 |o::r,k=>zeo r fun r=>k (o::r)
theorem zcC {α:Type}: ∀ (l:List Oper) (k:List Oper→α),zeo l k=k l
 |[],_=>rfl
 |o::r,k=>by simp only [zeo,zcC r]
def mixP (I:Alg) (T:Tab) (cfg:Cfg) (all:List Oper) (tbl:List Row2) (gs:List Nat) (kq:C→St→Tree) (k:St→Tree):Nat→Nat→Array Bool→St→Tree
 |0,_,_,_=>.stop 37
 | m +1,n,listed,st=>zk6 listed fun listed=>match rV listed.toList 0 tbl listed.toList with
   |[]=>k st
   | _=>zcD (zif tbl all.length listed gs) fun b=>zqa (zsF tbl all.length b) fun pre=>
     zeo (zdi pre b 0 listed.toList all) fun ops=>Yo (zd3 gs ops st) fun st0=>vX (zjR T ops st0) fun tI=>
     Yo (Yd tI ops st0) fun st1=>vX (zgb tI 0 st1.hp) fun qs=>
     match sJ qs st1.hp with
     |some (os,hpr)=>mixT I T cfg all tbl b pre qs os (fun n listed st=>mixP I T cfg all tbl gs kq k m n listed st) kq k n listed { st1 with hp:=hpr} { st1 with hp:=putH qs os (za5 hpr)}
     |none=>.stop 35
def zhb:List Oper→List Bool
 |[]=>[]
 |_::r=>false::zhb r
def mix (I:Alg) (T:Tab) (cfg:Cfg) (all:List Oper) (kq:C→St→Tree) (k:St→Tree) (st:St):Tree:=
 match Region.noSelect all.toArray with
 |true=>zk3 (Xo all) fun tbl=>vX (Qm all []) fun gs=>mixP I T cfg all tbl gs kq k (all.length+1) all.length ⟨zhb all⟩ st
 |false=>.stop 36
def regT (I:Alg) (T:Tab) (cfg:Cfg) (ops:Array Oper) (draw:Bool) (K:AEx→St→Tree) (st:St):Tree:=
 match draw with
 |false=>vops I T cfg ops.toList (fun c st=>K (.pan c) st) (fun st=>K .normal st) ops.toList st
 | true=>match Region.lexTailB .any ops (WY T ops.toList) with
   |false=>mix I T cfg ops.toList (fun c st=>K (.pan c) st) (fun st=>K .normal st) st
   |true=>(ze7 I T ops.toList (fun st=>vops I T cfg ops.toList (fun c st=>K (.pan c) st) (fun st=>K .normal st) (zmX (WY T ops.toList) ops.toList) st) (takeN (WY T ops.toList) ops.toList) st)
def vc (I:Alg) (T:Tab) (cfg:Cfg):Code→(AEx→St→Tree)→St→Tree
 |.skip,K,st=>K .normal st
 | .region id ops draw,K,st=>match memN id cfg.seam with
   |true=>.code (.region id ops draw) (st.tidy cfg.keep) K
   |false=>regT I T cfg ops draw K (st.tidy cfg.keep)
 |.seq a b,K,st=>vc I T cfg a (fun e st=>match e with|.normal=>vc I T cfg b K st|e=>K e st) st
 | .cond c t e,K,st=>resolve st c fun st=>match oneC (st.eval c) with
   |some (.p (.val (.bool true)))=>vc I T cfg t K st
   |some (.p (.val (.bool false)))=>vc I T cfg e K st
   |_=>.stop 10
 | .block id b,K,st=>vc I T cfg b (fun e st=>match e with
   |.exit j=>(match Nat.beq j id with|true=>K .normal st|false=>K (.exit j) st)
   |e=>K e st) st
 |.loop b,K,st=>.code (.loop b) (st.tidy cfg.keep) K
 |.exit id,K,st=>K (.exit id) st
 |.ret,K,st=>K .ret st
 |_,_,_=>.stop 11
end Go.Ab
namespace Go.Ab
open Go Go.Sep
variable [Facts]
section
variable {Pr:Program} {T:Tab} {X Y:Ctx} {G:AOut→List HO→Prop} {a:Act} {w:World}
def Now (X:Ctx) (st:St) (a:Act) (w:World):Prop:=∃ S K,Heap X st.hp S K w∧Env S (K.map CO.base) st a
theorem QR.wJ {r:QR} {k:D→Tree} (h:(r.tree k).ok Pr Y G):r.holds fun d=>(k d).ok Pr Y G:=by
 induction r with
 |ok d=>exact h
 |need p r ih=>exact⟨h.1,ih h.2⟩
 |br b t f iht ihf=>exact⟨fun hb=>iht (h.1 hb),fun hb=>ihf (h.2 hb)⟩
 |both t f iht ihf=>exact⟨iht h.1,ihf h.2⟩
 |no=>exact h.elim
theorem LR.wJ {r:LR} {k:D→St→Tree} (h:(r.tree k).ok Pr Y G):r.holds fun d st=>(k d st).ok Pr Y G:=by
 induction r with
 |ok d=>exact h
 |need p r ih=>exact⟨h.1,ih h.2⟩
 |no=>exact h.elim
theorem uY (st:St) (dst:Option Nat) (d:D):(st.put dst d).hp=st.hp:=by
 unfold St.put
 split
 · rfl
 · split<;>rfl
theorem Env.note {S:Frz} {bs:List Value} {st:St} (h:Env S bs st a) (t:Nat) {d:D} (hm:MD S bs d (a.tmps.getD t undef)):Env S bs (st.put (some t) d) a:=by
 simp only [St.put]
 split
 · refine⟨h.size,h.defers,fun s d' hs=> ?_⟩
   simp only [xK] at hs
   by_cases hts:t=s
   · subst hts
     simp only [if_true,jw] at hs;subst hs;exact hm
   · simp only [hts,if_false] at hs
     rw [Qh hts] at hs;exact h.slots s d' hs
 · exact h
theorem vz {st:St} {x:Operand} {k:St→Tree} (h:(resolve st x k).ok Pr Y G) (hn:Now X st a w): ∃ st',(k st').ok Pr Y G∧Now X st' a w∧st'.hp=st.hp:=by
 unfold resolve at h
 split at h
 · rename_i t
   split at h
   · rename_i b hb
     obtain⟨S,K,hH,hE⟩:=hn;have hm:=hE.slots t _ hb;generalize hv:a.tmps.getD t undef=v at hm;cases hm
     cases b with
     |true=>exact⟨st.put (some t) tt,h.1 rfl,⟨S,K,by rw [uY];exact hH,hE.note t (by rw [hv];exact .val _ rfl)⟩,uY _ _ _⟩
     |false=>exact⟨st.put (some t) ff,h.2 rfl,⟨S,K,by rw [uY];exact hH,hE.note t (by rw [hv];exact .val _ rfl)⟩,uY _ _ _⟩
   · exact⟨st,h,hn,rfl⟩
 · exact⟨st,h,hn,rfl⟩
theorem tN {st:St} {x:Operand} (hn:Now X st a w):Now X (vS st x) a w:=by
 unfold vS
 split
 · split
   · obtain⟨S,K,hH,hE⟩:=hn
     obtain⟨K',_,h2,h3⟩:=qU hH hE _;exact⟨S,K',h2,h3⟩
   · obtain⟨S,K,hH,hE⟩:=hn
     obtain⟨K',_,h2,h3⟩:=qU hH hE _;exact⟨S,K',h2,h3⟩
   · exact hn
 · exact hn
theorem zdy {sl:List SlE} {st:St} (ks:List Nat) (hn:Now X st a w):Now X (shutAll sl ks st) a w:=by
 induction ks generalizing st with
 |nil=>exact hn
 | cons k ks ih=>
   obtain⟨S,K,hH,hE⟩:=hn;obtain⟨K',_,h2,h3⟩:=Ut hH hE k;exact ih ⟨S,K',h2,h3⟩
theorem Now.xu {st:St} (ks:List Nat) (hn:Now X st a w):Now X (Ab.xu alg ks st) a w:=by
 obtain⟨S,K,hH,hE⟩:=hn;obtain⟨S',K',_,_,h3,h4⟩:=yM hH hE ks;exact⟨S',K',h3,h4⟩
theorem Now.put {st:St} {S:Frz} {K:List CO} (hH:Heap X st.hp S K w) (hE:Env S (K.map CO.base) st a) (dst:Option Nat) {d:D} {v:Value} (hm:MD S (K.map CO.base) d v):Now X (st.put dst d) (a.put dst v) w:=
 ⟨S,K,by rw [uY];exact hH,hE.put dst hm⟩
def OpOk (Pr:Program) (X:Ctx) (o:Oper) (a:Act) (w:World) (R:St→Prop) (RP:C→St→Prop):Prop:=
 (∃ v w',Does Pr a w o v w'∧∃ st',R st'∧Now X st' (a.put o.dst v) w')∨
 (∃ f args,(execOp a.eval o).run Pr w=.ok (.enter f args) w∧Calls Pr f args w fun e w'=>match e with
  |.returned v=>∃ st',R st'∧Now X st' (a.put o.dst v) w'
  |.panicked ch=>∃ c st' v,RP c st'∧ch=[{ v:=v,recovered:=false}]∧∃ S K,Heap X st'.hp S K w'∧Env S (K.map CO.base) st' a∧MC S (K.map CO.base) c v
  |.outgrown=>False)∨
 (∃ v c st',(execOp a.eval o).run Pr w=.halt (.panic v) w∧RP c st'∧∃ S K,Heap X st'.hp S K w∧Env S (K.map CO.base) st' a∧MC S (K.map CO.base) c v)
theorem OpOk.wp {o:Oper} {R:St→Prop} {RP:C→St→Prop} (h:OpOk Pr X o a w R RP) {next:Act→World→Prop} {Q:Exit→Act→World→Prop}
  (hn: ∀ st' a' w',R st'→Now X st' a' w'→next a' w') (hp: ∀ c st' v w',RP c st'→(∃ S K,Heap X st'.hp S K w'∧Env S (K.map CO.base) st' a∧MC S (K.map CO.base) c v)→Q (.panic [{ v:=v,recovered:=false}]) a w'):o.wp Pr a w next Q:=by
 unfold Oper.wp
 rcases h with⟨v,w',hd,st',hR,hN⟩|⟨f,args,hr,hc⟩|⟨v,c,st',hr,hR,hx⟩
 · rcases hd with hd|⟨hd,rfl⟩
   · rw [hd];exact hn _ _ _ hR hN
   · rw [hd];exact hn _ _ _ hR hN
 · rw [hr]
   simp only [Oper.upon];refine hc.mono fun e w'' he=> ?_
   cases e with
   |returned v=>obtain⟨st',h1,h2⟩:=he;exact hn _ _ _ h1 h2
   |panicked ch=>obtain⟨c,st',v,h1,rfl,h2⟩:=he;exact hp _ _ _ _ h1 h2
   |outgrown=>exact he.elim
 · rw [hr];exact hp _ _ _ _ hR hx
theorem q_ok (hT:T.fits Pr) {o:Oper} {st:St} {k:D→Tree} {RP:C→St→Prop} (h:((qop alg T st o.op).tree k).ok Pr Y G) (hn:Now X st a w):
  OpOk Pr X o a w (fun st'=>∃ d,(k d).ok Pr Y G∧st'=st.put o.dst d) RP:=by
 obtain⟨S,K,hH,hE⟩:=hn;obtain⟨v,d,hy,hm,hk⟩:=sN (hH.sit hT hE) o (W:=fun w'=>w'=w) (fun _=>(hH.sit hT hE).cls) _ (QR.wJ h);exact .inl ⟨v,w,.inl (hy w rfl),_,⟨d,hk,rfl⟩,Now.put hH hE o.dst hm⟩
theorem l_ok (hT:T.fits Pr) {o:Oper} {st:St} {k:D→St→Tree} {RP:C→St→Prop} (h:((lop alg T st o.op).tree k).ok Pr Y G) (hn:Now X st a w):
  OpOk Pr X o a w (fun st'=>∃ d st1,(k d st1).ok Pr Y G∧st'=st1.put o.dst d) RP:=by
 obtain⟨S,K,hH,hE⟩:=hn;obtain⟨v,w',S',K',d,st',hd,_,_,hH',hE',hm,hk⟩:=zf0 hT hH hE o _ (LR.wJ h);exact .inl ⟨v,w',hd,_,⟨d,st',hk,rfl⟩,Now.put hH' hE' o.dst hm⟩
theorem zyw {o:Oper} {t:Nat} (ho:o.op=.alloc t) (hT:T.fits Pr) {st:St} {k:D→St→Tree} {RP:C→St→Prop} (h:((arrL alg T st t).tree k).ok Pr Y G) (hn:Now X st a w):
  OpOk Pr X o a w (fun st'=>∃ d st1,(k d st1).ok Pr Y G∧st'=st1.put o.dst d) RP:=by
 obtain⟨S,K,hH,hE⟩:=hn;obtain⟨dst,op,ty,pos,af,gd⟩:=o;simp only at ho;subst ho;obtain⟨v,w',S',K',d,st',hd,_,_,hH',hE',hm,hk⟩:=zrp hT hH hE _ (LR.wJ h);exact .inl ⟨v,w',hd,_,⟨d,st',hk,rfl⟩,Now.put hH' hE' dst hm⟩
theorem OpOk.mono {o:Oper} {R R':St→Prop} {RP:C→St→Prop} (h:OpOk Pr X o a w R RP) (hr: ∀ st,R st→R' st):OpOk Pr X o a w R' RP:=by
 rcases h with⟨v,w',hd,st',hR,hN⟩|⟨f,args,h1,hc⟩|h
 · exact .inl ⟨v,w',hd,st',hr _ hR,hN⟩
 · refine .inr (.inl ⟨f,args,h1,hc.mono fun e w' he=> ?_⟩)
   cases e with
   |returned v=>obtain⟨st',h2,h3⟩:=he;exact⟨st',hr _ h2,h3⟩
   |panicked ch=>exact he
   |outgrown=>exact he
 · exact .inr (.inr h)
theorem OpOk.turn {o:Oper} {R R':St→Prop} {RP:C→St→Prop} (h:OpOk Pr X o a w R RP) (g:St→St) (hg: ∀ {st:St} {a:Act} {w:World},Now X st a w→Now X (g st) a w) (hr: ∀ st,R st→R' (g st)):OpOk Pr X o a w R' RP:=by
 rcases h with⟨v,w',hd,st',hR,hN⟩|⟨f,args,h1,hc⟩|h
 · exact .inl ⟨v,w',hd,g st',hr _ hR,hg hN⟩
 · refine .inr (.inl ⟨f,args,h1,hc.mono fun e w' he=> ?_⟩)
   cases e with
   |returned v=>obtain⟨st',h2,h3⟩:=he;exact⟨g st',hr _ h2,hg h3⟩
   |panicked ch=>exact he
   |outgrown=>exact he
 · exact .inr (.inr h)
theorem zgh {cfg:Cfg} {t k:Nat} {st:St} {a:Act} {w:World} (hn:Now X st a w):Now X (zkT cfg t k st) a w:=by
 unfold zkT
 split
 · exact zdy _ hn
 · exact hn
theorem VN {S:Frz} {bs:List Value} {st:St} (hev: ∀ x d,st.eval x=some d→MD S bs d (a.eval x)): ∀ {xs:List Operand} {ds:List D},zbn st xs=some ds→MDs S bs ds (xs.map a.eval)
 |[],ds,h=>by cases h;trivial
 | x ::xs,ds,h=>by
   simp only [zbn] at h
   split at h
   · rename_i d ds' h1 h2
     cases h;refine⟨?_,VN hev h2⟩;have:=hev x d h1;unfold zpk
     split
     · exact xC _ _ this
     · obtain⟨vs,h3,h4⟩:=this;exact⟨vs,h3.map xC,h4⟩
     · exact this
   · cases h
theorem MDs.mono {S S':Frz} (hle:S.le S') {bs bs':List Value} (he:Ext bs bs'): ∀ {ds:List D} {vs:List Value},MDs S bs ds vs→MDs S' bs' ds vs
 |[],[],_=>trivial
 |_::_,_::_,h=>⟨h.1.mono hle he,MDs.mono hle he h.2⟩
theorem MDs.append {S:Frz} {bs:List Value}: ∀ {ds es:List D} {vs us:List Value},MDs S bs ds vs→MDs S bs es us→MDs S bs (ds++es) (vs++us)
 |[],_,[],_,_,h=>h
 |_::_,_,_::_,_,h,k=>⟨h.1,MDs.append h.2 k⟩
theorem MCap.mc {S:Frz} {bs:List Value} {c:Cap} {v:Value} (h:MCap S bs c v):MC S bs c.cell v:=by
 cases c with
 |p x=>exact h
 |ptr k off=>exact h
theorem ZV.mds {S:Frz} {bs:List Value}: ∀ {ps:List Cap} {vs:List Value},ZV S bs ps vs→MDs S bs (ps.map dP) vs
 |[],[],_=>trivial
 |_::_,_::_,h=>⟨h.1.mc,ZV.mds h.2⟩
theorem zmv {S:Frz} {bs:List Value} {z:P} {c d:C} {v:Value} (h:mixC z c=some d) (hm:MC S bs c v):MC S bs d v:=by
 unfold mixC at h
 split at h
 · rename_i p hp;cases h;exact zcc hp hm
 · split at h
   · cases h;exact hm
   · cases h;exact hm
   · cases h
theorem TL {S:Frz} {bs:List Value}: ∀ {zs:List P} {cs ds:List C} {vs:List Value},zkC zs cs=some ds→MCs S bs cs vs→MCs S bs ds vs
 |[],[],ds,vs,h,hm=>by cases h;exact hm
 | z ::zs,c::cs,ds,vs,h,hm=>by
   simp only [zkC] at h
   split at h
   · rename_i d ds' h1 h2
     cases h
     cases vs with
     |nil=>exact hm.elim
     |cons v vs=>exact⟨zmv h1 hm.1,TL h2 hm.2⟩
   · cases h
 |[],_::_,_,_,h,_=>by cases h
 |_::_,[],_,_,h,_=>by cases h
theorem wH {own:Option Bool} {S:Frz}: ∀ {ds:List D} {tys:List Nat} {hp hp':List HO} {K:List CO} {vs:List Value} {ds':List D},Xx T own ds tys hp=some (ds',hp')→MDs S (K.map CO.base) ds vs→Heap X hp S K w→
  ∃ K',Ext (K.map CO.base) (K'.map CO.base)∧Heap X hp' S K' w∧MDs S (K'.map CO.base) ds' vs
 | [],tys,hp,hp',K,vs,ds',h,hm,hH=>by
   simp only [Xx,jw,Prod.mk.injEq] at h;obtain⟨rfl,rfl⟩:=h
   cases vs with
   |nil=>exact⟨K,Ext.refl _,hH,trivial⟩
   |cons _ _=>exact hm.elim
 |d::ds,[],hp,hp',K,vs,ds',h,hm,hH=>by cases h
 |d::ds,ty::tys,hp,hp',K,[],ds',h,hm,hH=>hm.elim
 | d ::ds,ty::tys,hp,hp',K,v::vs,ds',h,hm,hH=>by
   simp only [Xx] at h
   split at h
   · split at h
     · split at h
       · rename_i r hp2 hr
         cases h;obtain⟨K',h4,h5,h6⟩:=wH hr hm.2 hH;exact⟨K',h4,h5,hm.1.mono (Frz.le.refl S) h4,h6⟩
       · cases h
     · split at h
       · rename_i E e1 e2 e3 u hT
         split at h
         · split at h
           · rename_i r hp2 hr
             cases h;have hv:=hm.1;cases hv;obtain⟨h1,h2,h3⟩:=Ye hH u E;obtain⟨K',h4,h5,h6⟩:=wH hr (hm.2.mono (Frz.le.refl S) h1) h2;exact⟨K',h1.trans h4,h5,MC.mono (Frz.le.refl S) h4 h3,h6⟩
           · cases h
         · split at h
           · rename_i r hp2 hr
             cases h;have hv:=hm.1;cases hv;obtain⟨K',h4,h5,h6⟩:=wH hr hm.2 hH;exact⟨K',h4,h5,Ve u,h6⟩
           · cases h
       · cases h
   · split at h
     · rename_i r hp2 hr
       cases h;obtain⟨K',h4,h5,h6⟩:=wH hr hm.2 hH;refine⟨K',h4,h5,?_,h6⟩;have hv:MP S (.nl _) v:=hm.1
       cases hv with
       |nl _ _ _ h2=>exact h2
     · cases h
   · split at h
     · split at h
       · rename_i ps r hp2 hps hr
         cases h;obtain⟨us,h1,rfl⟩:=hm.1;obtain⟨K',h4,h5,h6⟩:=wH hr hm.2 hH;exact⟨K',h4,h5,⟨us,(TL hps h1).mono (Frz.le.refl S) h4,rfl⟩,h6⟩
       · cases h
     · cases h
   · split at h
     · rename_i r hp2 hr
       cases h;obtain⟨K',h4,h5,h6⟩:=wH hr hm.2 hH;exact⟨K',h4,h5,hm.1.mono (Frz.le.refl S) h4,h6⟩
     · cases h
theorem zwF (hT:T.fits Pr) {cfg:Cfg} {kp:C→St→Tree} {o:Oper} {f:Operand} {xs:Array Operand} {tys:Array TypeId} {st:St} {k:St→Tree} (ho:o.op=.call ⟨.value f,xs,tys⟩) (h:(zwG alg T cfg kp o f xs.toList tys.toList st k).ok Pr Y G) (hn:Now X st a w):
  OpOk Pr X o a w (fun st'=>(k st').ok Pr Y G) (fun c st'=>(kp c st').ok Pr Y G):=by
 unfold zwG at h
 split at h
 · rename_i g caps ds hf hds
   simp only at h;obtain⟨S,K,hH,hE⟩:=hn
   have step1: ∃ S1 K1,S.le S1∧Heap X (zgJ alg cfg g ds st).hp S1 K1 w∧Env S1 (K1.map CO.base) (zgJ alg cfg g ds st) a:=by
    unfold zgJ
    split
    · obtain⟨S',K',h1,_,h3,h4⟩:=yM hH hE (ds.flatMap zmk);exact⟨S',K',h1,h3,h4⟩
    split
    · exact⟨S,K,Frz.le.refl S,hH,hE⟩
    · obtain⟨S',K',h1,_,h3,h4⟩:=yM hH hE (ds.flatMap zrz);exact⟨S',K',h1,h3,h4⟩
   generalize zgJ alg cfg g ds st=st1 at h step1;obtain⟨S1,K1,hle1,hH1,hE1⟩:=step1
   have step2: ∀ (ks:List Nat) (st1:St) (K1:List CO),Heap X st1.hp S1 K1 w→Env S1 (K1.map CO.base) st1 a→∃ K2,Heap X (shutAll (zlR cfg g) ks st1).hp S1 K2 w∧Env S1 (K2.map CO.base) (shutAll (zlR cfg g) ks st1) a:=by
    intro ks
    induction ks with
    |nil=>intro st1 K1 h1 h2;exact⟨K1,h1,h2⟩
    |cons q qs ih=>intro st1 K1 h1 h2;obtain⟨K',_,h3,h4⟩:=Ut h1 h2 q;exact ih _ _ h3 h4
   obtain⟨K2,hH2,hE2⟩:=step2 ((ds++[D.v (.one (.fn g caps))]).flatMap zo0) st1 K1 hH1 hE1;generalize shutAll (zlR cfg g) ((ds++[D.v (.one (.fn g caps))]).flatMap zo0) st1=st2 at h hH2 hE2
   split at h
   · rename_i ds2 g2 caps2 hds2 hf2
     split at h
     case h_2=>exact h.elim
     rename_i ds3 hp3 hargsOf;obtain⟨out,hp',⟨⟨fn,hfn,hname,hbody⟩,hspec⟩,hk⟩:=h
     have hev: ∀ x d,st2.eval x=some d→MD S1 (K2.map CO.base) d (a.eval x):=by
      intro x d hx
      cases x with
      |tmp t=>exact hE2.slots t _ hx
      | const v=>
        simp only [St.eval] at hx
        split at hx
        · rename_i c hc;cases hx;exact Vd hc _
        · cases hx
      |func f=>simp only [St.eval,jw] at hx;cases hx;exact⟨[],trivial,rfl⟩
      |global g=>cases hx
     obtain⟨vs0,hcap,hfv⟩:=hev _ _ hf2;obtain⟨K3,hex3,hH3',hds3⟩:=wH hargsOf (VN hev hds2) hH2;have hE2:Env S1 (K3.map CO.base) st2 a:=hE2.mono (Frz.le.refl S1) hex3;have hH2:=hH3';have hargs:=hds3.append (hcap.mono (Frz.le.refl S1) hex3).mds;have hc:=hspec S1 K3 X.fr w _ hH2.2.2.1 hargs hH2.2.2.2;refine .inr (.inl ⟨g2,(xs.toList.map a.eval++vs0).toArray,?_,hc.mono fun e w' he=> ?_⟩)
     · obtain⟨dst,op,ty,pos,af,gd⟩:=o
       simp only at ho;subst ho
       have e1:xs.map a.eval++vs0.toArray=(xs.toList.map a.eval++vs0).toArray:=by
        apply Array.ext';simp
       have e2: ∀ args:Array Value,(callFunc g2 args).run Pr w=.ok (.enter g2 args) w:=by
        intro args
        have hname': ¬ fn.name= "runtime.NumGoroutine" :=by simpa using hname
        have hbody': ¬ fn.body=none:=by cases hb:fn.body with|none=>rw [hb] at hbody;cases hbody|some c=>simp
        simp [callFunc,program,hfn,Sem.run]
        rw [if_neg hname',if_neg hbody']
       simp only [execOp,Go.resolve,hfv,Deferred.ofValue,invoke,Sem.run_bind,Sem.run_pure,Result.andThen_ok,Array.empty_append,e1,e2]
     · obtain⟨S',K',hle,hex,hHR,hat,heo⟩:=he
       have hH3:Heap X hp' S' K' w':=⟨hH2.1.trans hle,fun i v hv=>hex i v (hH2.2.1 i v hv),hHR,hat⟩
       have hE3:Env S' (K'.map CO.base) { st2 with hp:=hp'} a:=⟨hE2.size,hE2.defers.mono hle hex,fun t d hd=>(hE2.slots t d hd).mono hle hex⟩
       cases e with
       | returned v=>cases out with
         |ret d=>exact⟨_,hk,Now.put (st:= { st2 with hp:=hp'}) hH3 hE3 o.dst heo⟩
         |pan c=>exact heo.elim
       | panicked ch=>cases out with
         |ret d=>exact heo.elim
         |pan c=>obtain⟨v,h1,h2⟩:=heo;exact⟨c,_,v,hk,h1,S',K',hH3,hE3,h2⟩
       |outgrown=>cases out<;>exact heo.elim
   · exact h.elim
 · exact h.elim
theorem Yz {S:Frz} {bs:List Value} {st:St} (hev: ∀ x d,st.eval x=some d→MD S bs d (a.eval x)): ∀ {xs:List Operand} {ps:List Cap},zlQ st xs=some ps→ZV S bs ps (xs.map a.eval)
 |[],ps,h=>by cases h;trivial
 | x ::xs,ps,h=>by
   simp only [zlQ] at h
   split at h
   · rename_i p ps' h1 h2
     cases h;refine⟨?_,Yz hev h2⟩;unfold oneC at h1
     split at h1
     · rename_i c hc;cases h1;exact hev x _ hc
     · cases h1
   · rename_i k off ps' h1 h2
     cases h;refine⟨?_,Yz hev h2⟩;unfold oneC at h1
     split at h1
     · rename_i c hc;cases h1;exact hev x _ hc
     · cases h1
   · cases h
theorem Wx {t ty:Nat} {st:St} {S:Frz} {K:List CO} (hH:Heap X st.hp S K w) (hE:Env S (K.map CO.base) st a): ∃ K',Heap X (zar T t ty st).hp S K' w∧Env S (K'.map CO.base) (zar T t ty st) a:=by
 unfold zar
 split
 · rename_i E e1 e2 e3 u hl hT
   obtain⟨h1,h2,h3⟩:=Ye hH u E;have hv:=hE.slots t _ hl
   refine⟨_,by rw [uY];exact h2,Env.note (st:= { st with hp:=st.hp++[.row u E []]}) ⟨hE.size,hE.defers.mono (Frz.le.refl S) h1,fun t d hd=>(hE.slots t d hd).mono (Frz.le.refl S) h1⟩ t ?_⟩
   generalize a.tmps.getD t undef=v at hv;cases hv;exact h3
 · exact⟨K,hH,hE⟩
theorem zpm {nr:List Nat} {o:Oper} {st:St} (hn:Now X st a w):Now X (nilRow T nr o st) a w:=by
 unfold nilRow
 split
 · split
   · obtain⟨S,K,hH,hE⟩:=hn
     obtain⟨K',h1,h2⟩:=Wx (T:=T) (t:=‹Nat›) (ty:=o.type) hH hE;exact⟨S,K',h1,h2⟩
   · exact hn
 · exact hn
theorem At.zyi {w:World} {E size:Nat} {ao:Option Addr} {n cap:Nat} {xs:List Value} {l:List Chunk} (H:At w (rowC E size (.slice ao n cap) n xs::l)) {q cap':Nat} (hq:q≤n) (hc:q≤cap') (hcc:cap'≤cap):
  At w (rowC E size (.slice ao q cap') q (xs.take (q * size))::l):=by
 refine H.step fun A hA=>⟨A,⟨fun k=> ?_,?_,?_⟩,fun _ h=>.inl h,Keeps.refl _ _⟩
 · rw [hA.1 k];cases ao<;>simp [Value.ownBlock]
 · have:=hA.2.1
   have hm:q * size≤n * size:=Nat.mul_le_mul_right _ hq;rw [jv,this];omega
 · rcases hA.2.2 with⟨e,rfl⟩|⟨g,cap0,cur,fz,e,hg,hf,h1,h2,h3,h4⟩
   · cases e
     have:q=0:=by omega
     have:cap'=0:=by omega
     subst_vars
     exact .inl ⟨rfl,rfl⟩
   · cases e
     refine .inr ⟨g,cap',cur,fz,rfl,hg,hf,hc,by omega,Nat.le_trans (Nat.mul_le_mul_right _ hcc) h3,?_⟩
     rw [← h4,List.take_take,Nat.min_eq_left (Nat.mul_le_mul_right _ hq)]
theorem VU (hT:T.fits Pr) {cut:List Nat} {x:Option Nat} {st:St} {k:St→Tree} (h:(zeJ alg cut x st k).ok Pr Y G) (hn:Now X st a w): ∃ st',(k st').ok Pr Y G∧Now X st' a w:=by
 unfold zeJ at h
 split at h
 · exact⟨st,h,hn⟩
 · rename_i t
   split at h
   · exact⟨st,h,hn⟩
   · split at h
     · rename_i u j lo hi hl
       split at h
       · rename_i u' E l ho
         split at h
         · rename_i l' hcast
           obtain⟨e,he⟩:=V6 hcast;subst e;subst he;obtain⟨hlo,hk⟩:=h;rw [ZL] at hlo;subst hlo;obtain⟨S,K,hH,hE⟩:=hn;refine⟨_,hk,?_⟩;have hv:=hE.slots t _ hl;generalize hav:a.tmps.getD t undef=v at hv;rw [yg] at ho;obtain⟨ao0,cap0,vs,hkk,hlen,hxs,hrd⟩:=(hH.sit hT hE).row ho;obtain⟨ao1,n1,cap1,hb1,_,hhi,ao',cap',rfl,_,h4,h5,h6,h7,_,h9⟩:=hv;rw [zL hkk] at hb1;cases hb1;obtain⟨rfl,hcc⟩:=h9 rfl;obtain⟨p,r,hp1,hp2,hfront⟩:=ZG hkk hH.2.2.2;have hcutA:=At.zyi (show At w (rowC E u'.size (.slice ao' l.length cap0) l.length vs::_) from hfront) h4 h5 hcc;have hz0:Int.toNat 0=0:=rfl;obtain⟨q,hqe⟩: ∃ q:Nat,hi.toNat=q:=⟨_,rfl⟩;simp only [hz0,Nat.sub_zero] at hav h5
           have hc2:alg.cut l 0 hi=l.take q:=by rw [ug,hqe];simp
           rw [hqe] at h4 h5 hcutA hav
           have hlq:(l.take q).length=q:=by rw [jv];omega
           have hbs:(K.set j (.gone (.slice ao' l.length cap0))).map CO.base=K.map CO.base:=yY hkk rfl
           have he:Ext (K.map CO.base) ((K.set j (.gone (.slice ao' l.length cap0))++[CO.row E u'.size ao' q cap' (vs.take (q * u'.size))]).map CO.base):=by rw [List.map_append,hbs];exact Ext.append _ _
           refine⟨S,K.set j (.gone (.slice ao' l.length cap0))++[CO.row E u'.size ao' q cap' (vs.take (q * u'.size))],?_,?_⟩
           · rw [uY]
             refine⟨hH.1,fun k v h=>he k v (hH.2.1 k v h),?_,?_⟩
             · simp only
               rw [yJ,hc2];refine((hH.2.2.1.set j .gone).mono (Frz.le.refl S) he).push ?_
               have hR:=Rel.row (S:=S) (bs:=(K.set j (.gone (.slice ao' l.length cap0))++[CO.row E u'.size ao' q cap' (vs.take (q * u'.size))]).map CO.base) (E:=E) (ao:=ao') (cap:=cap') (u:=u') (l:=l.take q) (vs:=vs.take (q * u'.size)) (by rw [hlq,jv,hlen];have:=Nat.mul_le_mul_right u'.size h4;omega) (fun i x jj pp v hi' hj hv=> ?_)
               · rw [hlq] at hR;exact hR
               · rw [jD] at hi'
                 split at hi'
                 · rw [jD] at hv
                   split at hv
                   · exact hxs i x jj pp v hi' hj hv
                   · cases hv
                 · cases hi'
             · refine At.more ?_
               rw [hp2,zB]
               have h6:At w (frzC S::((CO.zy p++CO.chunk (CO.gone (.slice ao' l.length cap0))::CO.zy r)++(CO.row E u'.size ao' q cap' (vs.take (q * u'.size))).chunk::X.fr)):=by
                refine(At.void ?_).perm (zD _ _ _ _ _).symm;refine hcutA.perm ?_;exact xB _ _ _ _
               refine h6.perm ?_;exact(xB _ _ _ _).symm
           · refine Env.note (st:= { st with hp:=setN st.hp j .gone++[.row u' E (alg.cut l 0 hi)]}) ⟨hE.size,hE.defers.mono (Frz.le.refl S) he,fun t d hd=>(hE.slots t d hd).mono (Frz.le.refl S) he⟩ t ?_
             rw [hav]
             show MC S _ (.row st.hp.length) _
             have:st.hp.length=(K.set j (.gone (.slice ao' l.length cap0))).length:=by rw [hH.2.2.1.1];simp
             rw [this];exact⟨yZ _ _,_,_,_,rfl⟩
         · exact h.elim
       · exact h.elim
     · exact⟨st,h,hn⟩
theorem zrq (hT:T.fits Pr) {cfg:Cfg} {o:Oper} {args:Array Operand} {tys:Array TypeId} {st:St} {k:St→Tree} {RP:C→St→Prop} (ho:o.op=.call ⟨.builtin .append,args,tys⟩)
  (h:Tree.ok Pr Y G (match(match o.dst with|some t=>memN t cfg.fork|none=>false) with
   |false=>(lop alg T st (.call ⟨.builtin .append,args,tys⟩)).tree fun d st'=>k (st'.put o.dst d)
   | true=>(match args.toList,tys.toList with
     | [s,x],[t,u]=>(match ztg alg T st t u s x with
       |some (p,stA,stB)=>.need p (.both (k (stA.put o.dst (.v (.one (.row st.hp.length))))) (k (stB.put o.dst (.v (.one (.row st.hp.length))))))
       |none=>.stop 60)
     |_,_=>.stop 61))) (hn:Now X st a w):OpOk Pr X o a w (fun st'=>(k st').ok Pr Y G) RP:=by
 split at h
 · rw [← ho] at h;exact(l_ok hT h hn).mono fun _ ⟨d,st1,h3,h4⟩=>h4▸h3
 · split at h
   · rename_i s x t u h1 h2
     split at h
     · rename_i p stA stB hf
       obtain⟨S,K,hH,hE⟩:=hn
       have h1:args= #[s,x]:=by apply Array.ext';simpa using h1
       have h2:tys= #[t,u]:=by apply Array.ext';simpa using h2
       subst h1;subst h2;obtain⟨dst,op,ty,pos,af,gd⟩:=o;simp only at ho;subst ho;obtain⟨v,w',K',st',hst,hd,hH',hE',hm⟩:=zmK (dst:=dst) (ty:=ty) (pos:=pos) (af:=af) (gd:=gd) hT hH hE hf h.1;refine .inl ⟨v,w',hd,_,?_,Now.put hH' hE' dst hm⟩
       rcases hst with rfl|rfl
       · exact h.2.1
       · exact h.2.2
     · exact h.elim
   · exact h.elim
theorem zuW {o:Oper} {t yt:Nat} {x y:Operand} (ho:o.op=.binOp .add t x y yt) (hT:T.fits Pr) {st:St} {k:D→Tree} {RP:C→St→Prop} (h:((zrH alg st x y).tree k).ok Pr Y G) (hn:Now X st a w):
  OpOk Pr X o a w (fun st'=>∃ d,(k d).ok Pr Y G∧st'=st.put o.dst d) RP:=by
 obtain⟨S,K,hH,hE⟩:=hn
 have hs:yG Pr S K a (fun w'=>w'=w) o (zrH alg st x y):=by
  unfold zrH
  split
  · rename_i k1 m k2 n hx hy
    split
    · rename_i hk
      have:=tX hk;subst this;have hm:=(hH.sit hT hE).one hx;have hm':=(hH.sit hT hE).one hy;generalize hxv:a.eval x=xv at hm;generalize hyv:a.eval y=yv at hm';cases hm;cases hm';obtain⟨dst,op,ty,pos,af,gd⟩:=o;simp only at ho;subst ho
      exact zA (v:=.int _ (alg.wrap _ (alg.add m n))) (by simp [Yields,execOp,hxv,hyv,eqGuard,binOp,Op.intArith,alg]) (.int _ _)
    · exact zq
  · exact zq
 obtain⟨v,d,hy,hm,hk⟩:=hs _ (QR.wJ h);exact .inl ⟨v,w,.inl (hy w rfl),_,⟨d,hk,rfl⟩,Now.put hH hE o.dst hm⟩
theorem ztY (hT:T.fits Pr) {cfg:Cfg} {kp:C→St→Tree} {o:Oper} {st:St} {k:St→Tree} (h:(vop alg T cfg kp o st k).ok Pr Y G) (hn:Now X st a w):
  OpOk Pr X o a w (fun st'=>(k st').ok Pr Y G) (fun c st'=>(kp c st').ok Pr Y G):=by
 unfold vop at h
 split at h
 · rename_i c x y ho
   obtain⟨st',h1,h2,_⟩:=vz h hn;rw [← ho] at h1;exact(q_ok hT h1 h2).mono fun _ ⟨d,h3,h4⟩=>h4▸h3
 · rename_i t x ho
   rw [← ho] at h;exact(q_ok hT h (tN hn)).mono fun _ ⟨d,h3,h4⟩=>h4▸h3
 · rename_i x ho
   rw [← ho] at h;obtain⟨S,K,hH,hE⟩:=hn;obtain⟨v,d,hy,hm,hk⟩:=sN (hH.sit hT hE) o (W:=fun w'=>w'=w) (fun _=>(hH.sit hT hE).cls) _ (QR.wJ h);obtain⟨st',h1,h2⟩:=VU hT hk (zpm (Now.put hH hE o.dst hm));exact .inl ⟨v,w,.inl (hy w rfl),_,h1,h2⟩
 · rename_i t x v ho
   rw [← ho] at h;obtain⟨st1,h,S,K,hH,hE⟩:=VU hT h (tN (x:=x) hn);obtain⟨v',w',S',K',d,st',hd,_,_,hH',hE',hm,hk⟩:=zf0 hT hH hE o _ (LR.wJ h);refine .inl ⟨undef,w',?_,_,hk,Now.put hH' hE' o.dst ⟨[],trivial,rfl⟩⟩
   rcases hd with hd|⟨hd,_⟩
   · exfalso
     obtain⟨dst,op,ty,pos,af,gd⟩:=o;simp only at ho;subst ho;simp only [execOp,Sem.run_bind] at hd
     cases hs:(Instr.storeAt t (a.eval x) (a.eval v)).run Pr w with
     |ok u w1=>rw [hs] at hd;simp only [Result.andThen_ok,Sem.run_pure] at hd;cases hd
     |halt q w1=>rw [hs] at hd;cases hd
   · exact .inr ⟨hd,rfl⟩
 · rename_i t ho
   split at h
   · exact(zyw ho hT h hn).mono fun _ ⟨d,st1,h3,h4⟩=>h4▸h3
   · rw [← ho] at h;exact(l_ok hT h hn).mono fun _ ⟨d,st1,h3,h4⟩=>h4▸h3
 · rename_i t x ho;rw [← ho] at h;exact(l_ok hT h hn).turn (zkT cfg t st.hp.length) zgh fun _ ⟨d,st1,h3,h4⟩=>h4▸h3
 · rename_i ho;rw [← ho] at h;exact(l_ok hT h hn).mono fun _ ⟨d,st1,h3,h4⟩=>h4▸h3
 · rename_i ho;rw [← ho] at h;exact(l_ok hT h hn).mono fun _ ⟨d,st1,h3,h4⟩=>h4▸h3
 · rename_i s d x ho
   split at h
   · rw [← ho] at h;exact(l_ok hT h hn).mono fun _ ⟨d,st1,h3,h4⟩=>h4▸h3
   · rw [← ho] at h;exact(q_ok hT h hn).mono fun _ ⟨d,h3,h4⟩=>h4▸h3
 · rename_i fn first captured ho
   split at h
   · rename_i f ps hfirst hcaps
     have hfirst:first= #[]:=by apply Array.ext';simpa using hfirst
     subst hfirst;obtain⟨S,K,hH,hE⟩:=hn;have hm:=Yz (hH.eval hT hE) hcaps;refine .inl ⟨.func (.func f) #[] (captured.toList.map a.eval).toArray,w,.inl ?_,_,h,Now.put hH hE o.dst ⟨_,hm,rfl⟩⟩;obtain⟨dst,op,ty,pos,af,gd⟩:=o;simp only at ho;subst ho
     have e1:Array.map a.eval captured=(captured.toList.map a.eval).toArray:=by apply Array.ext';simp
     simp [execOp,Instr.makeFunc,e1]
   · exact h.elim
 · rename_i x ho
   split at h
   · rename_i t b ps hc
     obtain⟨S,K,hH,hE⟩:=hn;have hm:=(hH.sit hT hE).one hc;generalize hx:a.eval x=xv at hm;refine .inr (.inr ⟨xv,_,st,?_,h,S,K,hH,hE,hm⟩)
     obtain⟨y,rfl⟩: ∃ y,xv=.iface t y:=by
      cases b with
      | false=>cases ps with
        |nil=>exact hm.elim
        | cons p ps=>cases ps with
          |nil=>obtain⟨y,_,rfl⟩:=hm;exact⟨y,rfl⟩
          |cons _ _=>exact hm.elim
      |true=>obtain⟨vs,_,rfl⟩:=hm;exact⟨_,rfl⟩
     obtain⟨dst,op,ty,pos,af,gd⟩:=o;simp only at ho;subst ho
     simp [execOp,hx,Instr.panic]
   · exact h.elim
 · rename_i c ho
   obtain⟨callee,args,tys⟩:=c
   cases callee with
   | builtin b=>
     cases b<;>first
      |(simp only at h;rw [← ho] at h;exact(q_ok hT h hn).mono fun _ ⟨d,h3,h4⟩=>h4▸h3)
      |exact zrq hT ho h hn
      |(simp only at h;rw [← ho] at h;exact(l_ok hT h hn).mono fun _ ⟨d,st1,h3,h4⟩=>h4▸h3)
   |value f=>exact zwF hT ho h hn
   |invoke r m=>exact h.elim
 · rename_i t x y yt ho
   split at h
   · exact(zuW ho hT h hn).mono fun _ ⟨d,h3,h4⟩=>h4▸h3
   · rw [← ho] at h;exact(q_ok hT h hn).mono fun _ ⟨d,h3,h4⟩=>h4▸h3
 · exact(q_ok hT h hn).mono fun _ ⟨d,h3,h4⟩=>h4▸h3
theorem zhi {o:Oper} {f:Operand} {st:St} {k:St→Tree} (h:(zqN o f st k).ok Pr Y G):
  o.dst=none∧∃ g caps,st.df=none∧st.eval f=some (.v (.one (.fn g caps)))∧(k { st with df:=some (g,caps)}).ok Pr Y G:=by
 unfold zqN at h
 split at h
 · rename_i h1 h2 h3;exact⟨h1,_,_,h2,h3,h⟩
 · exact h.elim
theorem zqM {o:Oper} {f:Operand} {g:Nat} {vs:List Value} (hdf:ziR o.op=some f) (hfv:a.eval f=.func (.func g) #[] vs.toArray):
  (execOp a.eval o).run Pr w=.ok (.defer ⟨.fn (.func g) vs.toArray,#[]⟩) w:=by
 obtain⟨dst,op,ty,pos,af,gd⟩:=o;unfold ziR at hdf
 split at hdf
 · rename_i c hop
   simp only at hop;subst hop;obtain⟨callee,args,tys⟩:=c
   split at hdf
   · rename_i x hcal hargs
     simp only at hcal hargs;subst hcal;cases hdf
     have hargs:args= #[]:=by apply Array.ext';simpa using hargs
     subst hargs
     simp [execOp,Go.resolve,hfv,Deferred.ofValue]
   · cases hdf
 · cases hdf
theorem Zv {all:List Oper} {o:Oper} {st:St} {kt kf:St→Tree} (h:(zcv all o st kt kf).ok Pr Y G) (hn:Now X st a w):
  ∃ st',Now X st' a w∧st'.hp=st.hp∧((Region.wanted o (yielded all.toArray a.tmps)=true∧(kt st').ok Pr Y G)∨(Region.wanted o (yielded all.toArray a.tmps)=false∧(kf st').ok Pr Y G)):=by
 unfold zcv at h;unfold Region.wanted
 split at h
 · rename_i hg;rw [hg];exact⟨st,hn,rfl,.inl ⟨rfl,h⟩⟩
 · rename_i j want hg
   rw [hg];simp only
   split at h
   · exact h.elim
   · rename_i oj hj
     rw [yg] at hj
     split at h
     · exact h.elim
     · rename_i t ht
       obtain⟨st',h1,h2,h3⟩:=vz h hn;refine⟨st',h2,h3,?_⟩;obtain⟨S,K,hH,hE⟩:=h2
       have hy: ∀ v,a.tmps.getD t undef=v→yielded all.toArray a.tmps j=match(a.tmps[t]?) with|some (.bool b)=>some b|_=>none:=by
        intro v _;unfold yielded;simp only [List.getElem?_toArray,hj,Option.bind_some,ht];rfl
       split at h1
       · rename_i hl
         have hm:=hE.slots t _ hl;generalize hv:a.tmps.getD t undef=v at hm;cases hm
         have hsome:a.tmps[t]? =some (.bool true):=by
          cases hq:a.tmps[t]? with
          |none=>simp [hq,undef] at hv
          |some u=>simp [hq] at hv;rw [hv]
         rw [hy _ rfl,hsome]
         cases want<;>simp at h1 ⊢ <;>exact h1
       · rename_i hl
         have hm:=hE.slots t _ hl;generalize hv:a.tmps.getD t undef=v at hm;cases hm
         have hsome:a.tmps[t]? =some (.bool false):=by
          cases hq:a.tmps[t]? with
          |none=>simp [hq,undef] at hv
          |some u=>simp [hq] at hv;rw [hv]
         rw [hy _ rfl,hsome]
         cases want<;>simp at h1 ⊢ <;>exact h1
       · rename_i hl
         have hm:=hE.slots t _ hl;generalize hv:a.tmps.getD t undef=v at hm;obtain⟨vs,h4,rfl⟩:=hm;rw [hy _ rfl];refine .inr ⟨?_,h1⟩
         cases hq:a.tmps[t]? with
         |none=>simp
         |some u=>simp [hq] at hv;rw [hv];simp
       · exact h1.elim
theorem qN (hT:T.fits Pr) {cfg:Cfg} {all:List Oper} {kp:C→St→Tree} {k:St→Tree} {R:AEx→St→Prop} (hk: ∀ st,(k st).ok Pr Y G→R .normal st) (hkp: ∀ c st,(kp c st).ok Pr Y G→R (.pan c) st):
  ∀ {l:List Oper} {st:St} {a:Act} {w:World},(vops alg T cfg all kp k l st).ok Pr Y G→Now X st a w→wpList Pr all.toArray (Post X R) l a w
 | [],st,a,w,h,hn=>by
   obtain⟨S,K,hH,hE⟩:=hn;exact⟨.normal,st,hk _ h,S,K,hH,hE,trivial⟩
 | o ::r,st,a,w,h,hn=>by
   simp only [vops,Y9] at h
   obtain⟨st',hn',_,⟨hw,h1⟩|⟨hw,h1⟩⟩:=Zv h hn
   · refine BigFrame.wpList_want hw fun Kx hKx=> ?_
     split at h1
     · rename_i f hdf
       obtain⟨hd0,g,caps,hf0,hev,hk2⟩:=zhi h1;obtain⟨S,K,hH,hE⟩:=hn';have hm:=(hH.eval hT hE) _ _ hev;obtain⟨vs,hcap,hfv⟩:=hm;have hr:=zqM (a:=a) (w:=w) (Pr:=Pr) hdf hfv;unfold Oper.wp;rw [hr];simp only [Oper.upon];rw [hd0];refine hKx _ _ (qN hT hk hkp hk2 ⟨S,K,hH,⟨hE.size,⟨vs,hcap,?_⟩,hE.slots⟩⟩);have:=hE.defers;rw [hf0] at this;simp only [MDf] at this
       simp [Act.put,this]
     exact(ztY hT h1 hn').wp (fun st2 a2 w2 hR hN=>hKx _ _ (qN hT hk hkp hR hN)) fun c st2 v w2 hR ⟨S,K,hH,hE,hm⟩=>⟨.pan c,st2,hkp _ _ hR,S,K,hH,hE,v,rfl,hm⟩
   · unfold wpList
     rw [if_neg (by rw [hw];simp)]
     obtain⟨S,K,hH,hE⟩:=hn';exact qN hT hk hkp h1 (Now.put hH hE o.dst ⟨[],trivial,rfl⟩)
theorem zmm (hT:T.fits Pr) {o:Oper} {st:St} {k:St→Tree} (h:(qopO alg T o st k).ok Pr Y G) (hn:Now X st a w): ∃ v st',Yields Pr a (fun w'=>w'=w) o v∧(k st').ok Pr Y G∧Now X st' (a.put o.dst v) w:=by
 have go: ∀ {st:St},((qop alg T st o.op).tree fun d=>k (st.put o.dst d)).ok Pr Y G→Now X st a w→∃ v st',Yields Pr a (fun w'=>w'=w) o v∧(k st').ok Pr Y G∧Now X st' (a.put o.dst v) w:=by
  intro st h hn;obtain⟨S,K,hH,hE⟩:=hn;obtain⟨v,d,hy,hm,hk⟩:=sN (hH.sit hT hE) o (W:=fun w'=>w'=w) (fun _=>(hH.sit hT hE).cls) _ (QR.wJ h);exact⟨v,_,hy,hk,Now.put hH hE o.dst hm⟩
 unfold qopO at h
 split at h
 · rename_i c x y ho
   obtain⟨st',h1,h2,_⟩:=vz h hn;rw [← ho] at h1;exact go h1 h2
 · rename_i t x ho
   rw [← ho] at h;exact go h (tN hn)
 · exact go h hn
theorem ZW (hT:T.fits Pr) {all:List Oper} {k:St→Tree} {Q:Act→Prop} (hk: ∀ st a,(k st).ok Pr Y G→Now X st a w→Q a):
  ∀ {l:List Oper} {st:St} {a:Act},(ze7 alg T all k l st).ok Pr Y G→Now X st a w→wpStill Pr all.toArray w Q l a
 |[],st,a,h,hn=>hk _ _ h hn
 | o ::r,st,a,h,hn=>by
   simp only [ze7,Y9] at h
   obtain⟨st',hn',_,⟨hw,h1⟩|⟨hw,h1⟩⟩:=Zv h hn
   · obtain⟨v,st2,hy,h2,h3⟩:=zmm hT h1 hn'
     exact zuX hw (hy w rfl) (ZW hT hk h2 h3)
   · unfold wpStill
     rw [if_neg (by rw [hw];simp)]
     obtain⟨S,K,hH,hE⟩:=hn';exact ZW hT hk h1 (Now.put hH hE o.dst ⟨[],trivial,rfl⟩)
theorem OpOk.wp3 {o:Oper} {R:St→Prop} {RP:C→St→Prop} (h:OpOk Pr X o a w R RP) {next:Act→World→Prop} {Q:Exit→Act→World→Prop}
  (hn: ∀ st' v w',R st'→Now X st' (a.put o.dst v) w'→next (a.put o.dst v) w') (hp: ∀ c st' v w',RP c st'→(∃ S K,Heap X st'.hp S K w'∧Env S (K.map CO.base) st' a∧MC S (K.map CO.base) c v)→Q (.panic [{ v:=v,recovered:=false}]) a w'):o.wp Pr a w next Q:=by
 unfold Oper.wp
 rcases h with⟨v,w',hd,st',hR,hN⟩|⟨f,args,hr,hc⟩|⟨v,c,st',hr,hR,hx⟩
 · rcases hd with hd|⟨hd,rfl⟩
   · rw [hd];exact hn _ _ _ hR hN
   · rw [hd];exact hn _ _ _ hR hN
 · rw [hr]
   simp only [Oper.upon];refine hc.mono fun e w'' he=> ?_
   cases e with
   |returned v=>obtain⟨st',h1,h2⟩:=he;exact hn _ _ _ h1 h2
   |panicked ch=>obtain⟨c,st',v,h1,rfl,h2⟩:=he;exact hp _ _ _ _ h1 h2
   |outgrown=>exact he.elim
 · rw [hr];exact hp _ _ _ _ hR hx
theorem zmJ {S S':Frz} {l:List Chunk} (hle:S.le S') (H:At w (frzC S'::l)):At w (frzC S::l):=by
 obtain⟨F,A,B,e,dj,⟨h0,h1⟩,hr⟩:=H;refine⟨fun k=>(S.blk k).isSome=true∨B k,fun k=>(S.blk k).isSome=true,B,fun _=>Iff.rfl,fun k hA hB=>dj k ?_ hB,⟨fun _=>Iff.rfl,Frz.on.mono h1 hle⟩,hr⟩;refine(h0 k).2 ?_;obtain⟨o,ho⟩:=Option.isSome_iff_exists.1 hA;rw [hle.2.2.2 k o ho];rfl
theorem UA {S:Frz} {B:List Value}: ∀ {qs:List Nat} {os hp:List HO} {cs K:List CO},os.length=cs.length→os.length=qs.length→HR S B hp K→(∀ (i:Nat) (o:HO) (c:CO),os[i]? =some o→cs[i]? =some c→Rel S B o c)→HR S B (putH qs os hp) (zT qs cs K)
 | [],os,hp,cs,K,hl,hq,hr,ho=>by
   have h1:os=[]:=List.eq_nil_of_length_eq_zero (by simpa using hq)
   subst h1
   have h2:cs=[]:=List.eq_nil_of_length_eq_zero (by simpa using hl.symm)
   subst h2;simp only [putH,zT,List.append_nil];exact hr
 | q::qs,o::os,hp,c::cs,K,hl,hq,hr,ho=>by
   simp only [putH,zT]
   refine UA (by simpa using hl) (by simpa using hq) ?_ (fun i o' c' h1 h2=>ho (i+1) o' c' (by simpa using h1) (by simpa using h2))
   rw [yJ];exact hr.set q (ho 0 o c rfl rfl)
 |q::qs,[],hp,cs,K,hl,hq,_,_=>by cases hq
 |q::qs,o::os,hp,[],K,hl,_,_,_=>by cases hl
theorem zzk {w:World} {S:Frz} {K:List CO} {fr:List Chunk} {q:Nat} {c:CO} (hq:q<K.length) (H:At w (frzC S::(CO.zy K++(c.chunk::fr)))):At w (frzC S::(CO.zy (K.set q c)++fr)):=by
 obtain⟨p,r,h1,_,h3⟩:=xE (jm hq);rw [h3,zB];rw [h1,zB] at H;have H2:=(H.perm (zD _ _ _ _ _)).tail;have H3:=H2.perm ((xB c.chunk (frzC S) (CO.zy p++CO.zy r) fr).symm);exact H3.perm (zD _ _ _ _ _).symm
theorem zrn {S:Frz}: ∀ {qs:List Nat} {cs K:List CO} {fr:List Chunk},qs.length=cs.length→(∀ q ∈ qs,q<K.length)→At w (frzC S::(CO.zy K++(CO.zy cs++fr)))→At w (frzC S::(CO.zy (zT qs cs K)++fr))
 | [],cs,K,fr,hl,_,hat=>by
   have h2:cs=[]:=List.eq_nil_of_length_eq_zero (by simpa using hl.symm)
   subst h2
   simpa [zT,CO.zy] using hat
 | q::qs,c::cs,K,fr,hl,hqs,hat=>by
   simp only [zT]
   refine zrn (by simpa using hl) (fun q' h'=>by simp;exact hqs q' (List.mem_cons_of_mem _ h')) ?_
   exact zzk (c:=c) (hqs q (List.mem_cons_self ..)) (fr:=CO.zy cs++fr) (by simpa [CO.zy] using hat)
 |q::qs,[],K,fr,hl,_,_=>by cases hl
theorem zbF {K:List CO} {q:Nat} {c:CO} (h:(K.map CO.base)[q]? =some c.base):(K.set q c).map CO.base=K.map CO.base:=by
 have hlt:q<K.length:=by simpa using (jl.1 h).1
 have hc:K[q]? =some K[q]:=jm hlt;refine yY hc ?_;rw [zL hc] at h;simp only [jw] at h;exact h.symm
theorem Uz: ∀ {qs:List Nat} {cs K:List CO},(∀ (i q:Nat) (c:CO),qs[i]? =some q→cs[i]? =some c→(K.map CO.base)[q]? =some c.base)→qs.length=cs.length→(zT qs cs K).map CO.base=K.map CO.base
 | [],cs,K,_,hl=>by
   have h2:cs=[]:=List.eq_nil_of_length_eq_zero (by simpa using hl.symm)
   subst h2
   simp [zT]
 | q::qs,c::cs,K,h,hl=>by
   have h0:=zbF (h 0 q c rfl rfl);simp only [zT]
   rw [Uz (fun i q' c' h1 h2=>by rw [h0];exact h (i+1) q' c' (by simpa using h1) (by simpa using h2)) (by simpa using hl),h0]
 |q::qs,[],K,_,hl=>by cases hl
theorem zlV {S:Frz}: ∀ {B:List Value} {l:List Chunk},At w (frzC S::l)→At w (frzC S::(CO.zy (B.map CO.gone)++l))
 |[],l,h=>h
 | v::B,l,h=>by
   have h1:=zlV (B:=B) h;refine(At.void h1).perm ?_;simp only [List.map_cons,CO.zy,CO.chunk,List.cons_append];exact List.Perm.swap _ _ _
structure Kept (X:Ctx) (S0:Frz) (B0:List Value) (qs:List Nat) (os:List HO) (Cs:List CO):Prop where
 le:X.S0.le S0
 ext:Ext X.bs0 B0
 len:Cs.length=os.length
 len2:os.length=qs.length
 base: ∀ (i q:Nat) (c:CO),qs[i]? =some q→Cs[i]? =some c→B0[q]? =some c.base
 rel: ∀ (i:Nat) (o:HO) (c:CO),os[i]? =some o→Cs[i]? =some c→Rel S0 B0 o c
def Kept.ctx (X:Ctx) (S0:Frz) (B0:List Value) (Cs:List CO):Ctx:=⟨S0,B0,CO.zy Cs++X.fr⟩
def Held (S0:Frz) (Cs:List CO):World→Prop:=fun w=>∃ S fr,S0.le S∧At w (frzC S::(CO.zy Cs++fr))
section
variable {S0:Frz} {B0:List Value} {qs:List Nat} {os:List HO} {Cs:List CO}
theorem Kept.lt (h:Kept X S0 B0 qs os Cs) {q:Nat} (hq:q ∈ qs):q<B0.length:=by
 obtain⟨i,hi⟩:=List.getElem?_of_mem hq
 have hil:i<Cs.length:=by rw [h.len,h.len2];exact(jl.1 hi).1
 exact(jl.1 (h.base i q _ hi (jm hil))).1
theorem Kept.held {st:St} (hn:Now (Kept.ctx X S0 B0 Cs) st a w):Held S0 Cs w:=by
 obtain⟨S,K,hH,hE⟩:=hn;refine⟨S,CO.zy K++X.fr,hH.1,hH.2.2.2.perm (List.Perm.cons _ ?_)⟩;have h9:(CO.zy K++CO.zy Cs).Perm (CO.zy Cs++CO.zy K):=List.perm_append_comm;have h10:=h9.append_right X.fr;rw [jo,jo] at h10;exact h10
theorem Kept.merge (h:Kept X S0 B0 qs os Cs) {st:St} {S:Frz} {K:List CO} (hH:Heap (Kept.ctx X S0 B0 Cs) st.hp S K w):
  ∃ K',K'.map CO.base=K.map CO.base∧Heap X (putH qs os st.hp) S K' w:=by
 have hb: ∀ (i q:Nat) (c:CO),qs[i]? =some q→Cs[i]? =some c→(K.map CO.base)[q]? =some c.base:=fun i q c e1 e2=>hH.2.1 q _ (h.base i q c e1 e2)
 have hlt: ∀ q ∈ qs,q<K.length:=fun q hq=>by
  obtain⟨i,hi⟩:=List.getElem?_of_mem hq
  have hil:i<Cs.length:=by rw [h.len,h.len2];exact(jl.1 hi).1
  have:=(jl.1 (hb i q _ hi (jm hil))).1
  simpa using this
 have hl:qs.length=Cs.length:=by rw [h.len,h.len2]
 have e:=Uz hb hl
 refine⟨zT qs Cs K,e,h.le.trans hH.1,fun k v hv=>by rw [e];exact hH.2.1 k v (h.ext k v hv),?_,zrn hl hlt hH.2.2.2⟩
 rw [e];exact UA h.len.symm h.len2 hH.2.2.1 fun i o c e1 e2=>(h.rel i o c e1 e2).mono hH.1 hH.2.1
theorem Kept.cls (h:Kept X S0 B0 qs os Cs):Cls S0 (zT qs Cs (B0.map CO.gone)) (Held S0 Cs):=by
 intro w' ⟨S,fr,hle,hat⟩
 exact⟨S,fr,hle,zrn (by rw [h.len,h.len2]) (fun q hq=>by simpa using h.lt hq) (zlV hat)⟩
theorem zcw (B:List Value):(B.map CO.gone).map CO.base=B:=by
 rw [List.map_map]
 have:(CO.base ∘ CO.gone)=id:=by funext v;simp [CO.base]
 rw [this,List.map_id]
theorem Kept.bases (h:Kept X S0 B0 qs os Cs):(zT qs Cs (B0.map CO.gone)).map CO.base=B0:=by
 rw [Uz (fun i q c e1 e2=>by rw [zcw];exact h.base i q c e1 e2) (by rw [h.len,h.len2]),zcw]
theorem TU: ∀ (l:List HO),(za5 l).length=l.length
 |[]=>rfl
 |_::l=>by simp [za5,TU l]
theorem zgm: ∀ (l:List HO) (i:Nat) (o:HO),(za5 l)[i]? =some o→o=.gone
 |[],i,o,h=>by simp [za5] at h
 |_::l,0,o,h=>by simp [za5] at h;exact h.symm
 |_::l,i+1,o,h=>zgm l i o (by simpa [za5] using h)
theorem Kept.sit (hT:T.fits Pr) (h:Kept X S0 B0 qs os Cs) {hpr:List HO} (hl:hpr.length=B0.length) {stk:St} (he:stk.hp=putH qs os (za5 hpr)) (hE:Env S0 B0 stk a) (hw:Held S0 Cs w):
  ∃ fr,Sit Pr T S0 (zT qs Cs (B0.map CO.gone)) fr stk a w:=by
 obtain⟨S,fr,hle,hat⟩:=h.cls w hw
 refine⟨fr,hT,?_,zmJ hle hat,by rw [h.bases];exact hE⟩
 rw [h.bases,he]
 refine UA h.len.symm h.len2 ⟨by simp [TU,hl],fun i o c e1 e2=> ?_⟩ h.rel
 rw [zgm _ _ _ e1];exact .gone
def MixQ (X:Ctx) (R:AEx→St→Prop):Exit→Act→World→Prop:=fun e a w=>match e with
 |.normal=>Post X R .normal a w
 |.panic ch=>∃ c st',R (.pan c) st'∧st'.env=[]∧∃ S K v,Heap X st'.hp S K w∧Env S (K.map CO.base) st' a∧ch=[{ v:=v,recovered:=false}]∧MC S (K.map CO.base) c v
 |_=>False
theorem zkB {X:Ctx} {R:AEx→St→Prop} (dst:Option Tmp) (v:Value) (ch:List PanicEntry) (a:Act) (w:World) (h:MixQ X R (.panic ch) (a.put dst v) w):MixQ X R (.panic ch) a w:=by
 obtain⟨c,st',h1,h2,S,K,u,h3,h4,h5,h6⟩:=h
 refine⟨c,st',h1,h2,S,K,u,h3,⟨?_,?_,fun t d hd=>by rw [h2] at hd;cases hd⟩,h5,h6⟩
 · have:=h4.size
   cases dst with
   |none=>exact this
   |some t=>simpa [Act.put] using this
 · have:=h4.defers
   cases dst with
   |none=>exact this
   |some t=>exact this
theorem zcl {f:Nat→Tree}: ∀ {r:List Nat},(zij f r).ok Pr Y G→∀ i ∈ r,(f i).ok Pr Y G
 |[],_,i,hi=>by cases hi
 | [j],h,i,hi=>by
   have:i=j:=by simpa using hi
   subst this;exact h
 | j::k::r,h,i,hi=>by
   rcases List.mem_cons.1 hi with e|e
   · subst e;exact h.1
   · exact zcl (r:=k::r) h.2 i e
theorem qI {all:List Oper} {listed:Array Bool} {st stk:St}: ∀ {r:List Nat} {i:Nat},ru alg T all listed st stk r=some i→i ∈ r∧Region.free .any all.toArray listed i=true
 |[],i,h=>by cases h
 | j ::r,i,h=>by
   simp only [ru] at h;have again:ru alg T all listed st stk r=some i→i ∈ j::r∧Region.free .any all.toArray listed i=true:=fun h=>⟨List.mem_cons_of_mem _ (qI h).1,(qI h).2⟩
   split at h
   · split at h
     · split at h
       · rename_i hf;cases h;exact⟨List.mem_cons_self ..,hf⟩
       · exact again h
     · exact again h
   · exact again h
theorem zeV {S:Frz} {bs:List Value} {stk:St} (h:Env S bs stk a) (dst:Option Nat) (v:Value):Env S bs (stk.put dst .bad) (a.put dst v):=h.put dst trivial
theorem ziX (hT:T.fits Pr) (h:Kept X S0 B0 qs os Cs) {hpr:List HO} (hl:hpr.length=B0.length) {o:Oper} {st stk:St} {k:St→St→Tree} (ht:(zwE alg T qs os o st stk k).ok Pr Y G)
  (hn:Now (Kept.ctx X S0 B0 Cs) st a w) (he:stk.hp=putH qs os (za5 hpr)) (hE:Env S0 B0 stk a):
  ∃ v st' stk',Yields Pr a (Held S0 Cs) o v∧(k st' stk').ok Pr Y G∧Now (Kept.ctx X S0 B0 Cs) st' (a.put o.dst v) w∧stk'.hp=stk.hp∧Env S0 B0 stk' (a.put o.dst v):=by
 unfold zwE at ht
 split at ht
 · obtain⟨fr,hs⟩:=h.sit hT hl he hE (Kept.held hn)
   obtain⟨v,d,hy,hm,hk⟩:=sN hs o (W:=Held S0 Cs) (fun _=>h.cls) _ (QR.wJ ht);rw [h.bases] at hm;obtain⟨S,K,hH,hE2⟩:=hn;exact⟨v,_,_,hy,hk,Now.put hH hE2 o.dst (hm.mono hH.1 hH.2.1),uY _ _ _,hE.put o.dst hm⟩
 · have go: ∀ {st:St},zkx o.op=false→((qop alg T { st with hp:=putH qs os st.hp} o.op).tree fun d=>k (st.put o.dst d) (stk.put o.dst .bad)).ok Pr Y G→Now (Kept.ctx X S0 B0 Cs) st a w→
     ∃ v st' stk',Yields Pr a (Held S0 Cs) o v∧(k st' stk').ok Pr Y G∧Now (Kept.ctx X S0 B0 Cs) st' (a.put o.dst v) w∧stk'.hp=stk.hp∧Env S0 B0 stk' (a.put o.dst v):=by
    intro st hnw ht hn;obtain⟨S,K,hH,hE2⟩:=hn;obtain⟨K',hb,hH2⟩:=h.merge hH
    have hE3:Env S (K'.map CO.base) { st with hp:=putH qs os st.hp} a:=by rw [hb];exact⟨hE2.size,hE2.defers,hE2.slots⟩
    obtain⟨v,d,hy,hm,hk⟩:=sN (hH2.sit hT hE3) o (W:=Held S0 Cs) (fun e=>by rw [hnw] at e;cases e) _ (QR.wJ ht)
    rw [hb] at hm;exact⟨v,_,_,hy,hk,Now.put hH hE2 o.dst hm,uY _ _ _,zeV hE o.dst v⟩
   split at ht
   · exact ht.elim
   · rename_i hnw
     split at ht
     · rename_i c x y ho
       obtain⟨st',h1,h2,_⟩:=vz ht hn;rw [← ho] at h1;exact go hnw h1 h2
     · exact go hnw ht hn
theorem zm8 {b:Nat} {pre:Option (List Nat)} {r:List Nat} {i:Nat} (h:i ∈ zrt b pre r):i ∈ r∧(∀ l,pre=some l→i ∈ l)∧b≠i:=by
 unfold zrt at h;rw [List.mem_filter] at h;obtain⟨h1,h2⟩:=h
 split at h2
 · cases h2
 rename_i hb
 have hne:b≠i:=fun e=>by subst e;simp at hb
 refine⟨h1,fun l e=> ?_,hne⟩;subst e;exact qW h2
theorem zck {i:Nat}: ∀ {l:List Nat},i ∈ l→xJ i l=true
 | j ::r,h=>by
   unfold xJ
   split
   · rfl
   · rename_i hb
     rcases List.mem_cons.1 h with e|e
     · subst e;simp at hb
     · exact zck e
theorem zaU {o:Oper} {j:Nat}:j ∈ zbH o↔∃ e ∈ o.after,Region.binds .any e=true∧e.on=j:=by
 unfold zbH
 have: ∀ l:List Edge,j ∈ zic l↔∃ e ∈ l,Region.binds .any e=true∧e.on=j:=by
  intro l
  induction l with
  |nil=>simp [zic]
  | cons e r ih=>
    simp only [zic]
    split
    · rename_i h;simp only [List.mem_cons,ih,exists_eq_or_imp,h,true_and]
      exact or_congr ⟨fun h=>h.symm,fun h=>h.symm⟩ Iff.rfl
    · rename_i h;simp [ih,h]
 simpa using this o.after.toList
theorem zrB {ops:List Oper} {j:Nat} {o:Oper} (ho:ops[j]? =some o):zbM ops j=zbH o:=by
 unfold zbM zbH;rw [ho];simp only;generalize o.after.toList=l
 induction l with
 |nil=>rfl
 | cons e r ih=>
   simp only [List.filterMap_cons,zic,ih]
   cases Region.binds .any e<;>rfl
theorem zfb {full:List Row1}: ∀ {l:List Row1} {n k:Nat},(zl5 full n l)[k]? =(l[k]?).map fun x=>⟨x.aft,Xw (n+k) x 0 full⟩
 |[],n,k=>by simp [zl5]
 |x::r,n,0=>by simp [zl5]
 | x::r,n,k+1=>by
   simp only [zl5,List.getElem?_cons_succ];rw [zfb (l:=r)]
   rw [show n+1+k=n+(k+1) by omega]
def row1 (all:List Oper) (o:Oper):Row1:=⟨zbH o,o.dst,zaW all o⟩
theorem UH {all:List Oper}: ∀ {l:List Oper} {k:Nat},(TJ all l)[k]? =(l[k]?).map (row1 all)
 |[],k=>by simp [TJ]
 |x::r,0=>by simp [TJ,row1]
 |x::r,k+1=>by simp only [TJ,List.getElem?_cons_succ];exact UH
theorem X5 {all:List Oper} {k:Nat}:(Xo all)[k]? =(all[k]?).map fun o=>⟨zbH o,Xw k (row1 all o) 0 (TJ all all)⟩:=by
 unfold Xo;rw [zfb,UH,Option.map_map];simp only [Nat.zero_add];rfl
theorem zrA {all:List Oper} {j:Nat}:aftT (Xo all) j=zbM all j:=by
 unfold aftT;rw [yg,X5]
 cases h:all[j]? with
 |none=>simp [zbM,h]
 |some o=>simp [zrB h]
theorem zaI {all:List Oper}: ∀ {f:Nat} {l acc:List Nat},zcf (Xo all) f l acc=XF all f l acc
 |0,_,_=>rfl
 |_+1,[],_=>rfl
 | f+1,j::r,acc=>by
   simp only [zcf,XF,zrA];cases xJ j acc
   · exact zaI
   · exact zaI
theorem Uf {l:List Bool}: ∀ {r:List Nat},Ug l r=true↔∀ j ∈ r,l[j]? =some true
 |[]=>by simp [Ug]
 | j ::r=>by
   simp only [Ug,yg]
   split
   · rename_i h;simp [h,Uf (r:=r)]
   · rename_i h
     constructor
     · intro hf;cases hf
     · intro hf;exact absurd (hf j (List.mem_cons_self ..)) h
theorem zcj {full:List Bool} {i:Nat}: ∀ {n:Nat} {tb:List Row2} {l:List Bool},i ∈ rV full n tb l↔∃ k x,i=n+k∧tb[k]? =some x∧l[k]? =some false∧Ug full x.aft=true
 |n,[],l=>by simp [rV]
 |n,x::r,[]=>by simp [rV]
 | n,x::r,b::l=>by
   have ih:=zcj (full:=full) (i:=i) (n:=n+1) (tb:=r) (l:=l)
   have hs:(∃ k y,i=n+k∧(x::r)[k]? =some y∧(b::l)[k]? =some false∧Ug full y.aft=true)↔(i=n∧b=false∧Ug full x.aft=true)∨∃ k y,i=n+1+k∧r[k]? =some y∧l[k]? =some false∧Ug full y.aft=true:=by
    constructor
    · rintro⟨k,y,h1,h2,h3,h4⟩
      cases k with
      |zero=>simp at h2 h3;subst h2;exact .inl ⟨h1,h3,h4⟩
      |succ k=>exact .inr ⟨k,y,by omega,by simpa using h2,by simpa using h3,h4⟩
    · rintro(⟨h1,h2,h3⟩|⟨k,y,h1,h2,h3,h4⟩)
      · exact⟨0,x,h1,rfl,by simp [h2],h3⟩
      · exact⟨k+1,y,by omega,by simpa using h2,by simpa using h3,h4⟩
   rw [hs,← ih];simp only [rV]
   cases b with
   |true=>simp
   | false=>
     simp only
     split
     · rename_i h;simp [h]
     · rename_i h;simp [h]
theorem zrl {listed:Array Bool} {j:Nat}:listed.toList[j]? =some true↔listed.getD j false=true:=by
 rw [Array.getD_eq_getD_getElem?,← Array.getElem?_toList]
 cases listed.toList[j]? <;>simp
theorem zeW {listed:Array Bool} {j:Nat}:listed.toList[j]? =some false↔listed.getD j true=false:=by
 rw [Array.getD_eq_getD_getElem?,← Array.getElem?_toList]
 cases listed.toList[j]? <;>simp
theorem ready_one {all:List Oper} {listed:Array Bool} {i:Nat} {x:Row2} (h2:(Xo all)[i]? =some x) (h3:listed.toList[i]? =some false) (h4:Ug listed.toList x.aft=true):i ∈ Region.ready .any all.toArray listed:=by
 rw [mem_ready];rw [X5] at h2
 cases ho:all[i]? with
 |none=>rw [ho] at h2;cases h2
 | some o=>
   rw [ho] at h2;cases h2
   exact⟨zeW.1 h3,o,by simpa using ho,fun e he hb=>zrl.1 (Uf.1 h4 _ (zaU.2 ⟨e,he,hb,rfl⟩))⟩
theorem WW {all:List Oper} {listed:Array Bool} {i:Nat}:i ∈ rV listed.toList 0 (Xo all) listed.toList↔i ∈ Region.ready .any all.toArray listed:=by
 rw [zcj];constructor
 · rintro⟨k,x,h1,h2,h3,h4⟩
   simp only [Nat.zero_add] at h1;subst h1;exact ready_one h2 h3 h4
 · intro h
   obtain⟨h1,o,ho,hall⟩:=mem_ready.1 h
   have ho':all[i]? =some o:=by simpa using ho
   refine⟨i,_,by omega,by rw [X5,ho'];rfl,zeW.2 h1,Uf.2 fun j hj=> ?_⟩
   obtain⟨e,he,hb,rfl⟩:=zaU.1 hj;exact zrl.2 (hall e he hb)
theorem zcb {all:List Oper} {listed:Array Bool} (h:rV listed.toList 0 (Xo all) listed.toList=[]):Region.ready .any all.toArray listed=[]:=by
 cases hr:Region.ready .any all.toArray listed with
 |nil=>rfl
 | cons i r=>
   have:i ∈ rV listed.toList 0 (Xo all) listed.toList:=WW.2 (by rw [hr];exact List.mem_cons_self ..)
   rw [h] at this;cases this
theorem zii {all:List Oper} {o:Oper} {d:Nat} (h:d ∈ o.looksAt all.toArray):d ∈ zaW all o:=by
 have ht: ∀ l:List Operand,d ∈ (l.filterMap fun|.tmp t=>some t|_=>none)→d ∈ X4 l:=by
  intro l
  induction l with
  |nil=>simp [X4]
  | cons x r ih=>
    intro h
    cases x<;>simp only [List.filterMap_cons,X4,List.mem_cons] at h ⊢ <;>first|exact ih h|exact h.imp id ih
 unfold Oper.looksAt at h;unfold zaW
 rcases List.mem_append.1 h with h|h
 · have h1:=ht _ h
   split
   · split
     · split
       · exact List.mem_cons_of_mem _ h1
       · exact h1
     · exact h1
   · exact h1
 · split at h
   · rename_i g b hg
     simp only [hg,yg];simp only [List.getElem?_toArray,Option.mem_toList,Option.bind_eq_some_iff] at h;obtain⟨og,ho,hd⟩:=h;rw [ho];simp only [hd];exact List.mem_cons_self ..
   · cases h
theorem zhz {all:List Oper} {x y:Oper} (h:zlX (row1 all x) (row1 all y)=true):x.apart all.toArray y=true:=by
 unfold zlX row1 at h;simp only at h;unfold Oper.apart
 have hc: ∀ {d:Nat} {o:Oper},xJ d (zaW all o)=false→(o.looksAt all.toArray).contains d=false:=by
  intro d o hf
  cases hb:(o.looksAt all.toArray).contains d with
  |false=>rfl
  | true=>
    have hm:d ∈ o.looksAt all.toArray:=by simpa using hb
    rw [zck (zii hm)] at hf;cases hf
 split at h
 · cases h
 rename_i h1;rw [jK];constructor
 · cases hx:x.dst with
   |none=>rfl
   | some d=>
     rw [hx] at h1;simp only at h1 ⊢
     split at h1
     · cases h1
     rename_i hm;rw [hc hm]
     cases hy:y.dst with
     |none=>rfl
     | some e=>
       rw [hy] at h1;simp only at h1
       split at h1
       · cases h1
       rename_i hb;have hne:e≠d:=Nat.ne_of_beq_eq_false hb
       simp [hne]
 · cases hy:y.dst with
   |none=>rfl
   | some e=>
     rw [hy] at h;simp only at h ⊢
     split at h
     · cases h
     rename_i hm;rw [hc hm];rfl
theorem za6 {i:Nat} {x:Row1}: ∀ {n:Nat} {l:List Row1},Xw i x n l=true→∀ k y,l[k]? =some y→n+k≠i→xJ (n+k) x.aft=false→xJ i y.aft=false→zlX x y=true
 |n,[],_,k,y,h=>by simp at h
 | n, z :: r,hf,k,y,h=>by
   intro h1 h2 h3;simp only [Xw] at hf
   cases k with
   | zero=>
     simp only [List.getElem?_cons_zero,jw] at h;subst h;simp only [Nat.add_zero] at h1 h2
     have hb:Nat.beq n i=false:=by
      cases hq:Nat.beq n i with
      |true=>exact absurd (jI hq) h1
      |false=>rfl
     rw [hb,h2,h3] at hf;simp only at hf
     split at hf
     · assumption
     · cases hf
   | succ k=>
     have hr :Xw i x (n+1) r=true:=by
      split at hf
      · exact hf
      · split at hf
        · exact hf
        · split at hf
          · exact hf
          · split at hf
            · exact hf
            · cases hf
     exact za6 hr k y (by simpa using h) (by omega) (by rw [show n+1+k=n+(k+1) by omega];exact h2) h3
theorem ztf {all:List Oper} {listed:Array Bool} {i:Nat} {x:Row2} (h2:(Xo all)[i]? =some x) (h4:Ug listed.toList x.aft=true) (hf:x.fr=true):Region.free .any all.toArray listed i=true:=by
 rw [X5] at h2
 cases ho:all[i]? with
 |none=>rw [ho] at h2;cases h2
 | some o=>
   rw [ho] at h2;cases h2
   have ho':all.toArray[i]? =some o:=by simpa using ho
   unfold Region.free;rw [ho'];simp only [List.all_eq_true,List.mem_range];intro j hj
   cases hji:(j == i) with
   |true=>rfl
   | false =>
     cases hl:listed.getD j true with
     |true=>simp
     | false=>
       have hlt:j<all.length:=by simpa using hj
       have hoj:all[j]? =some all[j]:=jm hlt
       have hoj':all.toArray[j]? =some all[j]:=by simpa using hoj
       rw [hoj'];simp only [Bool.false_or]
       have h5:xJ j (zbH o)=false:=by
        cases hm:xJ j (zbH o) with
        |false=>rfl
        | true=>
          have:=Uf.1 h4 j (qW hm);have h6:=zeW.2 hl;rw [this] at h6;cases h6
       rw [Bool.or_eq_true]
       cases hm:xJ i (zbH all[j]) with
       | true=>
         left
         obtain⟨e,he,hb,hon⟩:=zaU.1 (qW hm);rw [Array.any_eq_true']
         exact⟨e,he,by simp [hb,hon]⟩
       | false=>
         right
         have:=za6 hf j (row1 all all[j]) (by rw [UH,hoj];rfl) (by simp only [Nat.zero_add];simpa using hji) (by simp only [Nat.zero_add];exact h5) hm
         exact zhz this
theorem zaH {all:List Oper} {st stk:St} {b:Nat} {pre:Option (List Nat)} {full:List Bool} {i:Nat}: ∀ {n:Nat} {os:List Oper} {tb:List Row2} {l:List Bool},qR alg T all st stk b pre full n os tb l=some i→
  ∃ k x,i=n+k∧tb[k]? =some x∧l[k]? =some false∧x.fr=true∧b≠i∧(∀ p,pre=some p→i ∈ p)∧Ug full x.aft=true
 |n,[],tb,l,h=>by simp [qR] at h
 |n,o::os,[],l,h=>by simp [qR] at h
 |n,o::os,x::tb,[],h=>by simp [qR] at h
 | n,o::os,x::tb,d::l,h=>by
   have next:qR alg T all st stk b pre full (n+1) os tb l=some i→∃ k y,i=n+k∧(x::tb)[k]? =some y∧(d::l)[k]? =some false∧y.fr=true∧b≠i∧(∀ p,pre=some p→i ∈ p)∧Ug full y.aft=true:=by
    intro h;obtain⟨k,y,h1,h2,h3,h4⟩:=zaH h
    exact⟨k+1,y,by omega,by simpa using h2,by simpa using h3,h4⟩
   simp only [qR] at h
   split at h
   · exact next h
   split at h
   · exact next h
   rename_i hf
   split at h
   · exact next h
   rename_i hb
   split at h
   · exact next h
   rename_i hp
   split at h
   · exact next h
   rename_i ha
   split at h
   · cases h
     refine⟨0,x,rfl,rfl,rfl,hf,fun e=>by subst e;simp at hb,fun p e=> ?_,ha⟩
     subst e;exact qW hp
   · exact next h
theorem zmt (hT:T.fits Pr) (h:Kept X S0 B0 qs os Cs) {hpr:List HO} (hl:hpr.length=B0.length) {cfg:Cfg} {all:List Oper} (hsel:Region.noSelect all.toArray=true) {k:St→Tree} {kq:C→St→Tree} {R:AEx→St→Prop} (hkq: ∀ c st,(kq c st).ok Pr Y G→R (.pan c) st) (hk: ∀ st,(k st).ok Pr Y G→R .normal st)
  {b:Nat} {pre:Option (List Nat)} (hpre: ∀ i,i<all.length→(∀ l,pre=some l→i ∈ l)→b≠i→Before all b i) {K:Nat→Array Bool→St→Tree}
  (hK: ∀ {n:Nat} {listed:Array Bool} {st:St} {a:Act} {w:World},Clo all listed→(K n listed st).ok Pr Y G→Now X st a w→wpAny Pr .any all.toArray (MixQ X R) n listed a w):
  ∀ {n:Nat} {listed:Array Bool} {st stk:St} {a:Act} {w:World},Clo all listed→(mixT alg T cfg all (Xo all) b pre qs os K kq k n listed st stk).ok Pr Y G→Now (Kept.ctx X S0 B0 Cs) st a w→stk.hp=putH qs os (za5 hpr)→Env S0 B0 stk a→
    Q8 Pr all (MixQ X R) (Held S0 Cs) b n listed a w:=by
 have whole: ∀ {st:St} {a:Act} {w:World},Now (Kept.ctx X S0 B0 Cs) st a w→Now X { st with hp:=putH qs os st.hp} a w:=by
  intro st a w hn;obtain⟨S,K,hH,hE⟩:=hn;obtain⟨K',hb,hH2⟩:=h.merge hH
  exact⟨S,K',hH2,by rw [hb];exact⟨hE.size,hE.defers,hE.slots⟩⟩
 have fin: ∀ {st:St} {a:Act} {w:World},(k { st with hp:=putH qs os st.hp}).ok Pr Y G→Now (Kept.ctx X S0 B0 Cs) st a w→MixQ X R .normal a w:=by
  intro st a w hq hn;obtain⟨S,K,hH,hE⟩:=whole hn;exact⟨.normal,_,hk _ hq,S,K,hH,hE,trivial⟩
 intro n
 induction n with
 | zero=>
   intro listed st stk a w hc ht hn he hE;exact hK hc ht (whole hn)
 | succ n ih =>
   intro listed st stk a w hc ht hn he hE;simp only [mixT,zgR,Y9,zvi,zv8] at ht
   split at ht
   · rename_i hb
     exact⟨fun _=>hK hc ht (whole hn),fun h=>(by rw [hb] at h;cases h)⟩
   rename_i hbf
   split at ht
   · rename_i hr
     have hr:Region.ready .any all.toArray listed=[]:=by
      split at hr
      · cases hr
      · split at hr
        · rename_i h0;exact zcb h0
        · cases hr
     exact⟨fun h=>(by rw [hbf] at h;cases h),fun _=>⟨fun _=>fin ht hn,fun i hi=>by rw [hr] at hi;cases hi⟩⟩
   · rename_i i hfc
     obtain⟨hir,hfree,hil,hbi⟩:i ∈ Region.ready .any all.toArray listed∧Region.free .any all.toArray listed i=true∧(∀ l,pre=some l→i ∈ l)∧b≠i:=by
      split at hfc
      · rename_i j hq
        cases hfc;obtain⟨k,x,h1,h2,h3,h4,h5,h6,h7⟩:=zaH hq;simp only [Nat.zero_add] at h1;subst h1;exact⟨ready_one h2 h3 h7,ztf h2 h7 h4,h6,h5⟩
      · split at hfc
        · cases hfc
        · rename_i hq
          obtain⟨hir,hfree⟩:=qI (Option.some.inj hfc);obtain⟨hir,hil,hbi⟩:=zm8 hir;exact⟨WW.1 hir,hfree,hil,hbi⟩
     split at ht
     · rename_i o ho
       rw [yg] at ho;have hlt:=(jl.1 ho).1;have hB:=hpre i hlt hil hbi
       obtain⟨st',hn',_,⟨hw,h1⟩|⟨hw,h1⟩⟩:=Zv ht hn
       · obtain⟨v,st2,stk2,hy,h2,h3,h4,h5⟩:=ziX hT h hl h1 hn' he hE
         exact zhA (by simpa using ho) hB hc hsel hfree hir (fun c a w=>zkB _ _ _ _ _) (.inl ⟨hw,hy⟩) (Kept.held hn) (ih (zbr hc hir) h2 h3 (h4.trans he) h5)
       · obtain⟨S,K,hH,hE2⟩:=hn'
         exact zhA (by simpa using ho) hB hc hsel hfree hir (fun c a w=>zkB _ _ _ _ _) (.inr ⟨hw,rfl⟩) (Kept.held hn) (ih (zbr hc hir) h1 (Now.put hH hE2 o.dst ⟨[],trivial,rfl⟩) ((uY _ _ _).trans he) (zeV hE o.dst _))
     · exact ht.elim
   · rename_i hfc
     have hne:Region.ready .any all.toArray listed≠[]:=by
      split at hfc
      · cases hfc
      · split at hfc
        · cases hfc
        · rename_i hne
          intro h0;apply hne
          cases hq:rV listed.toList 0 (Xo all) listed.toList with
          |nil=>rfl
          | cons j r=>
            have:j ∈ Region.ready .any all.toArray listed:=WW.1 (by rw [hq];exact List.mem_cons_self ..)
            rw [h0] at this;cases this
     refine⟨fun h=>(by rw [hbf] at h;cases h),fun _=>⟨fun h=>absurd h hne,fun i hi=> ?_⟩⟩
     have ht:=zcl ht i (WW.2 hi)
     split at ht
     · rename_i o ho
       rw [yg] at ho
       have ho':all.toArray[i]? =some o:=by simpa using ho
       obtain⟨st',hn',_,⟨hw,h1⟩|⟨hw,h1⟩⟩:=Zv ht hn
       · unfold wpOp
         simp only [ho'];rw [if_pos hw];refine .inl (OpOk.wp3 (ztY hT h1 hn') (fun st2 v w2 hR hN=> ?_) fun c st2 v w2 hR hx=> ?_)
         · exact⟨Kept.held hN,ih (zbr hc hi) hR hN ((uY _ _ _).trans he) (zeV hE o.dst v)⟩
         · obtain⟨S,K,hH,hE3,hm⟩:=hx
           obtain⟨K',hb,hH2⟩:=h.merge hH
           exact⟨c,_,hkq _ _ hR,rfl,S,K',v,hH2,by rw [hb];exact⟨hE3.size,hE3.defers,fun t d hd=>by cases hd⟩,rfl,by rw [hb];exact hm⟩
       · unfold wpOp
         simp only [ho']
         rw [if_neg (by rw [hw];simp)]
         obtain⟨S,K,hH,hE2⟩:=hn';have hN:=Now.put hH hE2 o.dst (d:=.tup []) (v:=undef) ⟨[],trivial,rfl⟩;exact⟨Kept.held hN,ih (zbr hc hi) h1 hN ((uY _ _ _).trans he) (zeV hE o.dst _)⟩
     · exact ht.elim
theorem uj {tI:List Nat}: ∀ {l:List Nat} {st:St},Now X st a w→Now X (YZ tI l st) a w
 |[],st,h=>h
 | t ::r,st,h=>by
   simp only [YZ]
   split
   · split
     · exact uj h
     · exact uj (tN h)
   · exact uj h
theorem sS {tI:List Nat}: ∀ {l:List Oper} {st:St},Now X st a w→Now X (Yd tI l st) a w
 |[],st,h=>h
 |o::r,st,h=>sS (l:=r) (uj h)
theorem zmu (hT:T.fits Pr) {cfg:Cfg} {all:List Oper} (hsel:Region.noSelect all.toArray=true) {k:St→Tree} {kq:C→St→Tree} {R:AEx→St→Prop} (hkq: ∀ c st,(kq c st).ok Pr Y G→R (.pan c) st) (hk: ∀ st,(k st).ok Pr Y G→R .normal st) {gs:List Nat}:
  ∀ {m n:Nat} {listed:Array Bool} {st:St} {a:Act} {w:World},Clo all listed→(mixP alg T cfg all (Xo all) gs kq k m n listed st).ok Pr Y G→Now X st a w→wpAny Pr .any all.toArray (MixQ X R) n listed a w:=by
 intro m
 induction m with
 |zero=>intro n listed st a w _ ht;exact ht.elim
 | succ m ih=>
   intro n listed st a w hc ht hn;simp only [mixP,zgR,zqc,zp9,zcC,Y9,vW] at ht
   split at ht
   · rename_i hr
     have hr:=zcb hr
     have hQ:MixQ X R .normal a w:=by
      obtain⟨S,K,hH,hE⟩:=hn;exact⟨.normal,_,hk _ ht,S,K,hH,hE,trivial⟩
     cases n with
     |zero=>exact⟨hr,hQ⟩
     |succ n=>exact⟨fun _=>hQ,fun i hi=>by rw [hr] at hi;cases hi⟩
   generalize zif (Xo all) all.length listed gs=b at ht
   have hpre: ∀ i,i<all.length→(∀ l,zsF (Xo all) all.length b=some l→i ∈ l)→b≠i→Before all b i:=by
    intro i hi hl hne;unfold zsF at hl;simp only [vW] at hl
    cases hb:Nat.blt b all.length with
    |true=>rw [hb] at hl;exact zht hne (by have:=hl _ rfl;rw [zrA,zaI] at this;exact this)
    |false=>exact zm6 (by have: ¬ b<all.length:=(by rw [← Nat.blt_eq,hb];simp);omega) hi
   generalize zsF (Xo all) all.length b=pre at ht hpre;generalize zdi pre b 0 listed.toList all=ops at ht
   have hn0:Now X (zd3 gs ops st) a w:=by
    unfold zd3
    split
    · exact hn
    · exact sS hn
   generalize zd3 gs ops st=st0 at ht hn0;have hn1:=sS (tI:=zjR T ops st0) (l:=ops) hn0;generalize Yd (zjR T ops st0) ops st0=st1 at ht hn1;generalize zgb (zjR T ops st0) 0 st1.hp=qs at ht
   split at ht
   · rename_i os hpr hto
     obtain⟨S,K,hH,hE⟩:=hn1;obtain⟨Cs,K',h1,h2,h3,h4,h5,h6,h7⟩:=ve hto rfl hH.2.2.1 hH.2.2.2;have hkept:Kept X S (K.map CO.base) qs os Cs:=⟨hH.1,hH.2.1,h4,h5,h6,h7⟩
     have hN:Now (Kept.ctx X S (K.map CO.base) Cs) { st1 with hp:=hpr} a w:=⟨S,K',⟨Frz.le.refl S,by rw [h1];exact Ext.refl _,by rw [h1];exact h2,h3⟩,by rw [h1];exact⟨hE.size,hE.defers,hE.slots⟩⟩
     have hl:hpr.length=(K.map CO.base).length:=by rw [← h1,List.length_map];exact h2.1
     exact zbO _ _ _ _ (zmt hT hkept hl hsel hkq hk hpre (fun hc ht hn=>ih hc ht hn) hc ht hN rfl ⟨hE.size,hE.defers,hE.slots⟩)
   · exact ht.elim
theorem zpo (hT:T.fits Pr) (hm:Pr.follows .mixedOrders=true) {cfg:Cfg} {id:Nat} {all:List Oper} {k:St→Tree} {st:St} {kq:C→St→Tree} {R:AEx→St→Prop} (hkq: ∀ c st,(kq c st).ok Pr Y G→R (.pan c) st) (hk: ∀ st,(k st).ok Pr Y G→R .normal st) (ht:(mix alg T cfg all kq k st).ok Pr Y G) (hn:Now X st a w):
  (Code.region id all.toArray true).wp Pr (Post X R) a w:=by
 unfold mix at ht
 split at ht
 case h_2=>exact ht.elim
 rename_i hsel;simp only [zgN,vW] at ht
 have hfl:(⟨zhb all⟩:Array Bool)=Array.replicate all.length false:=by
  have: ∀ l:List Oper,zhb l=List.replicate l.length false:=by
   intro l
   induction l with
   |nil=>rfl
   |cons o r ih=>simp only [zhb,ih,jh,List.replicate_succ]
  rw [this];simp
 rw [hfl] at ht
 have hn1:Now X st a w.drew:=by
  obtain⟨S,K,hH,hE⟩:=hn;exact⟨S,K,⟨hH.1,hH.2.1,hH.2.2.1,hH.2.2.2.drew⟩,hE⟩
 refine wp_mono (Q:=MixQ X R) (wp_region_any hm ?_) fun e a' w' he=> ?_
 · simpa using zmu hT hsel hkq hk (ztR all) ht hn1
 · cases e with
   | panic ch=>
     obtain⟨c,st',h1,_,S,K,v,h3,h4,h5,h6⟩:=he;exact⟨.pan c,st',h1,S,K,h3,h4,v,h5,h6⟩
   |normal=>exact he
   |_=>exact he.elim
end
theorem Now.drew {st:St} (hn:Now X st a w):Now X st a w.drew:=by
 obtain⟨S,K,hH,hE⟩:=hn;exact⟨S,K,⟨hH.1,hH.2.1,hH.2.2.1,hH.2.2.2.drew⟩,hE⟩
theorem zae {ks:List Nat}: ∀ {e:List (Nat × D)} {t:Nat} {d:D},look (zcq ks e) t=some d→look e t=some d
 |[],t,d,h=>h
 | (s, d0) ::r,t,d,h=>by
   simp only [zcq] at h;rw [xK]
   split at h
   · rw [xK] at h
     split
     · rename_i hst;rw [if_pos hst] at h;exact h
     · rename_i hst;rw [if_neg hst] at h;exact zae h
   · rename_i hm
     have h1:=zae h
     split
     · rename_i hst
       subst hst;exfalso;clear h1
       induction r with
       |nil=>cases h
       | cons p r ih=>
         obtain⟨s',d'⟩:=p;simp only [zcq] at h
         split at h
         · rename_i hm2
           rw [xK] at h
           split at h
           · rename_i e;subst e;rw [hm] at hm2;cases hm2
           · exact ih h
         · exact ih h
     · exact h1
theorem Now.tidy {st:St} (hn:Now X st a w) (ks:Option (List Nat)):Now X (st.tidy ks) a w:=by
 cases ks with
 |none=>exact hn
 |some l=>obtain⟨S,K,hH,hE⟩:=hn;exact⟨S,K,hH,hE.size,hE.defers,fun t d hd=>hE.slots t d (zae hd)⟩
theorem zca (hT:T.fits Pr) (hm:Pr.follows .mixedOrders=true) {cfg:Cfg} {id:Nat} {ops:Array Oper} {draw:Bool} {K:AEx→St→Tree} {st:St}
  (h:(regT alg T cfg ops draw K st).ok Pr X G) (hn:Now X st a w):(Code.region id ops draw).wp Pr (Post X fun e st'=>(K e st').ok Pr X G) a w:=by
 cases draw with
 |false=>exact wp_region_list (by simpa using qN hT (R:=fun e st'=>(K e st').ok Pr X G) (fun _ h=>h) (fun _ _ h=>h) h hn)
 | true=>
   obtain⟨l,rfl⟩: ∃ l:List Oper,ops=l.toArray:=⟨ops.toList,by simp⟩
   simp only [regT,List.toList_toArray] at h
   split at h
   · exact zpo hT hm (R:=fun e st'=>(K e st').ok Pr X G) (fun _ _ h=>h) (fun _ h=>h) h hn
   rename_i hB;refine wp_region_still_tail (WY T l) hm hB ?_;rw [zjt,zls] at h;exact ZW hT (fun st2 a2 h2 hn2=>qN hT (R:=fun e st'=>(K e st').ok Pr X G) (fun _ h=>h) (fun _ _ h=>h) h2 hn2) h hn.drew
theorem zjk (hT:T.fits Pr) (hm:Pr.follows .mixedOrders=true) {cfg:Cfg}: ∀ {c:Code} {K:AEx→St→Tree} {st:St} {a:Act} {w:World},
  (vc alg T cfg c K st).ok Pr X G→Now X st a w→c.wp Pr (Post X fun e st'=>(K e st').ok Pr X G) a w:=by
 intro c
 induction c with
 |skip=>intro K st a w h ⟨S,L,hH,hE⟩;exact wp_skip ⟨.normal,st,h,S,L,hH,hE,trivial⟩
 | region id ops draw=>
   intro K st a w h hn;simp only [vc] at h
   split at h
   · obtain⟨S,L,hH,hE⟩:=hn.tidy cfg.keep;exact h S L a w hH hE
   · exact zca hT hm h (hn.tidy cfg.keep)
 | seq x y ihx ihy=>
   intro K st a w h hn;refine wp_seq (wp_mono (ihx h hn) fun e a' w' hq=> ?_);obtain⟨e',st',h1,S,L,hH,hE,hem⟩:=hq
   cases e with
   | normal=>cases e' with
     |normal=>exact ihy h1 ⟨S,L,hH,hE⟩
     |exit i=>exact hem.elim
     |ret=>exact hem.elim
     |pan c=>exact hem.elim
   | exit i=>cases e' with
     |exit j=>exact⟨.exit j,st',h1,S,L,hH,hE,hem⟩
     |normal=>exact hem.elim
     |ret=>exact hem.elim
     |pan c=>exact hem.elim
   |goto l=>cases e'<;>exact hem.elim
   | ret=>cases e' with
     |ret=>exact⟨.ret,st',h1,S,L,hH,hE,hem⟩
     |normal=>exact hem.elim
     |exit j=>exact hem.elim
     |pan c=>exact hem.elim
   | panic ch=>cases e' with
     |pan c=>exact⟨.pan c,st',h1,S,L,hH,hE,hem⟩
     |normal=>exact hem.elim
     |exit j=>exact hem.elim
     |ret=>exact hem.elim
   |outgrown=>cases e'<;>exact hem.elim
 | cond c t e iht ihe=>
   intro K st a w h hn;obtain⟨st',h1,h2,_⟩:=vz h hn
   split at h1
   · rename_i hc
     obtain⟨S,L,hH,hE⟩:=h2;have hm:=(hH.sit hT hE).one hc;generalize hv:a.eval c=v at hm;cases hm;exact wp_cond_true hv (iht h1 ⟨S,L,hH,hE⟩)
   · rename_i hc
     obtain⟨S,L,hH,hE⟩:=h2;have hm:=(hH.sit hT hE).one hc;generalize hv:a.eval c=v at hm;cases hm;exact wp_cond_false hv (ihe h1 ⟨S,L,hH,hE⟩)
   · exact h1.elim
 | block id b ih=>
   intro K st a w h hn;refine wp_block (wp_mono (ih h hn) fun e a' w' hq=> ?_);obtain⟨e',st',h1,S,L,hH,hE,hem⟩:=hq
   cases e with
   | normal=>cases e' with
     |normal=>exact⟨.normal,st',h1,S,L,hH,hE,trivial⟩
     |exit i=>exact hem.elim
     |ret=>exact hem.elim
     |pan c=>exact hem.elim
   | exit i=>cases e' with
     | exit j=>
       have hem:i=j:=hem;subst hem;simp only [Exit.inBlock]
       have h1:(match Nat.beq i id with|true=>K .normal st'|false=>K (.exit i) st').ok Pr X G:=h1
       split at h1
       · rename_i hb
         have hb:=jI hb;rw [if_pos hb];exact⟨.normal,st',h1,S,L,hH,hE,trivial⟩
       · rename_i hb
         rw [if_neg (fun e=>by subst e;rw [Nat.beq_refl] at hb;cases hb)]
         exact⟨.exit i,st',h1,S,L,hH,hE,rfl⟩
     |normal=>exact hem.elim
     |ret=>exact hem.elim
     |pan c=>exact hem.elim
   |goto l=>cases e'<;>exact hem.elim
   | ret=>cases e' with
     |ret=>exact⟨.ret,st',h1,S,L,hH,hE,hem⟩
     |normal=>exact hem.elim
     |exit j=>exact hem.elim
     |pan c=>exact hem.elim
   | panic ch=>cases e' with
     |pan c=>exact⟨.pan c,st',h1,S,L,hH,hE,hem⟩
     |normal=>exact hem.elim
     |exit j=>exact hem.elim
     |ret=>exact hem.elim
   |outgrown=>cases e'<;>exact hem.elim
 |loop b _=>intro K st a w h hn;obtain⟨S,L,hH,hE⟩:=hn.tidy cfg.keep;exact h S L a w hH hE
 |exit id=>intro K st a w h ⟨S,L,hH,hE⟩;exact wp_exit ⟨.exit id,st,h,S,L,hH,hE,rfl⟩
 |ret=>intro K st a w h ⟨S,L,hH,hE⟩;exact wp_ret ⟨.ret,st,h,S,L,hH,hE,trivial⟩
 |_=>intro K st a w h _;exact h.elim
end
end Go.Ab
namespace Go.Ab
open Go Go.Sep
variable [Facts]
def fresh:List Nat→List Nat→List Nat
 |seen,[]=>seen
 |seen,k::ks=>match memN k seen with|true=>fresh seen ks|false=>fresh (seen++[k]) ks
def zvH:V0→V0
 |.one c=>.one (zd6 c)
 |.agg cs=>.agg (cs.map zd6)
def AOut.refs:AOut→List Nat
 |.ret d=>zsz d
 |.pan c=>zbE [c]
def AOut.ren (f:Nat→Option Nat):AOut→AOut
 |.ret d=>.ret (d.ren f)
 |.pan c=>.pan (c.ren f)
def finT (sl:List SlE) (k0:Nat) (o:AOut) (st:St):Tree:=
 let st1:=shutAll sl (upto 0 k0++o.refs) st
 let q:=fresh (upto 0 k0) (o.refs++gather st1.hp 200 (upto 0 k0++o.refs) [])
 match sJ q st1.hp with
 |some (os,_)=>.fin (o.ren fun x=>idx x q 0) (os.map (HO.ren fun x=>idx x q 0))
 |none=>.stop 13
def Rl (I:Alg) (T:Tab) (t ty:Nat) (st:St):St:=
 match look st.env t with
 | some d=>
   let st1:=xu I (zmk d) st
   match look st1.env t,T ty with
   |some (.v (.one c)),some ⟨_,_,_,some z,_⟩=>(match qC z [c] with|some [p]=>st1.put (some t) (.v (.one (.p p)))|_=>st1)
   |some (.v (.agg cs)),some ⟨_,_,_,some z,_⟩=>(match qC z cs with|some ps=>st1.put (some t) (.v (.agg (ps.map C.p)))|_=>st1)
   |_,_=>st1
 |none=>st
def zxO:Option D→Bool
 |some (.v (.agg _))=>true
 |_=>false
def sO (I:Alg) (T:Tab) (rl:List Nat):Nat→List ResultVar→List Nat→St→St
 |i,.tmp t::r,ty::tys,st=>sO I T rl (i+1) r tys (match memN i rl,zxO (look st.env t) with|false,false=>zar T t ty st|_,_=>Rl I T t ty st)
 |i,.cell _ _::r,_::tys,st=>sO I T rl (i+1) r tys st
 |_,_,_,st=>st
def retT (I:Alg) (T:Tab) (raw:Bool) (sl:List SlE) (k0:Nat):List ResultVar→List V0→St→Tree
 |[],acc,st=>finT sl k0 (.ret (match acc with|[x]=>.v x|l=>.tup l)) st
 | .tmp t::r,acc,st=>match look st.env t with
   |some (.v x)=>retT I T raw sl k0 r (acc++[zvH x]) st
   |_=>.stop 14
 | .cell t ty::r,acc,st=>
   (qop I T (vS st (.tmp t)) (.load ty (.tmp t))).tree fun d0=>
    let st1:=xu I (zmk d0) (vS st (.tmp t))
    (qop I T st1 (.load ty (.tmp t))).tree fun d=>match raw,d,T ty with
     | false,.v (.agg cs),some ⟨_,_,_,some z,_⟩=>(match qC z cs with
       |some ps=>retT I T raw sl k0 r (acc++[.agg ((ps.map C.p).map zd6)]) st1
       |none=>.stop 15)
     |_,.v x,_=>retT I T raw sl k0 r (acc++[zvH x]) st1
     |_,_,_=>.stop 18
def renE (f:Nat→Option Nat):List (Nat × D)→List (Nat × D)
 |[]=>[]
 |(t,d)::r=>(t,d.ren f)::renE f r
def mvF (k n:Nat) (i:Nat):Option Nat:=match Nat.beq i k with|true=>some n|false=>some i
def moveRow (k:Nat) (st:St):St:=
 match nth st.hp k with
 |some (.row u E l)=> { st with env:=renE (mvF k st.hp.length) st.env,hp:=setN (st.hp.map (HO.ren (mvF k st.hp.length))) k .gone++[.row u E l]}
 |_=>st
def XH:List Nat→St→St
 |[],st=>st
 |k::ks,st=>XH ks (moveRow k st)
def ztq (I:Alg) (T:Tab) (cfg:Cfg) (k0:Nat) (fn:Func):AEx→St→Tree
 |.normal,st=>retT I T cfg.raw cfg.fsl k0 fn.results.toList [] (sO I T cfg.rl 0 fn.results.toList fn.resultTypes.toList (XH cfg.mv st))
 |.ret,st=>retT I T cfg.raw cfg.fsl k0 fn.results.toList [] (sO I T cfg.rl 0 fn.results.toList fn.resultTypes.toList (XH cfg.mv st))
 |.pan c,st=>finT cfg.fsl k0 (.pan c) st
 |.exit _,_=>.stop 16
def finK (I:Alg) (T:Tab) (cfg:Cfg) (k0:Nat) (fn:Func) (e:AEx) (st:St):Tree:=
 match st.df with
 |none=>ztq I T cfg k0 fn e st
 |some _=>.stop 90
def zbJ:Nat→List D→List (Nat × D)
 |_,[]=>[]
 |n,d::ds=>(n,d)::zbJ (n+1) ds
def funT (I:Alg) (T:Tab) (cfg:Cfg) (fn:Func) (args:List D) (hp:List HO):Tree:=
 match fn.body with
 |some c=>vc I T cfg c (finK I T cfg hp.length fn) { env:=zbJ 0 args,hp:=hp,n:=fn.ntmps}
 |none=>.stop 17
def zaX (env:List (Nat × D)):List Nat→Option (List (Nat × D))
 |[]=>some []
 |t::ts=>match look env t,zaX env ts with|some d,some r=>some ((t,d)::r)|_,_=>none
def zvI:List (Nat × D)→List (Nat × D)
 |[]=>[]
 |(t,d)::r=>(t,zpk d)::zvI r
def St.cut (sl:List SlE) (k0:Nat) (dom:List Nat) (st:St):Option St:=
 match(match st.df with|none=>zaX st.env dom|some _=>none) with
 |none=>none
 | some e=>
   let st1:=shutAll sl (upto 0 k0++zoU e) st
   let q:=fresh (upto 0 k0) (zoU e++gather st1.hp 200 (upto 0 k0++zoU e) [])
   match sJ q st1.hp with
   |some (os,_)=>some { env:=renE (fun x=>idx x q 0) (zvI e),hp:=os.map (HO.ren fun x=>idx x q 0),n:=st.n}
   |none=>none
section
variable {Pr:Program} {T:Tab} {X:Ctx} {G:AOut→List HO→Prop} {a:Act} {w:World}
theorem zjm: ∀ (m n k:Nat),k<m→(upto n m)[k]? =some (n+k)
 |m+1,n,0,_=>by simp [upto]
 | m+1,n,k+1,h=>by
   simp only [upto,List.getElem?_cons_succ]
   rw [zjm m (n+1) k (by omega)]
   congr 1;omega
theorem Yn: ∀ (ks seen:List Nat),∃ r,fresh seen ks=seen++r
 |[],seen=>⟨[],by simp [fresh]⟩
 | k ::ks,seen=>by
   simp only [fresh]
   split
   · exact Yn ks seen
   · obtain⟨r,h⟩:=Yn ks (seen++[k])
     exact⟨k::r,by rw [h];simp⟩
theorem upto_length: ∀ (m n:Nat),(upto n m).length=m
 |0,_=>rfl
 |m+1,n=>by simp [upto,upto_length m]
theorem zgK {k0 k:Nat} {ks:List Nat} (h:k<k0):(fresh (upto 0 k0) ks)[k]? =some k:=by
 obtain⟨r,hr⟩:=Yn ks (upto 0 k0)
 rw [hr,jy (by rw [upto_length];exact h),zjm k0 0 k h]
 simp
theorem zkn {st:St} {q:List Nat} {os hpr:List HO} {k0:Nat} (hk:X.bs0.length=k0) (hq: ∀ k,k<k0→q[k]? =some k) (ht:sJ q st.hp=some (os,hpr)) {S:Frz} {K:List CO} (hH:Heap X st.hp S K w):
  ∃ Cs,Heap X (os.map (HO.ren fun x=>idx x q 0)) S Cs w∧∀ (i j:Nat) (v:Value),idx i q 0=some j→(K.map CO.base)[i]? =some v→(Cs.map CO.base)[j]? =some v:=by
 obtain⟨Cs,K',h1,h2,h3,h4,h5,h6,h7⟩:=ve ht rfl hH.2.2.1 hH.2.2.2
 have hf: ∀ (i j:Nat) (v:Value),idx i q 0=some j→(K.map CO.base)[i]? =some v→(Cs.map CO.base)[j]? =some v:=by
  intro i j v e1 e2;obtain⟨_,e3⟩:=zeg e1;simp only [Nat.sub_zero] at e3
  have hjl:j<Cs.length:=by rw [h4,h5];exact(jl.1 e3).1
  have:=h6 j i _ e3 (jm hjl);rw [e2] at this;cases this;rw [List.getElem?_map,jm hjl];rfl
 refine⟨Cs,⟨hH.1,fun k v hv=> ?_,?_,?_⟩,hf⟩
 · have hk2:k<k0:=by rw [← hk];exact(jl.1 hv).1
   have hqk:=hq k hk2
   have hkl:k<Cs.length:=by rw [h4,h5];exact(jl.1 hqk).1
   have:=h6 k k _ hqk (jm hkl);rw [hH.2.1 k v hv] at this;cases this;rw [List.getElem?_map,jm hkl];rfl
 · refine⟨by simp [h4],fun i o c e1 e2=> ?_⟩
   rw [List.getElem?_map,Option.map_eq_some_iff] at e1;obtain⟨o',e3,rfl⟩:=e1;exact HO.zG (fun i j v e4 e5=>hf i j v e4 e5) (h7 i o' c e3 e2)
 · obtain⟨F,A,B,e,dj,hfz,hrest⟩:=h3
   obtain⟨A2,B2,e2,dj2,_,hr2⟩:=Uw.1 hrest;exact⟨fun k=>A k∨B2 k,A,B2,fun _=>Iff.rfl,fun k hA hB=>dj k hA ((e2 k).2 (.inr hB)),hfz,hr2⟩
theorem zaR {S:Frz} {bs:List Value} {x:V0} {v:Value} (h:MV S bs x v):MV S bs (zvH x) v:=by
 cases x with
 |one c=>exact xC _ _ h
 |agg cs=>obtain⟨vs,h1,h2⟩:=h;exact⟨vs,h1.map xC,h2⟩
theorem MVs.snoc {S:Frz} {bs:List Value}: ∀ {l:List V0} {vs:List Value} {x:V0} {v:Value},MVs S bs l vs→MV S bs x v→MVs S bs (l++[x]) (vs++[v])
 |[],[],_,_,_,h=>⟨h,trivial⟩
 |_::_,_::_,_,_,h,k=>⟨h.1,MVs.snoc h.2 k⟩
theorem MVs.length {S:Frz} {bs:List Value}: ∀ {l:List V0} {vs:List Value},MVs S bs l vs→vs.length=l.length
 |[],[],_=>rfl
 |_::_,_::_,h=>congrArg (· +1) (MVs.length h.2)
def Ends (X:Ctx) (G:AOut→List HO→Prop) (w:World) (e:Ending):Prop:=∃ o hp S K,G o hp∧Heap X hp S K w∧EOut S (K.map CO.base) o e
theorem TD {sl:List SlE} {st:St} (ks:List Nat) {S:Frz} {K:List CO} (hH:Heap X st.hp S K w) (hE:Env S (K.map CO.base) st a):
  ∃ K',Ext (K.map CO.base) (K'.map CO.base)∧Heap X (shutAll sl ks st).hp S K' w∧Env S (K'.map CO.base) (shutAll sl ks st) a:=by
 induction ks generalizing st K with
 |nil=>exact⟨K,Ext.refl _,hH,hE⟩
 | cons k ks ih=>
   obtain⟨K1,h1,h2,h3⟩:=Ut (sl:=sl) hH hE k;obtain⟨K2,h4,h5,h6⟩:=ih h2 h3;exact⟨K2,h1.trans h4,h5,h6⟩
theorem EOut.mono {S S':Frz} (hle:S.le S') {bs bs':List Value} (he:Ext bs bs') {o:AOut} {e:Ending} (h:EOut S bs o e):EOut S' bs' o e:=by
 cases o with
 | ret d=>cases e with
   |returned v=>exact MD.mono hle he h
   |panicked ch=>exact h.elim
   |outgrown=>exact h.elim
 | pan c=>cases e with
   |returned v=>exact h.elim
   |panicked ch=>obtain⟨v,h1,h2⟩:=h;exact⟨v,h1,h2.mono hle he⟩
   |outgrown=>exact h.elim
theorem zbD {t ty:Nat} {st:St} {S:Frz} {K:List CO} (hH:Heap X st.hp S K w) (hE:Env S (K.map CO.base) st a): ∃ S' K',Heap X (Rl alg T t ty st).hp S' K' w∧Env S' (K'.map CO.base) (Rl alg T t ty st) a:=by
 unfold Rl
 split
 · rename_i d hd
   obtain⟨S1,K1,_,_,h3,h4⟩:=yM hH hE (zmk d);simp only
   split
   · rename_i c e1 e2 e3 z e4 hl hT
     split
     · rename_i p hp
       refine⟨S1,K1,by rw [uY];exact h3,h4.note t ?_⟩
       exact(yV hp (vs:=[a.tmps.getD t undef]) ⟨h4.slots t _ hl,trivial⟩).1
     · exact⟨S1,K1,h3,h4⟩
   · rename_i cs e1 e2 e3 z e4 hl hT
     split
     · rename_i ps hp
       refine⟨S1,K1,by rw [uY];exact h3,h4.note t ?_⟩
       obtain⟨vs,h5,h6⟩:=h4.slots t _ hl;exact⟨vs,(yV hp h5).mcs,h6⟩
     · exact⟨S1,K1,h3,h4⟩
   · exact⟨S1,K1,h3,h4⟩
 · exact⟨S,K,hH,hE⟩
theorem rW {rl:List Nat}: ∀ {rs:List ResultVar} {tys:List Nat} {i:Nat} {st:St} {S:Frz} {K:List CO},Heap X st.hp S K w→Env S (K.map CO.base) st a→∃ S' K',Heap X (sO alg T rl i rs tys st).hp S' K' w∧Env S' (K'.map CO.base) (sO alg T rl i rs tys st) a
 |[],tys,i,st,S,K,hH,hE=>⟨S,K,by unfold sO;exact hH,by unfold sO;exact hE⟩
 |.tmp t::r,[],i,st,S,K,hH,hE=>⟨S,K,by unfold sO;exact hH,by unfold sO;exact hE⟩
 |.cell t ty::r,[],i,st,S,K,hH,hE=>⟨S,K,by unfold sO;exact hH,by unfold sO;exact hE⟩
 | .cell t ty::r,ty'::tys,i,st,S,K,hH,hE=>by
   unfold sO;exact rW hH hE
 | .tmp t::r,ty::tys,i,st,S,K,hH,hE=>by
   unfold sO
   split
   · obtain⟨K',h1,h2⟩:=Wx (T:=T) (t:=t) (ty:=ty) hH hE;exact rW h1 h2
   · obtain⟨S',K',h1,h2⟩:=zbD (T:=T) (t:=t) (ty:=ty) hH hE;exact rW h1 h2
theorem zcS {sl:List SlE} {k0:Nat} (hk:X.bs0.length=k0) {o:AOut} {st:St} (h:(finT sl k0 o st).ok Pr X G) {S:Frz} {K:List CO} (hH:Heap X st.hp S K w) (hE:Env S (K.map CO.base) st a) {e:Ending} (he:EOut S (K.map CO.base) o e):Ends X G w e:=by
 unfold finT at h;simp only at h;obtain⟨K1,hb,hH1,hE1⟩:=TD (sl:=sl) (upto 0 k0++o.refs) hH hE
 split at h
 · rename_i os hpr ht
   obtain⟨Cs,hH2,hf⟩:=zkn hk (fun k hk2=>zgK hk2) ht hH1;refine⟨_,_,S,Cs,h,hH2,?_⟩;have he:=he.mono (Frz.le.refl S) hb
   cases o with
   | ret d=>cases e with
     |returned v=>exact D.zG hf d v he
     |panicked ch=>exact he.elim
     |outgrown=>exact he.elim
   | pan c=>cases e with
     |returned v=>exact he.elim
     |panicked ch=>obtain⟨v,h1,h2⟩:=he;exact⟨v,h1,C.zG hf c v h2⟩
     |outgrown=>exact he.elim
 · exact h.elim
def WV (tmps:Array Value):ResultVar→Sem Value
 |.tmp t=>pure (tmps.getD t undef)
 |.cell a t=>do loadVar t (← asAddr (tmps.getD a undef))
theorem YS (hT:T.fits Pr) {raw:Bool} {sl:List SlE} {k0:Nat} (hk:X.bs0.length=k0): ∀ {rs:List ResultVar} {acc:List V0} {st:St} {us:List Value},(retT alg T raw sl k0 rs acc st).ok Pr X G→
  (∃ S K,Heap X st.hp S K w∧Env S (K.map CO.base) st a∧MVs S (K.map CO.base) acc us)→
  ∃ vs:List Value,(rs.mapM (WV a.tmps)).run Pr w=.ok vs w∧Ends X G w (.returned (if h:(us++vs).toArray.size=1 then(us++vs).toArray[0] else .tuple (us++vs).toArray))
 | [], acc,st,us,h,⟨S,K,hH,hE,hm⟩=>by
   refine⟨[],rfl,?_⟩;simp only [List.append_nil];unfold retT at h;refine zcS hk h hH hE ?_;have hl:=hm.length
   split
   · rename_i x
     cases us with
     |nil=>exact hm.elim
     | cons u us=>cases us with
       |nil=>exact hm.1
       |cons _ _=>exact hm.2.elim
   · rename_i hne
     rw [dif_neg]
     · exact⟨us,hm,rfl⟩
     · intro h1
       have h2:us.length=1:=by simpa using h1
       rw [hl] at h2
       cases acc with
       |nil=>cases h2
       | cons x acc=>cases acc with
         |nil=>exact hne x rfl
         |cons _ _=>simp at h2
 | .tmp t::r,acc,st,us,h,⟨S,K,hH,hE,hm⟩=>by
   unfold retT at h
   split at h
   · rename_i x hx
     obtain⟨vs,h1,h2⟩:=YS hT hk (us:=us++[a.tmps.getD t undef]) h ⟨S,K,hH,hE,hm.snoc (zaR (hE.slots t _ hx))⟩;refine⟨a.tmps.getD t undef::vs,?_,?_⟩
     · simp only [List.mapM_cons,WV,Sem.run_bind,Sem.run_pure,Result.andThen_ok,h1]
     · simpa [jo] using h2
   · exact h.elim
 | .cell t ty::r,acc,st,us,h,⟨S,K,hH,hE,hm⟩=>by
   unfold retT at h
   have hop: ∃ K',Ext (K.map CO.base) (K'.map CO.base)∧Heap X (vS st (.tmp t)).hp S K' w∧Env S (K'.map CO.base) (vS st (.tmp t)) a:=by
    unfold vS
    split
    · split
      · exact qU hH hE _
      · exact qU hH hE _
      · exact⟨K,Ext.refl _,hH,hE⟩
    · exact⟨K,Ext.refl _,hH,hE⟩
   obtain⟨K1,hex,hH1,hE1⟩:=hop;have hq0:=QR.wJ h
   obtain⟨v0,d0,_,_,hq1⟩:=sN (hH1.sit hT hE1) ⟨none,.load ty (.tmp t),0, "",#[],none⟩ (W:=fun w'=>w'=w) (fun _=>Sit.cls (by first|exact hH1.sit hT hE1|exact hH2.sit hT hE2)) _ hq0
   simp only at hq1;obtain⟨S2,K2,hle2,hbs2,hH2,hE2⟩:=yM hH1 hE1 (zmk d0)
   have hm2:MVs S2 (K2.map CO.base) acc us:=by rw [hbs2];exact(hm.mono (Frz.le.refl S) hex).mono hle2 (Ext.refl _)
   have hq:=QR.wJ hq1
   obtain⟨v,d,hy,hmd,hk2⟩:=sN (hH2.sit hT hE2) ⟨none,.load ty (.tmp t),0, "",#[],none⟩ (W:=fun w'=>w'=w) (fun _=>Sit.cls (by first|exact hH1.sit hT hE1|exact hH2.sit hT hE2)) _ hq
   have hl:(WV a.tmps (.cell t ty)).run Pr w=.ok v w:=by
    have hy:=hy _ rfl;simp only [execOp,Instr.loadAt,Act.eval,Sem.run_bind] at hy;simp only [WV,Sem.run_bind]
    cases hp:a.tmps.getD t undef with
    | pointer p=>cases p with
      |none=>rw [hp] at hy;simp [Instr.sureAddr] at hy
      | some p=>
        rw [hp] at hy;simp only [Instr.sureAddr,Sem.run_pure,Result.andThen_ok] at hy;simp only [asAddr,Sem.run_pure,Result.andThen_ok]
        cases hq:(loadVar ty p).run Pr w with
        |ok u w1=>rw [hq] at hy;simp at hy;rw [hy.1,hy.2]
        |halt q w1=>rw [hq] at hy;cases hy
    |_=>rw [hp] at hy;simp [Instr.sureAddr] at hy
   split at hk2
   · rename_i cs e1 e2 e3 z e4 hTy
     split at hk2
     · rename_i ps hps
       obtain⟨ws,h5,rfl⟩:=hmd;obtain⟨vs,h1,h2⟩:=YS hT hk (us:=us++[.agg ws.toArray]) hk2 ⟨S2,K2,hH2,hE2,hm2.snoc ⟨ws,((yV hps h5).mcs).map xC,rfl⟩⟩;refine⟨.agg ws.toArray::vs,?_,?_⟩
       · simp only [List.mapM_cons,hl,Sem.run_bind,Sem.run_pure,Result.andThen_ok,h1]
       · simpa [jo] using h2
     · exact hk2.elim
   · rename_i x _ _
     obtain⟨vs,h1,h2⟩:=YS hT hk (us:=us++[v]) hk2 ⟨S2,K2,hH2,hE2,hm2.snoc (zaR hmd)⟩;refine⟨v::vs,?_,?_⟩
     · simp only [List.mapM_cons,hl,Sem.run_bind,Sem.run_pure,Result.andThen_ok,h1]
     · simpa [jo] using h2
   · exact hk2.elim
theorem Y0 {S:Frz} {bs:List Value}: ∀ {args:List D} {vs:List Value} {n t:Nat} {d:D},MDs S bs args vs→look (zbJ n args) t=some d→n≤t∧∃ v,vs[t - n]? =some v∧MD S bs d v
 |[],[],n,t,d,_,h=>by cases h
 | x ::args,v::vs,n,t,d,hm,h=>by
   simp only [zbJ,xK] at h
   split at h
   · rename_i ht;cases h;subst ht;exact⟨jL _,v,by simp,hm.1⟩
   · rename_i ht
     obtain⟨h1,v',h2,h3⟩:=Y0 hm.2 h
     refine⟨by omega,v',?_,h3⟩
     rw [show t - n=(t - (n+1))+1 by omega]
     simpa using h2
theorem MDs.length {S:Frz} {bs:List Value}: ∀ {l:List D} {vs:List Value},MDs S bs l vs→vs.length=l.length
 |[],[],_=>rfl
 |_::_,_::_,h=>congrArg (· +1) (MDs.length h.2)
theorem zf1 {f:Nat→Option Nat}: ∀ {e:List (Nat × D)} {t:Nat} {d:D},look (renE f e) t=some d→∃ d',look e t=some d'∧d=d'.ren f
 |[],t,d,h=>by cases h
 | (s,d0)::r,t,d,h=>by
   simp only [renE] at h;rw [xK] at h ⊢
   split at h
   · rename_i hs;cases h;exact⟨d0,by rw [if_pos hs],rfl⟩
   · rename_i hs;obtain⟨d',h1,h2⟩:=zf1 h;exact⟨d',by rw [if_neg hs];exact h1,h2⟩
theorem zia (q a:Chunk) (p r:List Chunk) (c:Chunk) (fr:List Chunk):(q::a::((p++c::r)++fr)).Perm (c::a::((p++q::r)++fr)):=by
 have h1:(q::a::((p++c::r)++fr)).Perm (q::c::a::((p++r)++fr)):=List.Perm.cons _ (zD a p r c fr);have h2:(c::a::((p++q::r)++fr)).Perm (c::q::a::((p++r)++fr)):=List.Perm.cons _ (zD a p r q fr);exact(h1.trans (List.Perm.swap _ _ _)).trans h2.symm
theorem zd7 {st:St} {S:Frz} {K:List CO} (hH:Heap X st.hp S K w) (hE:Env S (K.map CO.base) st a) (k:Nat):
  ∃ K',Heap X (moveRow k st).hp S K' w∧Env S (K'.map CO.base) (moveRow k st) a:=by
 obtain⟨h1,h2,h3,h4⟩:=hH;unfold moveRow
 split
 · rename_i u E l ho
   rw [yg] at ho;obtain⟨c,hc,hr⟩:=h3.get ho;have hbk:=zL hc;obtain⟨p,r,hp1,hp2,hp3⟩:=xE hc;have hbs:(K.set k (.gone c.base)).map CO.base=K.map CO.base:=yY hc rfl
   have hb:((K.set k (.gone c.base))++[c]).map CO.base=K.map CO.base++[c.base]:=by rw [List.map_append,hbs];rfl
   have hlen:st.hp.length=(K.map CO.base).length:=by rw [h3.1,List.length_map]
   have hf: ∀ (i j:Nat) (v:Value),mvF k st.hp.length i=some j→(K.map CO.base)[i]? =some v→(K.map CO.base++[c.base])[j]? =some v:=by
    intro i j v e1 e2;unfold mvF at e1
    split at e1
    · rename_i hik
      have:=jI hik;subst this;cases e1;rw [hbk] at e2;cases e2;rw [hlen,jA (jL _)]
      simp
    · cases e1
      rw [jy (jl.1 e2).1];exact e2
   refine⟨(K.set k (.gone c.base))++[c],⟨h1,?_,?_,?_⟩,?_⟩
   · rw [hb];exact h2.trans (Ext.append _ _)
   · rw [hb]
     have hext:Ext (K.map CO.base) (K.map CO.base++[c.base]):=Ext.append _ _;refine HR.push ?_ (hr.mono (Frz.le.refl S) hext);rw [yJ]
     refine HR.set ⟨by simp [h3.1],fun i o' c' e1 e2=> ?_⟩ k .gone
     rw [List.getElem?_map,Option.map_eq_some_iff] at e1;obtain⟨o0,e3,rfl⟩:=e1;exact HO.zG hf (h3.2 i o0 c' e3 e2)
   · have H:=h4
     rw [hp1,zB] at H;have H:=(At.void H).perm (zia _ _ _ _ _ _);refine At.more ?_;rw [hp3,zB];exact H
   · rw [hb]
     refine⟨hE.size,hE.defers.mono (Frz.le.refl S) (Ext.append _ _),fun t d hd=> ?_⟩;obtain⟨d',h5,rfl⟩:=zf1 hd;exact D.zG hf _ _ (hE.slots t d' h5)
 · exact⟨K,⟨h1,h2,h3,h4⟩,hE⟩
theorem Zt {S:Frz}: ∀ (ks:List Nat) {st:St} {K:List CO},Heap X st.hp S K w→Env S (K.map CO.base) st a→∃ K',Heap X (XH ks st).hp S K' w∧Env S (K'.map CO.base) (XH ks st) a
 |[],st,K,hH,hE=>⟨K,hH,hE⟩
 | k::ks,st,K,hH,hE=>by
   obtain⟨K1,h1,h2⟩:=zd7 hH hE k;exact Zt ks h1 h2
theorem zg7 (hT:T.fits Pr) {fn:Func} {cfg:Cfg} {k0:Nat} (hk0:X.bs0.length=k0) {e:Exit} {e':AEx} {st':St} {S':Frz} {K':List CO} {out:AOut} {hp':List HO}
  (hk:(ztq alg T cfg k0 fn e' st').ok Pr X (fun o h=>o=out∧h=hp')) (hH:Heap X st'.hp S' K' w) (hE:Env S' (K'.map CO.base) st' a) (hem:EM S' (K'.map CO.base) e e'):
  match e with
  |.normal|.ret=>∃ v,(results fn a.tmps).run Pr w=.ok v w∧∃ S' K',X.S0.le S'∧Ext X.bs0 (K'.map CO.base)∧HR S' (K'.map CO.base) hp' K'∧At w (frzC S'::(CO.zy K'++X.fr))∧EOut S' (K'.map CO.base) out (.returned v)
  |.panic ch=>∃ S' K',X.S0.le S'∧Ext X.bs0 (K'.map CO.base)∧HR S' (K'.map CO.base) hp' K'∧At w (frzC S'::(CO.zy K'++X.fr))∧EOut S' (K'.map CO.base) out (.panicked ch)
  |_=>False:=by
 have fin: ∀ {rs},rs=fn.results.toList→(retT alg T cfg.raw cfg.fsl k0 rs [] (sO alg T cfg.rl 0 fn.results.toList fn.resultTypes.toList (XH cfg.mv st'))).ok Pr X (fun o h=>o=out∧h=hp')→∃ v,(results fn a.tmps).run Pr w=.ok v w∧∃ S' K',X.S0.le S'∧Ext X.bs0 (K'.map CO.base)∧HR S' (K'.map CO.base) hp' K'∧At w (frzC S'::(CO.zy K'++X.fr))∧EOut S' (K'.map CO.base) out (.returned v):=by
  intro rs hrs hret;obtain⟨K9,hH,hE⟩:=Zt cfg.mv hH hE;obtain⟨S3,K3,hH3,hE3⟩:=rW (T:=T) (rl:=cfg.rl) (i:=0) (rs:=fn.results.toList) (tys:=fn.resultTypes.toList) hH hE;obtain⟨us,h1,o,hp2,S2,K2,⟨rfl,rfl⟩,hH2,heo⟩:=YS hT (k0:=k0) hk0 (us:=[]) hret ⟨S3,K3,hH3,hE3,trivial⟩;simp only [List.nil_append] at heo;refine⟨_,?_,S2,K2,hH2.1,hH2.2.1,hH2.2.2.1,hH2.2.2.2,heo⟩;subst hrs
  have key:results fn a.tmps=(do let vs ← fn.results.mapM (WV a.tmps);pure (if h:vs.size=1 then vs[0] else .tuple vs)):=by
   unfold results
   congr 1
  rw [key,Array.mapM_eq_mapM_toList];simp only [Sem.run_bind,Sem.run_map,h1,Result.andThen_ok,Sem.run_pure]
 cases e with
 | normal=>cases e' with
   |normal=>exact fin rfl hk
   |exit j=>exact hem.elim
   |ret=>exact hem.elim
   |pan c=>exact hem.elim
 | ret=>cases e' with
   |ret=>exact fin rfl hk
   |normal=>exact hem.elim
   |exit j=>exact hem.elim
   |pan c=>exact hem.elim
 | panic ch=>cases e' with
   | pan c=>
     obtain⟨o,hp2,S2,K2,⟨rfl,rfl⟩,hH2,heo⟩:=zcS (k0:=k0) hk0 hk hH hE (e:=.panicked ch) (o:=.pan c) hem;exact⟨S2,K2,hH2.1,hH2.2.1,hH2.2.2.1,hH2.2.2.2,heo⟩
   |normal=>exact hem.elim
   |exit j=>exact hem.elim
   |ret=>exact hem.elim
 | exit i=>cases e' with
   |exit j=>exact hk.elim
   |normal=>exact hem.elim
   |ret=>exact hem.elim
   |pan c=>exact hem.elim
 |goto l=>cases e'<;>exact hem.elim
 |outgrown=>cases e'<;>exact hem.elim
theorem zl8 (hT:T.fits Pr) (hm:Pr.follows .mixedOrders=true) {f:Nat} {fn:Func} (hf:Pr.funcs[f]? =some fn) (hn:(fn.name == "runtime.NumGoroutine")=false) {cfg:Cfg} {args:List D} {hp:List HO} {out:AOut} {hp':List HO}
  (hsome:fn.body.isSome=true) (hle:Nat.ble args.length fn.ntmps=true) (h: ∀ (I:Alg) (X:Ctx),I=alg→X.bs0.length=hp.length→(funT I T cfg fn args hp).ok Pr X fun o h=>o=out∧h=hp'):Spc Pr f args hp out hp':=by
 have hbody: ∃ c,fn.body=some c:=Option.isSome_iff_exists.1 hsome;obtain⟨c,hc⟩:=hbody
 refine⟨⟨fn,hf,hn,by rw [hc];rfl⟩,fun S K fr w vs hHR hargs hat=> ?_⟩
 have hX:=h alg ⟨S,K.map CO.base,fr⟩ rfl (by simp [hHR.1])
 unfold funT at hX;rw [hc] at hX;have hal:=hargs.length;have hle:=Nat.le_of_ble_eq_true hle;refine calls_of_wp hf hc (wp_mono (zjk hT hm hX (X:=⟨S,K.map CO.base,fr⟩) ⟨S,K,⟨Frz.le.refl S,Ext.refl _,hHR,hat⟩,⟨?_,rfl,fun t d hd=> ?_⟩⟩) fun e a w' hq=> ?_)
 · simp [hal];omega
 · obtain⟨_,v,h1,h2⟩:=Y0 hargs hd
   simp only [Nat.sub_zero] at h1;have hlt:=(jl.1 h1).1
   have e:(vs.toArray++Array.replicate (fn.ntmps - vs.toArray.size) undef).getD t undef=v:=by
    rw [Array.getD_eq_getD_getElem?,Array.getElem?_append_left (by simpa using hlt)]
    simp [h1]
   rw [e];exact h2
 · obtain⟨e',st',hk,S',K',hH,hE,hem⟩:=hq
   unfold finK at hk
   split at hk
   case h_2=>exact hk.elim
   rename_i hdf
   have hd:a.defers=[]:=by have:=hE.defers;rw [hdf] at this;exact this
   have hfin:=zg7 (X:=⟨S,K.map CO.base,fr⟩) hT (by simp [hHR.1]) hk hH hE hem
   cases e with
   |normal=>exact⟨hd,hfin⟩
   |ret=>exact⟨hd,hfin⟩
   |panic ch=>exact⟨hd,hfin⟩
   |exit i=>exact hfin.elim
   |goto l=>exact hfin.elim
   |outgrown=>exact hfin.elim
end
end Go.Ab
namespace Go.Ab
open Go Go.Sep
variable [Facts]
structure Ok (Pr:Program) (X:Ctx) (G:AOut→List HO→Prop) (t:Tree):Prop where
 out:t.ok Pr X G
theorem zvF {Pr:Program} {X:Ctx} {G:AOut→List HO→Prop} {p:Prop} {t:Tree}:Ok Pr X G (.need p t)↔p∧Ok Pr X G t:=⟨fun h=>⟨h.out.1,⟨h.out.2⟩⟩,fun h=>⟨⟨h.1,h.2.out⟩⟩⟩
theorem zy0 {Pr:Program} {X:Ctx} {G:AOut→List HO→Prop} {b:Bool} {t f:Tree}:Ok Pr X G (.br b t f)↔(b=true→Ok Pr X G t)∧(b=false→Ok Pr X G f):=
 ⟨fun h=>⟨fun e=>⟨h.out.1 e⟩,fun e=>⟨h.out.2 e⟩⟩,fun h=>⟨⟨fun e=>(h.1 e).out,fun e=>(h.2 e).out⟩⟩⟩
theorem zxB {Pr:Program} {X:Ctx} {G:AOut→List HO→Prop} {o:AOut} {hp:List HO}:Ok Pr X G (.fin o hp)↔G o hp:=⟨fun h=>h.out,fun h=>⟨h⟩⟩
theorem zxA {Pr:Program} {X:Ctx} {G:AOut→List HO→Prop}:Ok Pr X G .qed↔True:=⟨fun _=>trivial,fun _=>⟨trivial⟩⟩
theorem zvG {Pr:Program} {X:Ctx} {G:AOut→List HO→Prop} {t f:Tree}:Ok Pr X G (.both t f)↔Ok Pr X G t∧Ok Pr X G f:=⟨fun h=>⟨⟨h.out.1⟩,⟨h.out.2⟩⟩,fun h=>⟨⟨h.1.out,h.2.out⟩⟩⟩
theorem zvE {Pr:Program} {X:Ctx} {G:AOut→List HO→Prop} {n:Nat}:Ok Pr X G (.stop n)↔False:=⟨fun h=>h.out,fun h=>h.elim⟩
section
variable {Pr:Program} {T:Tab} {X:Ctx} {G:AOut→List HO→Prop} {a:Act} {w:World}
def Slots (S:Frz) (bs:List Value) (a:Act) (e:List (Nat × D)):Prop:=∀ p ∈ e,MD S bs p.2 (a.tmps.getD p.1 undef)
theorem zkI: ∀ {e:List (Nat × D)} {t:Nat} {d:D},look e t=some d→(t,d) ∈ e
 | (s,d0)::r,t,d,h=>by
   simp only [xK] at h
   split at h
   · rename_i hs;cases h;subst hs;exact List.mem_cons_self ..
   · exact List.mem_cons_of_mem _ (zkI h)
theorem Vh {S:Frz} {bs:List Value} {st:St} (hE:Env S bs st a): ∀ {dom:List Nat} {e:List (Nat × D)},zaX st.env dom=some e→Slots S bs a e
 |[],e,h=>by cases h;intro p hp;cases hp
 | s ::dom,e,h=>by
   simp only [zaX] at h
   split at h
   · rename_i d0 r h1 h2
     cases h;intro p hp
     cases hp with
     |head=>exact hE.slots _ _ h1
     |tail _ hm=>exact Vh hE h2 p hm
   · cases h
theorem zaS {S:Frz} {bs:List Value}: ∀ {e:List (Nat × D)},Slots S bs a e→Slots S bs a (zvI e)
 |[],_=>fun p hp=>by cases hp
 | (t,d)::r,h=>fun p hp=>by
   cases hp with
   | head=>
     have:=h (t,d) (List.mem_cons_self ..)
     show MD S bs (zpk d) _
     unfold zpk
     split
     · exact xC _ _ this
     · obtain⟨vs,h3,h4⟩:=this;exact⟨vs,h3.map xC,h4⟩
     · exact this
   |tail _ hm=>exact zaS (fun q hq=>h q (List.mem_cons_of_mem _ hq)) p hm
theorem zb9 {S:Frz} {bs bs':List Value} {f:Nat→Option Nat} (hf: ∀ (k j:Nat) (v:Value),f k=some j→bs[k]? =some v→bs'[j]? =some v): ∀ {e:List (Nat × D)},Slots S bs a e→Slots S bs' a (renE f e)
 |[],_=>fun p hp=>by cases hp
 | (t,d)::r,h=>fun p hp=>by
   cases hp with
   |head=>exact D.zG hf d _ (h (t,d) (List.mem_cons_self ..))
   |tail _ hm=>exact zb9 hf (fun q hq=>h q (List.mem_cons_of_mem _ hq)) p hm
theorem Slots.mono {S S':Frz} (hle:S.le S') {bs bs':List Value} (he:Ext bs bs') {e:List (Nat × D)} (h:Slots S bs a e):Slots S' bs' a e:=fun p hp=>(h p hp).mono hle he
theorem zqX {sl:List SlE} {k0:Nat} (hk:X.bs0.length=k0) {dom:List Nat} {st s:St} (hc:St.cut sl k0 dom st=some s) (hn:Now X st a w):Now X s a w:=by
 unfold St.cut at hc
 split at hc
 · cases hc
 · rename_i e he
   simp only at hc
   obtain⟨hdf,he⟩:st.df=none∧zaX st.env dom=some e:=by
    split at he
    · rename_i hdf;exact⟨hdf,he⟩
    · cases he
   obtain⟨S,K,hH,hE⟩:=hn;obtain⟨K1,hb,hH1,hE1⟩:=TD (sl:=sl) (upto 0 k0++zoU e) hH hE;have hsl:=zaS ((Vh hE he).mono (Frz.le.refl S) hb)
   split at hc
   · rename_i os hpr ht
     cases hc;obtain⟨Cs,hH2,hf⟩:=zkn hk (fun k hk2=>zgK hk2) ht hH1
     exact⟨S,Cs,hH2,hE.size,(by have:=hE.defers;rw [hdf] at this;exact this),fun t d hd=>zb9 hf hsl _ (zkI hd)⟩
   · cases hc
def Tf (sel:List Nat) (n:Nat) (i:Nat):Option Nat:=
 match nth sel i with
 |some q=>some q
 |none=>some (n+(i - sel.length))
def Zm (f:Nat→Option Nat):List Nat→List HO→List HO→List HO
 |q::qs,o::os,hp=>Zm f qs os (setN hp q (o.ren f))
 |[],os,hp=>hp++os.map (HO.ren f)
 |_::_,[],hp=>hp
theorem zfr {K:List CO} {q:Nat} {c:CO} (h:(K.map CO.base)[q]? =some c.base):(K.set q c).map CO.base=K.map CO.base:=by
 have hlt:q<K.length:=by simpa using (jl.1 h).1
 have hc:K[q]? =some K[q]:=jm hlt;refine yY hc ?_;rw [zL hc] at h;simp only [jw] at h;exact h.symm
theorem Xv: ∀ {qs:List Nat} {cs K:List CO},(∀ (i q:Nat) (c:CO),qs[i]? =some q→cs[i]? =some c→(K.map CO.base)[q]? =some c.base)→qs.length≤cs.length→(zT qs cs K).map CO.base=K.map CO.base++(cs.drop qs.length).map CO.base
 |[],cs,K,_,_=>by simp [zT]
 | q::qs,c::cs,K,h,hl=>by
   have h0:=zfr (h 0 q c rfl rfl);simp only [zT]
   rw [Xv (fun i q' c' h1 h2=>by rw [h0];exact h (i+1) q' c' (by simpa using h1) (by simpa using h2)) (by simpa using hl),h0]
   simp
theorem At.put {w:World} {S:Frz} {K:List CO} {fr:List Chunk} {q:Nat} {c:CO} (hq:q<K.length) (H:At w (frzC S::(CO.zy K++(c.chunk::fr)))):At w (frzC S::(CO.zy (K.set q c)++fr)):=by
 obtain⟨p,r,h1,_,h3⟩:=xE (jm hq);rw [h3,zB];rw [h1,zB] at H;have H2:=(H.perm (zD _ _ _ _ _)).tail;have H3:=H2.perm ((xB c.chunk (frzC S) (CO.zy p++CO.zy r) fr).symm);exact H3.perm (zD _ _ _ _ _).symm
theorem WZ {S:Frz} {B:List Value} {f:Nat→Option Nat}: ∀ {qs:List Nat} {os hp:List HO} {cs K:List CO} {fr:List Chunk},os.length=cs.length→qs.length≤cs.length→(∀ q ∈ qs,q<K.length)→HR S B hp K→(∀ (i:Nat) (o:HO) (c:CO),os[i]? =some o→cs[i]? =some c→Rel S B (o.ren f) c)→
  At w (frzC S::(CO.zy K++(CO.zy cs++fr)))→HR S B (Zm f qs os hp) (zT qs cs K)∧At w (frzC S::(CO.zy (zT qs cs K)++fr))
 | [],os,hp,cs,K,fr,hl,_,_,hr,ho,hat=>by
   simp only [Zm,zT]
   refine⟨⟨by simp [hr.1,hl],fun i o c h1 h2=> ?_⟩,by rw [zB,jo];exact hat⟩
   rcases Nat.lt_or_ge i K.length with hi|hi
   · rw [jy (by rw [hr.1];exact hi)] at h1
     rw [jy hi] at h2;exact hr.2 i o c h1 h2
   · rw [jA (by rw [hr.1];exact hi)] at h1
     rw [jA hi] at h2;rw [hr.1,List.getElem?_map,Option.map_eq_some_iff] at h1;obtain⟨o',h3,rfl⟩:=h1;exact ho _ o' c h3 h2
 | q ::qs,o::os,hp,c::cs,K,fr,hl,hq,hqs,hr,ho,hat=>by
   simp only [Zm,zT];have hqk:q<K.length:=hqs q (List.mem_cons_self ..)
   refine WZ (by simpa using hl) (by simpa using hq) (fun q' h'=>by simp;exact hqs q' (List.mem_cons_of_mem _ h')) ?_ (fun i o' c' h1 h2=>ho (i+1) o' c' (by simpa using h1) (by simpa using h2)) ?_
   · rw [yJ];exact hr.set q (ho 0 o c rfl rfl)
   · have:=At.put (c:=c) hqk (fr:=CO.zy cs++fr) (by simpa [CO.zy] using hat)
     exact this
 | q::qs,[],hp,cs,K,fr,hl,hq,_,_,_,_=>by
   cases cs with
   |nil=>simp at hq
   |cons _ _=>cases hl
 |q::qs,o::os,hp,[],K,fr,hl,_,_,_,_,_=>by cases hl
theorem MDs.ren {S:Frz} {bs bs':List Value} {f:Nat→Option Nat} (hf: ∀ (k j:Nat) (v:Value),f k=some j→bs[k]? =some v→bs'[j]? =some v): ∀ {ds:List D} {vs:List Value},MDs S bs ds vs→MDs S bs' (ds.map (D.ren f)) vs
 |[],[],_=>trivial
 |d::_,_::_,h=>⟨D.zG hf d _ h.1,MDs.ren hf h.2⟩
theorem Spc.frame {f:Nat} {args0:List D} {hp0 hp1:List HO} {out0:AOut} (h:Spc Pr f args0 hp0 out0 hp1) (sel:List Nat) {args:List D} {hp os hpr:List HO} (ht:sJ sel hp=some (os,hpr))
  (ho:os.map (HO.ren fun q=>idx q sel 0)=hp0) (ha:args.map (D.ren fun q=>idx q sel 0)=args0):
  Spc Pr f args hp (out0.ren (Tf sel hp.length)) (Zm (Tf sel hp.length) sel hp1 hpr):=by
 refine⟨h.1,fun S K fr w vs hHR hargs hat=> ?_⟩;obtain⟨Cs,K',h1,h2,h3,h4,h5,h6,h7⟩:=ve ht rfl hHR hat
 have hf: ∀ (i j:Nat) (v:Value),idx i sel 0=some j→(K.map CO.base)[i]? =some v→(Cs.map CO.base)[j]? =some v:=by
  intro i j v e1 e2;obtain⟨_,e3⟩:=zeg e1;simp only [Nat.sub_zero] at e3
  have hjl:j<Cs.length:=by rw [h4,h5];exact(jl.1 e3).1
  have:=h6 j i _ e3 (jm hjl);rw [e2] at this;cases this;rw [List.getElem?_map,jm hjl];rfl
 have hHR0:HR S (Cs.map CO.base) hp0 Cs:=by
  refine⟨by rw [← ho];simp [h4],fun i o c e1 e2=> ?_⟩
  rw [← ho,List.getElem?_map,Option.map_eq_some_iff] at e1;obtain⟨o',e3,rfl⟩:=e1;exact HO.zG (fun i j v e4 e5=>hf i j v e4 e5) (h7 i o' c e3 e2)
 have hat0:At w (frzC S::(CO.zy Cs++(CO.zy K'++fr))):=by
  refine h3.perm (List.Perm.cons _ ?_);have h9:(CO.zy K'++CO.zy Cs).Perm (CO.zy Cs++CO.zy K'):=List.perm_append_comm;have h10:=h9.append_right fr;rw [jo,jo] at h10;exact h10
 refine(h.2 S Cs _ w vs hHR0 (by rw [← ha];exact hargs.ren hf) hat0).mono fun e w' he=> ?_
 obtain⟨S1,Cs1,hle,hex,hHR1,hat1,heo⟩:=he
 have hlc:sel.length≤Cs1.length:=by
  rcases Nat.lt_or_ge Cs1.length sel.length with hlt|hge
  · exfalso
    have hlt2:Cs1.length<Cs.length:=by omega
    have:=hex Cs1.length _ (by rw [List.getElem?_map,jm hlt2];rfl)
    have:=(jl.1 this).1
    simp at this
  · exact hge
 have hbq: ∀ (i q:Nat) (c:CO),sel[i]? =some q→Cs1[i]? =some c→(K'.map CO.base)[q]? =some c.base:=by
  intro i q c e1 e2
  have hil:i<Cs.length:=by rw [h4,h5];exact(jl.1 e1).1
  have e3:=h6 i q _ e1 (jm hil)
  have e4:=hex i _ (by rw [List.getElem?_map,jm hil];rfl)
  rw [zL e2] at e4;simp only [jw] at e4;rw [h1,e3,e4]
 have hB:=Xv hbq hlc
 have hex2:Ext (K.map CO.base) ((zT sel Cs1 K').map CO.base):=by rw [hB,h1];exact Ext.append _ _
 have hlen:K'.length=hp.length:=by
  have:=congrArg List.length h1;simp only [List.length_map] at this;rw [this,hHR.1]
 have hback: ∀ (i j:Nat) (v:Value),Tf sel hp.length i=some j→(Cs1.map CO.base)[i]? =some v→((zT sel Cs1 K').map CO.base)[j]? =some v:=by
  intro i j v e1 e2;unfold Tf at e1
  split at e1
  · rename_i q hq
    cases e1;rw [yg] at hq;rw [List.getElem?_map,Option.map_eq_some_iff] at e2;obtain⟨c,e3,rfl⟩:=e2
    exact hex2 _ _ (by rw [← h1];exact hbq i j c hq e3)
  · rename_i hq
    cases e1;rw [yg] at hq
    have hge:sel.length≤i:=by simpa using hq
    rw [hB,jA (by simp [hlen])]
    simp only [List.length_map,hlen];rw [List.getElem?_map,jG];rw [List.getElem?_map] at e2
    rw [show sel.length+(hp.length+(i - sel.length) - hp.length)=i by omega]
    exact e2
 have hat2:At w' (frzC S1::(CO.zy K'++(CO.zy Cs1++fr))):=by
  refine hat1.perm (List.Perm.cons _ ?_);have h9:(CO.zy Cs1++CO.zy K').Perm (CO.zy K'++CO.zy Cs1):=List.perm_append_comm;have h10:=h9.append_right fr;rw [jo,jo] at h10;exact h10
 obtain⟨r1,r2⟩:=WZ (f:=Tf sel hp.length) (B:=(zT sel Cs1 K').map CO.base) (qs:=sel) (os:=hp1) (hp:=hpr) (cs:=Cs1) hHR1.1 hlc (fun q hq=>by
  obtain⟨i,hi⟩:=List.getElem?_of_mem hq
  have hil:i<Cs.length:=by rw [h4,h5];exact(jl.1 hi).1
  have:=(jl.1 (h6 i q _ hi (jm hil))).1;rw [← h1] at this
  simpa using this) (h2.mono hle hex2) (fun i o c e1 e2=>HO.zG hback (hHR1.2 i o c e1 e2)) hat2
 refine⟨S1,zT sel Cs1 K',hle,hex2,r1,r2,?_⟩
 cases out0 with
 | ret d=>cases e with
   |returned v=>exact D.zG hback d v heo
   |panicked ch=>exact heo.elim
   |outgrown=>exact heo.elim
 | pan c=>cases e with
   |returned v=>exact heo.elim
   |panicked ch=>obtain⟨v,e1,e2⟩:=heo;exact⟨v,e1,C.zG hback c v e2⟩
   |outgrown=>exact heo.elim
def lowF (n:Nat) (i:Nat):Option Nat:=match Nat.blt i n with|true=>some i|false=>none
def zo4 (n:Nat) (i:Nat):Option Nat:=match i with|0=>some 0|i+1=>(match Nat.blt (i+1) n with|true=>none|false=>some (i+2 - n))
theorem splitK {α:Type} (l:List α) (n:Nat) (h:n≤l.length): ∃ a b,l=a++b∧a.length=n:=⟨l.take n,l.drop n,(List.take_append_drop n l).symm,by simp;omega⟩
theorem Spc.packed {f:Nat} {args:List D} {os os' ex:List HO} {out:AOut} (h:Spc Pr f args os out (os'++ex)) (hn:os.length=os'.length) (h0:0<os.length) (hlow:os'.map (HO.ren (lowF os'.length))=os'):
  Spc Pr f args [.pack os] (out.ren (zo4 os'.length)) (.pack os'::ex.map (HO.ren (zo4 os'.length))):=by
 refine⟨h.1,fun S K fr w vs hHR hargs hat=> ?_⟩
 obtain⟨c,rfl⟩: ∃ c,K=[c]:=by
  have:=hHR.1
  match K,this with
  |[c],_=>exact⟨c,rfl⟩
 have hr:=hHR.2 0 (.pack os) c rfl rfl
 cases hr with
 | @pack _ _ L hl hrel=>
   obtain⟨c0,L',rfl⟩: ∃ c0 L',L=c0::L':=by
    cases L with
    |nil=>rw [hl] at h0;cases h0
    |cons c0 L'=>exact⟨c0,L',rfl⟩
   have hbase:(CO.pack (c0::L')).base=c0.base:=rfl
   have hat0:At w (frzC S::(CO.zy (c0::L')++fr)):=by
    have h1:At w (sepC (CO.zy (c0::L'))::frzC S::fr):=At.swap hat;exact(At.many.1 h1).perm (List.perm_middle)
   have hargs0:MDs S ((c0::L').map CO.base) args vs:=hargs.mono (Frz.le.refl S) (fun k v hk=>by
    cases k with
    |zero=>exact hk
    |succ k=>simp at hk)
   refine(h.2 S (c0::L') fr w vs ⟨hl,hrel⟩ hargs0 hat0).mono fun e w' he=> ?_;obtain⟨S',K',hle,hex,hHR',hat',heo⟩:=he
   have hK':K'.length=os'.length+ex.length:=by rw [← hHR'.1,jk]
   obtain⟨KA,KB,rfl,hKA⟩:=splitK K' os'.length (by omega)
   obtain⟨a0,KA',rfl⟩: ∃ a0 KA',KA=a0::KA':=by
    cases KA with
    |nil=>rw [← hKA] at hn;rw [hn] at h0;cases h0
    |cons a0 KA'=>exact⟨a0,KA',rfl⟩
   have hb0:a0.base=c0.base:=by
    have:=hex 0 c0.base rfl
    simpa using this
   have hg : ∀ (k j:Nat) (v:Value),zo4 os'.length k=some j→(((a0::KA')++KB).map CO.base)[k]? =some v→((CO.pack (a0::KA')::KB).map CO.base)[j]? =some v:=by
    intro k j v h1 h2
    cases k with
    |zero=>cases h1;exact h2
    | succ k=>
      simp only [zo4] at h1
      split at h1
      · cases h1
      · rename_i hb
        cases h1
        have hb:os'.length≤k+1:=by
         rcases Nat.lt_or_ge (k+1) os'.length with h3|h3
         · have:Nat.blt (k+1) os'.length=true:=by simpa [Nat.blt_eq] using h3
           rw [this] at hb;cases hb
         · exact h3
        rw [List.map_append,jA (by rw [List.length_map,hKA];exact hb),List.length_map,hKA] at h2
        rw [show k+2 - os'.length=(k+1 - os'.length)+1 by omega,List.map_cons,List.getElem?_cons_succ]
        exact h2
   refine⟨S',.pack (a0::KA')::KB,hle,?_,⟨?_,?_⟩,?_,?_⟩
   · intro k v hk
     cases k with
     | zero=>
       have hk:some c0.base=some v:=hk
       show some a0.base=some v
       rw [hb0,hk]
     |succ k=>simp at hk
   · simp only [jh,List.length_map]
     simp only [jh] at hK' hKA;simp only [jk,jh] at hK';omega
   · intro i o co h1 h2
     cases i with
     | zero=>
       simp only [List.getElem?_cons_zero,jw] at h1 h2;subst h1;subst h2
       refine .pack (by rw [hKA]) fun i o c h3 h4=> ?_
       rw [← hlow,List.getElem?_map,Option.map_eq_some_iff] at h3;obtain⟨o1,h5,rfl⟩:=h3;have hi:i<os'.length:=(jl.1 h5).1
       refine HO.zG (fun k j v h6 h7=> ?_) (hHR'.2 i o1 c (by rw [jy hi];exact h5) (by rw [jy (by rw [hKA];exact hi)];exact h4))
       simp only [lowF] at h6
       split at h6
       · rename_i hb
         cases h6
         have hb:k<os'.length:=by simpa [Nat.blt_eq] using hb
         rw [List.map_append,jy (by rw [List.length_map,hKA];exact hb)] at h7
         exact h7
       · cases h6
     | succ i=>
       simp only [List.getElem?_cons_succ,List.getElem?_map,Option.map_eq_some_iff] at h1 h2;obtain⟨o1,h5,rfl⟩:=h1
       exact HO.zG hg (hHR'.2 (os'.length+i) o1 co (by rw [jA (by omega)];simpa using h5) (by rw [jA (by rw [hKA];omega),hKA];simpa using h2))
   · have h1:At w' (CO.zy (a0::KA')++frzC S'::(CO.zy KB++fr)):=by
      have h2:CO.zy ((a0::KA')++KB)++fr=CO.zy (a0::KA')++(CO.zy KB++fr):=by
       rw [CO.Yy,CO.Yy,CO.Yy,List.map_append,jo]
      rw [h2] at hat';exact hat'.perm List.perm_middle.symm
     exact At.swap (At.many.2 h1)
   · cases out with
     | ret d=>cases e with
       |returned v=>exact D.zG hg d v heo
       |panicked ch=>exact heo.elim
       |outgrown=>exact heo.elim
     | pan c=>cases e with
       |returned v=>exact heo.elim
       |panicked ch=>obtain⟨v,e1,e2⟩:=heo;exact⟨v,e1,C.zG hg c v e2⟩
       |outgrown=>exact heo.elim
end
end Go.Ab
namespace Go.Ab
open Go Go.Sep
variable [Facts]
def zxV:U→Bool
 |.byte=>true
 |.int=>true
 |.str=>true
 |.fld=>true
 |_=>false
def noLP:P→Bool
 |.list _ _=>false
 |.nl _=>false
 |_=>true
def zpl:Cap→Bool
 |.p x=>noLP x
 |.ptr _ _=>true
def noLC:C→Bool
 |.p x=>noLP x
 |.fpt _ _ _ _=>false
 |.fn _ caps=>caps.all zpl
 |.ifc _ _ ps=>ps.all noLP
 |_=>true
def noLV:V0→Bool
 |.one c=>noLC c
 |.agg cs=>cs.all noLC
def noLD:D→Bool
 |.v x=>noLV x
 |.tup l=>l.all noLV
 |.bad=>true
def noLA:AOut→Bool
 |.ret d=>noLD d
 |.pan c=>noLC c
mutual
def noLO:HO→Bool
 |.obj _ cs=>cs.all noLC
 |.row u _ _=>zxV u
 |.pack l=>zfY l
 |.abs _=>false
 |.gone=>true
def zfY:List HO→Bool
 |[]=>true
 |o::r=>noLO o&&zfY r
end
theorem zaT: ∀ {l:List HO} {i:Nat} {o:HO},zfY l=true→l[i]? =some o→noLO o=true
 |[],i,o,_,h=>by simp at h
 |x::l,0,o,hn,h=>by simp only [zfY,jK] at hn;simp at h;subst h;exact hn.1
 |x::l,i+1,o,hn,h=>by simp only [zfY,jK] at hn;exact zaT (l:=l) hn.2 (by simpa using h)
section
variable {S S':Frz} {bs:List Value}
theorem MP.noL {p:P} {v:Value} (h:MP S p v) (hn:noLP p=true):MP S' p v:=by
 cases h with
 |int k n=>exact .int k n
 |bool b=>exact .bool b
 |str l h=>exact .str l h
 |list=>cases hn
 |nl=>cases hn
 |val v h=>exact .val v h
theorem MPs.noL: ∀ {ps:List P} {vs:List Value},MPs S ps vs→ps.all noLP=true→MPs S' ps vs
 |[],[],_,_=>trivial
 |p::ps,v::vs,h,hn=>by simp only [List.all_cons,jK] at hn;exact⟨h.1.noL hn.1,MPs.noL h.2 hn.2⟩
 |[],_::_,h,_=>h.elim
 |_::_,[],h,_=>h.elim
theorem MCap.noL {p:Cap} {v:Value} (h:MCap S bs p v) (hn:zpl p=true):MCap S' bs p v:=by
 cases p with
 |p x=>exact MP.noL h hn
 |ptr k off=>exact h
theorem ZV.noL: ∀ {ps:List Cap} {vs:List Value},ZV S bs ps vs→ps.all zpl=true→ZV S' bs ps vs
 |[],[],_,_=>trivial
 |p::ps,v::vs,h,hn=>by simp only [List.all_cons,jK] at hn;exact⟨h.1.noL hn.1,ZV.noL h.2 hn.2⟩
 |[],_::_,h,_=>h.elim
 |_::_,[],h,_=>h.elim
theorem MC.noL {c:C} {v:Value} (h:MC S bs c v) (hn:noLC c=true):MC S' bs c v:=by
 cases c with
 |p x=>exact MP.noL h hn
 |fpt u l i off=>cases hn
 |fn f caps=>obtain⟨vs,h1,h2⟩:=h;exact⟨vs,h1.noL hn,h2⟩
 | ifc T agg ps=>
   cases agg with
   | false=>cases ps with
     |nil=>exact h.elim
     | cons p ps=>cases ps with
       |nil=>obtain⟨x,h1,h2⟩:=h;exact⟨x,h1.noL (by simpa [noLC] using hn),h2⟩
       |cons _ _=>exact h.elim
   |true=>obtain⟨vs,h1,h2⟩:=h;exact⟨vs,h1.noL hn,h2⟩
 |ptr k off=>exact h
 |ept u k i off=>exact h
 |row k=>exact h
 |sub u k lo hi=>exact h
 |nilS=>exact h
 |any=>exact h
theorem MCs.noL: ∀ {cs:List C} {vs:List Value},MCs S bs cs vs→cs.all noLC=true→MCs S' bs cs vs
 |[],[],_,_=>trivial
 |p::ps,v::vs,h,hn=>by simp only [List.all_cons,jK] at hn;exact⟨h.1.noL hn.1,MCs.noL h.2 hn.2⟩
 |[],_::_,h,_=>h.elim
 |_::_,[],h,_=>h.elim
theorem MV.noL {x:V0} {v:Value} (h:MV S bs x v) (hn:noLV x=true):MV S' bs x v:=by
 cases x with
 |one c=>exact MC.noL h hn
 |agg cs=>obtain⟨vs,h1,h2⟩:=h;exact⟨vs,h1.noL hn,h2⟩
theorem MVs.noL: ∀ {cs:List V0} {vs:List Value},MVs S bs cs vs→cs.all noLV=true→MVs S' bs cs vs
 |[],[],_,_=>trivial
 |p::ps,v::vs,h,hn=>by simp only [List.all_cons,jK] at hn;exact⟨h.1.noL hn.1,MVs.noL h.2 hn.2⟩
 |[],_::_,h,_=>h.elim
 |_::_,[],h,_=>h.elim
theorem MD.noL {d:D} {v:Value} (h:MD S bs d v) (hn:noLD d=true):MD S' bs d v:=by
 cases d with
 |v x=>exact MV.noL h hn
 |tup l=>obtain⟨vs,h1,h2⟩:=h;exact⟨vs,h1.noL hn,h2⟩
 |bad=>trivial
theorem EOut.noL {o:AOut} {e:Ending} (h:EOut S bs o e) (hn:noLA o=true):EOut S' bs o e:=by
 cases o with
 | ret d=>cases e with
   |returned v=>exact MD.noL h hn
   |panicked ch=>exact h.elim
   |outgrown=>exact h.elim
 | pan c=>cases e with
   |returned v=>exact h.elim
   |panicked ch=>obtain⟨v,h1,h2⟩:=h;exact⟨v,h1,h2.noL hn⟩
   |outgrown=>exact h.elim
theorem ztD {u:U} (hu:zxV u=true) (x:u.den) {j:Nat} {p:P} (h:(enc alg u x)[j]? =some p):noLP p=true:=by
 cases u<;>cases hu
 all_goals
  rcases j with _|_|j<;>simp [enc,zqJ] at h<;>subst h<;>rfl
theorem Rel.noL {o:HO} {c:CO} (h:Rel S bs o c):noLO o=true→Rel S' bs o c:=by
 induction h with
 |obj h=>intro hn;exact .obj (h.noL hn)
 |row hlen hx=>intro hn;exact .row hlen fun i x j p v a b c=>(hx i x j p v a b c).noL (ztD hn x b)
 |pack hl h ih=>intro hn;exact .pack hl fun i o c a b=>ih i o c a b (zaT hn a)
 |gone=>intro _;exact .gone
 |abs hl h ih=>intro hn;cases hn
end
theorem At.lend {w:World} {S:Frz} {E size:Nat} {ao:Option Addr} {n cap:Nat} {cs:List Value} {l:List Chunk} (H:At w (rowC E size (.slice ao n cap) n cs::frzC S::l)):
  ∃ S',S.le S'∧At w (frzC S'::l)∧RdS S' size (.slice ao n cap) n cs∧∀ (w':World) (S2:Frz) (m:List Chunk),S'.le S2→At w' (frzC S2::m)→∃ S3,S.le S3∧At w' (rowC E size (.slice ao n cap) n cs::frzC S3::m):=by
 obtain⟨F,A,B,e,dj,hrow,A',B',e',dj',hfrz,hl⟩:=H;obtain⟨hF,hlen,hv⟩:=hrow;obtain⟨hA',h1,h2,h3,h4⟩:=hfrz
 rcases hv with⟨hv,hn⟩|⟨g,cap',cur,fz,hv,hg,hfree,hnc,hcm,hcs,ht⟩
 · cases hv
   have hcs:cs=[]:=List.eq_nil_of_length_eq_zero (by simpa using hlen)
   subst hcs
   exact⟨S,Frz.le.refl S,⟨_,A',B',fun _=>Iff.rfl,dj',⟨hA',h1,h2,h3,h4⟩,hl⟩,fun w' _=>⟨_,0,rfl,jL _,jM _,fun _=>rfl,by simp,fun j u h=>by simp at h⟩,
    fun w' S2 m hle hat=>⟨S2,hle,hat.nilRow _ _⟩⟩
 · cases hv
   have hA: ∀ k,A k↔k=g:=fun k=>by rw [hF k];simp [Value.ownBlock,eq_comm]
   have hgn:S.blk g=none:=by
    cases hS:S.blk g with
    |none=>rfl
    | some o=>
      have:A' g:=(hA' g).2 (by rw [hS];rfl)
      exact(dj g ((hA g).2 rfl) ((e' g).2 (.inl this))).elim
   have hext: ∀ k o,S.blk k=some o→(if k=g then some (.cells cur E fz) else S.blk k)=some o:=fun k o ho=>by
    have:k≠g:=fun hk=>by subst hk;rw [hgn] at ho;cases ho
    simp only [this,if_false];exact ho
   refine⟨S.re S (fun k=>if k=g then some (.cells cur E fz) else S.blk k) rfl rfl rfl hext,⟨rfl,rfl,rfl,hext⟩,⟨F,fun k=>A k∨A' k,B',fun k=>by rw [e k,e' k,or_assoc],?_,⟨fun k=> ?_,h1,h2,h3,fun k o ho=> ?_⟩,hl⟩,fun w' hw'=> ?_,fun w' S2 m hle hat=> ?_⟩
   · rintro k (hk|hk) hB
     · exact dj k hk ((e' k).2 (.inr hB))
     · exact dj' k hk hB
   · show(A k∨A' k)↔(if k=g then some (.cells cur E fz) else S.blk k).isSome=true
     rw [hA k,hA' k]
     by_cases hk:k=g<;>simp [hk]
   · have ho:(if k=g then some (.cells cur E fz) else S.blk k)=some o:=ho
     by_cases hk:k=g
     · subst hk;simp only [if_true,jw] at ho;subst ho;exact hg
     · simp only [hk,if_false] at ho;exact h4 k o ho
   · have hgw:w'.heap[g]? =some (.cells cur E fz):=hw'.2.2.2 g _ (by simp [Frz.re])
     exact Owns.rd ⟨hlen,.inr ⟨g,cap,cur,fz,rfl,hgw,hfree,hnc,hcm,hcs,ht⟩⟩
   · obtain⟨F2,A2,B2,e2,d2,⟨hA2,i1,i2,i3,i4⟩,hm⟩:=hat
     have hS2:S2.blk g=some (.cells cur E fz):=hle.2.2.2 g _ (by simp [Frz.re])
     have hgw:w'.heap[g]? =some (.cells cur E fz):=i4 g _ hS2
     have hshr: ∀ k o,S.blk k=some o→(if k=g then none else S2.blk k)=some o:=fun k o ho=>by
      have hk:k≠g:=fun hk=>by subst hk;rw [hgn] at ho;cases ho
      have:=hle.2.2.2 k o (by simp only [Frz.re,hk,if_false];exact ho)
      simp only [hk,if_false];exact this
     refine⟨S.re S2 (fun k=>if k=g then none else S2.blk k) hle.1 hle.2.1 hle.2.2.1 hshr,⟨hle.1,hle.2.1,hle.2.2.1,hshr⟩,F2,A,fun k=>(A2 k∧k≠g)∨B2 k,fun k=> ?_,fun k hk=> ?_,⟨hF,hlen,.inr ⟨g,cap,cur,fz,rfl,hgw,hfree,hnc,hcm,hcs,ht⟩⟩,fun k=>A2 k∧k≠g,B2,fun _=>Iff.rfl,fun k hk=>d2 k hk.1,⟨fun k=> ?_,i1,i2,i3,fun k o ho=> ?_⟩,hm⟩
     · rw [e2 k,hA k]
       by_cases hk:k=g
       · subst hk
         have:A2 k:=(hA2 k).2 (by rw [hS2];rfl)
         simp [this]
       · simp [hk]
     · have hk:=(hA k).1 hk
       subst hk
       rintro(h|h)
       · exact h.2 rfl
       · exact d2 k ((hA2 k).2 (by rw [hS2];rfl)) h
     · show(A2 k∧k≠g)↔(if k=g then none else S2.blk k).isSome=true
       by_cases hk:k=g
       · simp [hk]
       · simp [hk,hA2 k]
     · have ho:(if k=g then none else S2.blk k)=some o:=ho
       by_cases hk:k=g
       · simp [hk] at ho
       · simp only [hk,if_false] at ho;exact i4 k o ho
theorem Spc.zxH {Pr:Program} {f:Nat} {args args1:List D} {hp hp1 hp':List HO} {out:AOut} {k:Nat} {u:U} {E:Nat} {l:List u.den} (h:Spc Pr f args1 hp1 out hp')
  (hk:hp[k]? =some (.row u E l)) (ha:args.map (D.frz alg k u l)=args1) (hh:setN (hp.map (HO.frz alg k u l)) k .gone=hp1) (ho:noLA out=true) (hp0:zfY hp'=true):
  Spc Pr f args hp out (setN hp' k (.row u E l)):=by
 refine⟨h.1,fun S K fr w vs hHR hargs hat=> ?_⟩;obtain⟨c,hc,hr⟩:=hHR.get hk
 cases hr with
 | @row _ _ _ _ ao cap ws hlen hx=>
   have hbk:=zL hc;obtain⟨p,r,hp1',hp2,hp3⟩:=xE hc;have H:=hat;rw [hp1',zB] at H;have H:=H.perm (zD _ _ _ _ _);obtain⟨S1,hle,hat1,hrd,hback⟩:=At.lend H
   have hf: ∀ c v,MC S (K.map CO.base) c v→MC S1 (K.map CO.base) (c.frz alg k u l) v:=fun c v hm=>
    C.uJ (by rw [hbk];rfl) hlen (fun i x j p v a b c=>(hx i x j p v a b c).mono hle) hrd (hm.mono hle (Ext.refl _))
   have hbs:(K.set k (.gone (.slice ao l.length cap))).map CO.base=K.map CO.base:=yY hc rfl
   have hHR1:HR S1 (K.map CO.base) hp1 (K.set k (.gone (.slice ao l.length cap))):=by
    rw [← hh,yJ]
    refine HR.set ⟨by simp [hHR.1],fun i o' c' e1 e2=> ?_⟩ k .gone
    rw [List.getElem?_map,Option.map_eq_some_iff] at e1;obtain⟨o0,e3,rfl⟩:=e1;have:=hHR.2 i o0 c' e3 e2
    cases this with
    |obj hm=>exact .obj (hm.map hf)
    |row a b=>exact .row a fun i x j p v q1 q2 q3=>(b i x j p v q1 q2 q3).mono hle
    |pack a b=>exact .pack a fun i o c q1 q2=>(b i o c q1 q2).mono hle (Ext.refl _)
    |abs a b=>exact .abs a fun i o c q1 q2=>(b i o c q1 q2).mono hle (Ext.refl _)
    |gone=>exact .gone
   have hargs1:MDs S1 (K.map CO.base) args1 vs:=by
    rw [← ha];clear h hHR hHR1 hp2 hp3 ha
    induction args generalizing vs with
    |nil=>cases vs with|nil=>trivial|cons _ _=>exact hargs.elim
    |cons d ds ih=>cases vs with|nil=>exact hargs.elim|cons v vs=>exact⟨D.uJ hf hargs.1,ih vs hargs.2⟩
   have hat2:At w (frzC S1::(CO.zy (K.set k (.gone (.slice ao l.length cap)))++fr)):=by
    rw [hp3,zB];exact(At.void hat1).perm (zD _ _ _ _ _).symm
   refine(h.2 S1 _ fr w vs (by rw [hbs];exact hHR1) (by rw [hbs];exact hargs1) hat2).mono fun e w' he=> ?_
   obtain⟨S2,K2,hle2,hex,hHR2,hat3,heo⟩:=he;rw [hbs] at hex;obtain⟨S3,hle3,hat4⟩:=hback w' S2 _ hle2 hat3;have hb2:=hex k _ hbk
   have hk2:k<K2.length:=by simpa using (jl.1 hb2).1
   have hbs2:(K2.set k (.row E u.size ao l.length cap ws)).map CO.base=K2.map CO.base:=zfr hb2
   refine⟨S3,K2.set k (.row E u.size ao l.length cap ws),hle3,by rw [hbs2];exact hex,?_,?_,by rw [hbs2];exact heo.noL ho⟩
   · rw [hbs2,yJ]
     exact HR.set ⟨hHR2.1,fun i o c e1 e2=>(hHR2.2 i o c e1 e2).noL (zaT hp0 e1)⟩ k (.row hlen fun i x j p v a b c=>(hx i x j p v a b c).mono hle3)
   · refine At.put hk2 (fr:=fr) (hat4.perm ?_)
     exact(List.Perm.swap _ _ _).trans (List.Perm.cons _ List.perm_middle.symm)
theorem Spc.lend {Pr:Program} {f:Nat} {args args0:List D} {hp0 hp1:List HO} {out0:AOut} (h:Spc Pr f args0 hp0 out0 hp1) (u:U) (E:Nat) (l:List u.den) {os hpr:List HO}
  (hh:(hp0++[HO.row u E l]).map (HO.frz alg hp0.length u l)=hp0++[.row u E l]) (ht:sJ (upto 0 hp0.length) (hp0++[.gone])=some (os,hpr)) (hos:os.map (HO.ren fun q=>idx q (upto 0 hp0.length) 0)=hp0)
  (ha:(args.map (D.frz alg hp0.length u l)).map (D.ren fun q=>idx q (upto 0 hp0.length) 0)=args0)
  (ho:noLA (out0.ren (Tf (upto 0 hp0.length) (hp0++[HO.gone]).length))=true) (hn:zfY (Zm (Tf (upto 0 hp0.length) (hp0++[HO.gone]).length) (upto 0 hp0.length) hp1 hpr)=true):
  Spc Pr f args (hp0++[.row u E l]) (out0.ren (Tf (upto 0 hp0.length) (hp0++[HO.gone]).length)) (setN (Zm (Tf (upto 0 hp0.length) (hp0++[HO.gone]).length) (upto 0 hp0.length) hp1 hpr) hp0.length (.row u E l)):=
 (h.frame (upto 0 hp0.length) ht hos ha).zxH (by simp) rfl (by rw [hh,yJ];simp) ho hn
end Go.Ab
namespace Go.Ab
open Go Go.Sep
variable [Facts]
theorem zh {α:Type} (x:α):alg.hid x=x:=rfl
theorem zrx (k:IntKind) (x y:Int):alg.shl k x y=k.wrap (x * 2 ^ (min y.toNat k.bits)):=rfl
theorem zrv (x y:Int):alg.shr x y=x.fdiv (2 ^ (min y.toNat 64)):=rfl
theorem zl0 (op:BinOp) (k:IntKind) (x y:Int):alg.bits op k x y=k.wrap (match op with
 |.and=>(BitVec.ofInt k.bits x&&& BitVec.ofInt k.bits y).toNat
 |.or=>(BitVec.ofInt k.bits x|||BitVec.ofInt k.bits y).toNat
 |_=>(BitVec.ofInt k.bits x ^^^ BitVec.ofInt k.bits y).toNat:Nat):=rfl
theorem Yl:IntKind.i64.min= -9223372036854775808:=by decide
theorem Ym:IntKind.i64.max=9223372036854775807:=by decide
theorem ztZ:IntKind.u8.min=0:=by decide
theorem zt0:IntKind.u8.max=255:=by decide
theorem zfT (c:UInt8):UInt8.ofNat ((c.toNat:Int)).toNat=c:=by simp
theorem qK (c d:UInt8):((c.toNat:Int)=(d.toNat:Int))↔c=d:=by
 constructor
 · intro h;exact UInt8.toNat_inj.1 (by omega)
 · intro h;rw [h]
theorem Spc.X0 {Pr:Program} {f:Nat} {args:List D} {hp:List HO} {out:AOut} {hp':List HO} (h:Spc Pr f args (X0 hp) out (Ab.X0 hp')):Spc Pr f args hp out hp':=by
 refine⟨h.1,fun S K fr w vs hHR hM hA=>(h.2 S K fr w vs (HR.ze9.2 hHR) hM hA).mono fun e w' he=> ?_⟩;obtain⟨S',K',h1,h2,h3,h4,h5⟩:=he;exact⟨S',K',h1,h2,HR.ze9.1 h3,h4,h5⟩
mutual
def zep {α:Type}:HO→(HO→α)→α
 |.pack l,k=>UX l fun l=>k (.pack l)
 |.obj t cs,k=>UY cs fun cs=>k (.obj t cs)
 |.row u E l,k=>k (.row u E l)
 |.abs g,k=>k (.abs g)
 |.gone,k=>k .gone
def UX {α:Type}:List HO→(List HO→α)→α
 |[],k=>k []
 |o::os,k=>zep o fun o=>UX os fun os=>k (o::os)
end
mutual
theorem zmL {α:Type}: ∀ (o:HO) (k:HO→α),zep o k=k o
 |.pack l,k=>by rw [zep,UW l]
 |.obj t cs,k=>by rw [zep,Xa]
 |.row u E l,k=>rfl
 |.abs g,k=>rfl
 |.gone,k=>rfl
theorem UW {α:Type}: ∀ (l:List HO) (k:List HO→α),UX l k=k l
 |[],k=>rfl
 |o::os,k=>by rw [UX,zmL o,UW os]
end
def Qw {α:Type} (o:AOut) (k:AOut→α):α:=match o with
 |.ret d=>zk4 d fun d=>k (.ret d)
 |.pan c=>zk5 c fun c=>k (.pan c)
theorem ziD {α:Type} (o:AOut) (k:AOut→α):Qw o k=k o:=by
 cases o<;>simp only [Qw,zgQ,zbb]
def zgO {α:Type} (st:St) (k:St→α):α:=zgP st.env fun e=>UX st.hp fun h=>zcD st.n fun n=>match st.df with|none=>k ⟨e,h,n,none⟩|some (g,cs)=>k ⟨e,h,n,some (g,cs)⟩
theorem zp6 {α:Type} (st:St) (k:St→α):zgO st k=k st:=by
 unfold zgO;rw [zba,UW];unfold zcD;obtain⟨e,h,n,df⟩:=st
 cases n<;>(cases df<;>rfl)
structure CR where
 need:Prop
 out:AOut
 hp:List HO
inductive CT where
 |one (r:CR)
 |br (b:Bool) (t f:CT)
def CT.Good (Pr:Program) (f:Nat) (args:List D) (hp:List HO):CT→Prop
 |.one r=>r.need→Spc Pr f args hp r.out r.hp
 |.br b t e=>(b=true→t.Good Pr f args hp)∧(b=false→e.Good Pr f args hp)
def CT.map (g:CR→CR):CT→CT
 |.one r=>.one (g r)
 |.br b t e=>.br b (t.map g) (e.map g)
def CT.mapO (g:CR→Option CR):CT→Option CT
 |.one r=>match g r with|some r=>some (.one r)|none=>none
 |.br b t e=>match t.mapO g,e.mapO g with|some t,some e=>some (.br b t e)|_,_=>none
def CT.tree (k:CR→Tree):CT→Tree
 |.one r=>k r
 |.br b t e=>.br b (t.tree k) (e.tree k)
theorem CT.Good.map {Pr:Program} {f f':Nat} {args args':List D} {hp hp':List HO} {g:CR→CR} (h: ∀ r:CR,(r.need→Spc Pr f args hp r.out r.hp)→(g r).need→Spc Pr f' args' hp' (g r).out (g r).hp): ∀ {c:CT},c.Good Pr f args hp→(c.map g).Good Pr f' args' hp'
 |.one r,hc=>h r hc
 |.br _ _ _,hc=>⟨fun e=>CT.Good.map h (hc.1 e),fun e=>CT.Good.map h (hc.2 e)⟩
theorem CT.Good.mapO {Pr:Program} {f f':Nat} {args args':List D} {hp hp':List HO} {g:CR→Option CR} (h: ∀ r r':CR,g r=some r'→(r.need→Spc Pr f args hp r.out r.hp)→r'.need→Spc Pr f' args' hp' r'.out r'.hp): ∀ {c c':CT},c.mapO g=some c'→c.Good Pr f args hp→c'.Good Pr f' args' hp'
 | .one r,c',e,hc=>by
   simp only [CT.mapO] at e
   split at e
   · rename_i r' hr;cases e;exact h r r' hr hc
   · cases e
 | .br b t f,c',e,hc=>by
   simp only [CT.mapO] at e
   split at e
   · rename_i t' f' ht hf;cases e;exact⟨fun e=>CT.Good.mapO h ht (hc.1 e),fun e=>CT.Good.mapO h hf (hc.2 e)⟩
   · cases e
abbrev KU:=List D→List HO→Option CT
structure Know (Pr:Program) where
 f:Nat
 c:Alg→List D→List HO→Option CT
 ok: ∀ args hp r,c alg args hp=some r→r.Good Pr f args hp
def zt8:List D→List Nat
 |[]=>[]
 |d::ds=>zsz d++zt8 ds
def zdC (hp:List HO) (args:List D):List Nat:=gather hp 60 (zt8 args) []
def frameC (c:List D→List HO→Option CT) (args:List D) (hp:List HO):Option CT:=
 match sJ (zdC hp args) hp with
 |none=>none
 | some (os,hpr)=>match c (args.map (D.ren fun q=>idx q (zdC hp args) 0)) (os.map (HO.ren fun q=>idx q (zdC hp args) 0)) with
   |none=>none
   |some r=>some (r.map fun r=>match r with|⟨p,o,h⟩=>⟨p,o.ren (Tf (zdC hp args) hp.length),Zm (Tf (zdC hp args) hp.length) (zdC hp args) h hpr⟩)
def zaY (I:Alg) (c:List D→List HO→Option CT):Nat→List D→List HO→Option CT
 |0,args,hp=>frameC c args hp
 | n + 1,args,hp=>match nth hp n with
   | some (.row u E l)=>(match zaY I c n (args.map (D.frz I n u l)) (setN (hp.map (HO.frz I n u l)) n .gone) with
     | some r=>r.mapO fun r=>(match noLA r.out,zfY r.hp with
       |true,true=>some ⟨r.need,r.out,setN r.hp n (.row u E l)⟩
       |_,_=>none)
     |none=>none)
   |_=>zaY I c n args hp
def zx (I:Alg) (c:List D→List HO→Option CT) (args:List D) (hp:List HO):Option CT:=zaY I c hp.length args hp
def ask {Pr:Program} (I:Alg):List (Know Pr)→Nat→List D→List HO→Option CT
 |[],_,_,_=>none
 | k::r,f,args,hp=>match Nat.beq k.f f with
   |true=>(match frameC (k.c I) args hp with|some x=>some x|none=>ask I r f args hp)
   |false=>ask I r f args hp
def drive (q:Nat→List D→List HO→Option CT):Tree→Tree
 |.need p t=>.need p (drive q t)
 |.br b t f=>.br b (drive q t) (drive q f)
 | .call f args hp k=>zcF hp fun hp=>match q f args hp with
   |some r=>r.tree fun r=>match r with|⟨p,o,h⟩=>.need p (Qw o fun o=>zcF h fun h=>drive q (k o h))
   |none=>.call f args hp fun o h=>drive q (k o h)
 |.code c st k=>.code c st k
 |.fin o hp=>.fin o hp
 |.both t f=>.both (drive q t) (drive q f)
 |.qed=>.qed
 |.stop n=>.stop n
def zu (Pr:Program) (f:Nat) (c:List D→List HO→Option CT):Prop:=∀ args hp r,c args hp=some r→r.Good Pr f args hp
section
variable {Pr:Program} {T:Tab} {X:Ctx} {G:AOut→List HO→Prop} {a:Act} {w:World}
theorem za7 {f:Nat} {c:List D→List HO→Option CT} (h:zu Pr f c):zu Pr f (frameC c):=by
 intro args hp r hr;unfold frameC at hr
 split at hr
 · cases hr
 · rename_i os hpr ht
   split at hr
   · cases hr
   · rename_i r0 hc
     cases hr;exact CT.Good.map (g:=fun r=>⟨r.need,r.out.ren (Tf (zdC hp args) hp.length),Zm (Tf (zdC hp args) hp.length) (zdC hp args) r.hp hpr⟩) (fun r hs hn=>(hs hn).frame _ ht rfl rfl) (h _ _ _ hc)
theorem Yh {f:Nat} {c:List D→List HO→Option CT} (h:zu Pr f c): ∀ n,zu Pr f (zaY alg c n)
 |0=>za7 h
 | n + 1 =>by
   intro args hp r hr;unfold zaY at hr
   split at hr
   · rename_i u E l ho
     rw [yg] at ho
     split at hr
     · rename_i r0 hc
       refine CT.Good.mapO (fun r r' hrr hs hn=> ?_) hr (Yh h n _ _ _ hc)
       split at hrr
       · rename_i h1 h2
         cases hrr;exact Spc.zxH (hs hn) ho rfl rfl h1 h2
       · cases hrr
     · cases hr
   · exact Yh h n _ _ _ hr
theorem zf {f:Nat} {c:List D→List HO→Option CT} (h:zu Pr f c):zu Pr f (zx alg c):=fun args hp=>Yh h hp.length args hp
theorem ZJ: ∀ {kn:List (Know Pr)} {f:Nat},zu Pr f (ask alg kn f)
 |[],f=>fun args hp r hr=>by cases hr
 | k ::r,f=>fun args hp x hr=>by
   unfold ask at hr
   split at hr
   · rename_i hb
     obtain rfl:=jI hb
     split at hr
     · rename_i y hy;cases hr;exact za7 k.ok args hp _ hy
     · exact ZJ args hp x hr
   · exact ZJ args hp x hr
theorem CT.wJ {f:Nat} {args:List D} {hp:List HO} {k:AOut→List HO→Tree} {k':AOut→List HO→Tree} (ih: ∀ o h,(k' o h).ok Pr X G→(k o h).ok Pr X G): ∀ {c:CT},c.Good Pr f args hp→(c.tree fun r=>.need r.need (k' r.out r.hp)).ok Pr X G→∃ out hp',Spc Pr f args hp out hp'∧(k out hp').ok Pr X G
 |.one r,hc,h=>⟨r.out,r.hp,hc h.1,ih _ _ h.2⟩
 | .br b t e,hc,h=>by
   cases b with
   |true=>exact CT.wJ ih (hc.1 rfl) (h.1 rfl)
   |false=>exact CT.wJ ih (hc.2 rfl) (h.2 rfl)
theorem VR {q:Nat→List D→List HO→Option CT} (hq: ∀ f,zu Pr f (q f)): ∀ {t:Tree},(drive q t).ok Pr X G→t.ok Pr X G:=by
 intro t
 induction t with
 |need p t ih=>exact fun h=>⟨h.1,ih h.2⟩
 |br b t f ih1 ih2=>exact fun h=>⟨fun e=>ih1 (h.1 e),fun e=>ih2 (h.2 e)⟩
 | call f args hp k ih=>
   intro h;simp only [drive,za9,ziD] at h
   split at h
   · rename_i r hr;exact CT.wJ (k':=fun o h=>drive q (k o h)) (fun o h=>ih o h) (hq f args hp r hr) h
   · obtain⟨o,hp',h1,h2⟩:=h;exact⟨o,hp',h1,ih _ _ h2⟩
 |code c st k ih=>exact fun h=>h
 |fin o hp=>exact fun h=>h
 |both t f ih1 ih2=>exact fun h=>⟨ih1 h.1,ih2 h.2⟩
 |qed=>exact fun h=>h
 |stop n=>exact fun h=>h
structure Rt where
 B:Code
 K:AEx→St→Tree
def vM (fn:Func):Code:=match fn.body with|some c=>c|none=>.skip
def loopBody:Code→Code
 |.loop b=>b
 |c=>c
def cAt:List Nat→Code→Code
 |[],c=>c
 | n::p,c=>match c with
   |.seq a b=>(match n with|0=>cAt p a|_=>cAt p b)
   |.cond _ t e=>(match n with|0=>cAt p t|_=>cAt p e)
   |.block _ b=>cAt p b
   |c=>c
def kAt (I:Alg) (T:Tab) (cfg:Cfg):List Nat→Code→(AEx→St→Tree)→AEx→St→Tree
 |[],_,K=>K
 | n ::p,c,K=>match c with
   |.seq a b=>(match n with|0=>kAt I T cfg p a (fun e st=>match e with|.normal=>vc I T cfg b K st|e=>K e st)|_=>kAt I T cfg p b K)
   |.cond _ t e=>(match n with|0=>kAt I T cfg p t K|_=>kAt I T cfg p e K)
   | .block id b=>kAt I T cfg p b (fun e st=>match e with
     |.exit j=>(match Nat.beq j id with|true=>K .normal st|false=>K (.exit j) st)
     |e=>K e st)
   |_=>K
def rtAt:Nat→List Rt→Rt
 |_,[]=>⟨.skip,fun _ _=>.stop 50⟩
 |0,r::_=>r
 |n+1,_::l=>rtAt n l
def leaf (I:Alg) (T:Tab) (cfg:Cfg) (R:List Rt) (i:Nat) (p:List Nat) (st:St):Tree:=
 .code (cAt p (rtAt i R).B) st (kAt I T cfg p (rtAt i R).B (rtAt i R).K)
def zxQ (I:Alg) (T:Tab) (cfg:Cfg) (c:Code) (K:AEx→St→Tree) (st:St):Tree:=
 match c with
 |.region _ ops draw=>regT I T cfg ops draw K (st.tidy cfg.keep)
 |c=>vc I T cfg c K st
def go (I:Alg) (T:Tab) (cfg:Cfg) (kn:List (Know Pr)) (R:List Rt) (i:Nat) (p:List Nat) (st:St):Tree:=
 drive (ask I kn) (zxQ I T cfg (cAt p (rtAt i R).B) (kAt I T cfg p (rtAt i R).B (rtAt i R).K) st)
def cutM (cfg:Cfg) (k0:Nat) (dom:List Nat) (st:St):Option St:=St.cut cfg.fsl k0 dom (XH cfg.mv st)
def zxd (cfg:Cfg) (k0:Nat) (dom:List Nat) (A:St→Prop) (k:AEx→St→Tree):AEx→St→Tree:=fun e st=>
 match e with
 |.normal=>(match cutM cfg k0 dom st with|some s=>zgO s fun s=>.need (A s) .qed|none=>.stop 19)
 |e=>k e st
def round (I:Alg) (T:Tab) (cfg:Cfg) (k0:Nat) (dom:List Nat) (A:St→Prop) (R:List Rt) (i:Nat) (p:List Nat):Rt:=
 ⟨loopBody (cAt p (rtAt i R).B),zxd cfg k0 dom A (kAt I T cfg p (rtAt i R).B (rtAt i R).K)⟩
inductive PT where
 |need (p:Prop) (t:PT)
 |br (b:Bool) (t f:PT)
 |code (i:Nat) (p:List Nat) (st:St)
 |fin (o:AOut) (hp:List HO)
 |both (t f:PT)
 |qed
 |stop (n:Nat)
def PT.inst (I:Alg) (T:Tab) (cfg:Cfg) (R:List Rt):PT→Tree
 |.need p t=>.need p (t.inst I T cfg R)
 |.br b t f=>.br b (t.inst I T cfg R) (f.inst I T cfg R)
 |.code i p st=>leaf I T cfg R i p st
 |.fin o hp=>.fin o hp
 |.both t f=>.both (t.inst I T cfg R) (f.inst I T cfg R)
 |.qed=>.qed
 |.stop n=>.stop n
theorem zgd {I:Alg} {cfg:Cfg} {R:List Rt} {p:Prop} {t:PT}:Ok Pr X G (PT.inst I T cfg R (.need p t))↔p∧Ok Pr X G (t.inst I T cfg R):=zvF
theorem zpP {I:Alg} {cfg:Cfg} {R:List Rt} {b:Bool} {t f:PT}:Ok Pr X G (PT.inst I T cfg R (.br b t f))↔(b=true→Ok Pr X G (t.inst I T cfg R))∧(b=false→Ok Pr X G (f.inst I T cfg R)):=zy0
theorem zgf {I:Alg} {cfg:Cfg} {R:List Rt} {t f:PT}:Ok Pr X G (PT.inst I T cfg R (.both t f))↔Ok Pr X G (t.inst I T cfg R)∧Ok Pr X G (f.inst I T cfg R):=zvG
theorem zkS {I:Alg} {cfg:Cfg} {R:List Rt} {o:AOut} {hp:List HO}:Ok Pr X G (PT.inst I T cfg R (.fin o hp))↔G o hp:=zxB
theorem zkR {I:Alg} {cfg:Cfg} {R:List Rt}:Ok Pr X G (PT.inst I T cfg R .qed)↔True:=zxA
theorem zgc {I:Alg} {cfg:Cfg} {R:List Rt} {n:Nat}:Ok Pr X G (PT.inst I T cfg R (.stop n))↔False:=zvE
theorem zge {I:Alg} {cfg:Cfg} {R:List Rt} {i:Nat} {p:List Nat} {st:St}:Ok Pr X G (PT.inst I T cfg R (.code i p st))↔Ok Pr X G (leaf I T cfg R i p st):=Iff.rfl
def Vr (cfg:Cfg):Code→Bool
 |.region id _ _=>memN id cfg.seam
 |_=>false
theorem spcG {P:Program} {T:Tab} (hT:T.fits P) (hm:P.follows .mixedOrders=true) {f:Nat} {fn:Func} (hf:P.funcs[f]? =some fn) (hn:(fn.name == "runtime.NumGoroutine")=false) (cfg:Cfg) (kn:List (Know P)) {args:List D} {hp:List HO} {out:AOut} {hp':List HO}
  (hb:(fn.body.isSome&& !Vr cfg (vM fn)&&Nat.ble args.length fn.ntmps)=true)
  (h: ∀ (I:Alg) (X:Ctx),I=alg→X.bs0.length=hp.length→Ok P X (fun o h=>o=out∧h=hp') (go I T cfg kn [⟨vM fn,finK I T cfg hp.length fn⟩] 0 [] { env:=zbJ 0 args,hp:=hp,n:=fn.ntmps})):Spc P f args hp out hp':=by
 simp only [jK,Bool.not_eq_true'] at hb;refine zl8 hT hm hf hn (cfg:=cfg) hb.1.1 hb.2 fun I X hI hX=> ?_;subst hI;have h1:=(h alg X rfl hX).out;have h2:=VR (fun f=>ZJ) h1;have hs:=hb.1.2;unfold funT;unfold vM at h2 hs
 cases hbd:fn.body with
 |none=>rw [hbd] at hb;cases hb.1.1
 | some c=>
   rw [hbd] at h2 hs;simp only [rtAt,cAt,kAt] at h2;simp only at hs ⊢
   cases c<;>first|exact h2|skip
   simp only [Vr] at hs;simp only [vc,hs];exact h2
theorem Zu (hT:T.fits Pr) (hm:Pr.follows .mixedOrders=true) {cfg:Cfg} {c:Code} {K:AEx→St→Tree} {st:St} (h:(zxQ alg T cfg c K st).ok Pr X G) (hn:Now X st a w):c.wp Pr (Post X fun e st'=>(K e st').ok Pr X G) a w:=by
 cases c with
 |region id ops draw=>exact zca hT hm h (hn.tidy cfg.keep)
 |_=>exact zjk hT hm (cfg:=cfg) h hn
theorem Tc {cfg:Cfg} {k0:Nat} (hk:X.bs0.length=k0) {dom:List Nat} {st s:St} (hc:cutM cfg k0 dom st=some s) (hn:Now X st a w):Now X s a w:=by
 obtain⟨S,K,hH,hE⟩:=hn;obtain⟨K',h1,h2⟩:=Zt cfg.mv hH hE;exact zqX hk hc ⟨S,K',h1,h2⟩
theorem zkH {I:Alg} (hI:I=alg) (hT:T.fits Pr) (hm:Pr.follows .mixedOrders=true) {cfg:Cfg} (kn:List (Know Pr)) {R:List Rt} {i:Nat} {p:List Nat} {st:St} {k0:Nat} (hk:X.bs0.length=k0) (dom:List Nat) {ι:Type} (Inv:ι→Prop) (Iv:ι→St) (μ:ι→Nat) (g0:ι)
  (hc:(match cAt p (rtAt i R).B with|.loop b=> !Vr cfg b|_=>false)=true) (h0:cutM cfg k0 dom st=some (Iv g0)) (hg0:Inv g0)
  (hr: ∀ (g:ι),Inv g→∀ (A:St→Prop),(∀ g',Inv g'→μ g'<μ g→A (Iv g'))→Ok Pr X G (go I T cfg kn (round I T cfg k0 dom A R i p::R) 0 [] (Iv g))):Ok Pr X G (leaf I T cfg R i p st):=by
 subst hI;constructor;unfold leaf;intro S K a w hH hE
 obtain⟨b,hb⟩: ∃ b,cAt p (rtAt i R).B=.loop b:=by
  cases h:cAt p (rtAt i R).B<;>rw [h] at hc<;>first|exact⟨_,rfl⟩|cases hc
 rw [hb];refine wp_loop_ghost (fun n a w=>∃ g,Inv g∧μ g=n∧Now X (Iv g) a w) (μ g0) ⟨g0,hg0,rfl,Tc hk h0 ⟨S,K,hH,hE⟩⟩ ?_;rintro n a w ⟨g,hg,rfl,hn⟩;have h1:=(hr g hg (fun s=>∃ g',Inv g'∧μ g'<μ g∧s=Iv g') (fun g' hi hl=>⟨g',hi,hl,rfl⟩)).out;have h2:=VR (fun f=>ZJ) h1;simp only [rtAt,cAt,kAt,round,hb,loopBody] at h2;refine wp_mono (Zu hT hm h2 hn) fun e a' w' hq=> ?_;obtain⟨e',st',h1,S',K',hH',hE',hem⟩:=hq;generalize kAt alg T cfg p (rtAt i R).B (rtAt i R).K=k at h1;have keep: ∀ {e:Exit} {e':AEx},(∀ (h:e'=.normal),False)→EM S' (K'.map CO.base) e e'→(k e' st').ok Pr X G→Post X (fun e st'=>(k e st').ok Pr X G) e a' w':=fun {e e'} _ hem h=>⟨e',st',h,S',K',hH',hE',hem⟩
 cases e' with
 | normal=>
   cases e with
   | normal=>
     have h1:((match cutM cfg k0 dom st' with|some s=>zgO s fun s=>Tree.need (∃ g',Inv g'∧μ g'<μ g∧s=Iv g') .qed|none=>.stop 19):Tree).ok Pr X G:=h1
     split at h1
     · rename_i s hs
       rw [zp6] at h1;obtain⟨⟨g',hi,hlt,rfl⟩,_⟩:=h1;exact⟨μ g',hlt,g',hi,rfl,Tc hk hs ⟨S',K',hH',hE'⟩⟩
     · exact h1.elim
   |exit i=>exact hem.elim
   |goto l=>exact hem.elim
   |ret=>exact hem.elim
   |panic ch=>exact hem.elim
   |outgrown=>exact hem.elim
 | exit j=>cases e with
   |exit i=>exact keep (fun h=>by cases h) hem h1
   |normal=>exact hem.elim
   |goto l=>exact hem.elim
   |ret=>exact hem.elim
   |panic ch=>exact hem.elim
   |outgrown=>exact hem.elim
 | ret=>cases e with
   |ret=>exact keep (fun h=>by cases h) hem h1
   |normal=>exact hem.elim
   |goto l=>exact hem.elim
   |exit j=>exact hem.elim
   |panic ch=>exact hem.elim
   |outgrown=>exact hem.elim
 | pan c=>cases e with
   |panic ch=>exact keep (fun h=>by cases h) hem h1
   |normal=>exact hem.elim
   |goto l=>exact hem.elim
   |exit j=>exact hem.elim
   |ret=>exact hem.elim
   |outgrown=>exact hem.elim
theorem seam {I:Alg} (hI:I=alg) (hT:T.fits Pr) (hm:Pr.follows .mixedOrders=true) {cfg:Cfg} (kn:List (Know Pr)) {R:List Rt} {i:Nat} {p:List Nat} {st:St} {k0:Nat} (hk:X.bs0.length=k0) (dom:List Nat) (st1:St)
  (h0:cutM cfg k0 dom st=some st1) (hr:Ok Pr X G (go I T cfg kn R i p st1)):Ok Pr X G (leaf I T cfg R i p st):=by
 subst hI;constructor;intro S K a w hH hE;exact Zu hT hm (VR (fun f=>ZJ) hr.out) (Tc hk h0 ⟨S,K,hH,hE⟩)
end
section
def rgOf:Code→Option Nat
 |.region id _ _=>some id
 |.seq a b=>match rgOf a with|some r=>some r|none=>rgOf b
 |.cond _ a b=>match rgOf a with|some r=>some r|none=>rgOf b
 |.block _ b=>rgOf b
 |.loop b=>rgOf b
 |_=>none
def isLp:Code→Bool
 |.loop _=>true
 |_=>false
def fndC (lp:Bool) (r:Nat):Code→Option (List Nat)
 |.region id _ _=>match lp,Nat.beq id r with|false,true=>some []|_,_=>none
 |.seq a b=>match fndC lp r a with|some p=>some (0::p)|none=>match fndC lp r b with|some p=>some (1::p)|none=>none
 |.cond _ a b=>match fndC lp r a with|some p=>some (0::p)|none=>match fndC lp r b with|some p=>some (1::p)|none=>none
 |.block _ b=>match fndC lp r b with|some p=>some (0::p)|none=>none
 |.loop b=>match lp,rgOf b with|true,some s=>(match Nat.beq s r with|true=>some []|false=>none)|_,_=>none
 |_=>none
def fndR (lp:Bool) (r:Nat):Nat→List Rt→Option (Nat × List Nat)
 |_,[]=>none
 |i,x::l=>match fndC lp r x.B with|some p=>some (i,p)|none=>fndR lp r (i+1) l
def wrt (R:List Rt):Tree→(PT→Value)→Value
 |.need p t,k=>wrt R t fun t=>k (.need p t)
 |.br b t f,k=>wrt R t fun t=>wrt R f fun f=>k (.br b t f)
 |.call ..,k=>k (.stop 77)
 | .code c st _,k=>match rgOf c with
   | some r=>(match fndR (isLp c) r 0 R with
     |some (i,p)=>zgO st fun st=>k (.code i p st)
     |none=>k (.stop 78))
   |none=>k (.stop 79)
 |.fin o hp,k=>Qw o fun o=>UX hp fun hp=>k (.fin o hp)
 |.both t f,k=>wrt R t fun t=>wrt R f fun f=>k (.both t f)
 |.qed,k=>k .qed
 |.stop n,k=>k (.stop n)
def sink (_:PT):Int:=0
def PQ:Program:= { (default:Program) with types:= #[{ (default:TypeInfo) with desc:=.pointer 0,methods:= #[{ name:= "",sig:=0,path:= #[],func:=some (0,true)}]}]}
def Look (_:Result (Nat × Value)):Prop:=True
variable {Pr:Program} {T:Tab} {X:Ctx} {G:AOut→List HO→Prop}
theorem orcL {I:Alg} {cfg:Cfg} {kn:List (Know Pr)} {R:List Rt} {i:Nat} {p:List Nat} {st:St}
 (h:Look (Sem.run PQ (Go.method 1 0 (wrt R (go I T cfg kn R i p st) fun t=>.int .i64 (sink t)) "") default)→Ok Pr X G (go I T cfg kn R i p st)):Ok Pr X G (go I T cfg kn R i p st):=h trivial
theorem orcS {I:Alg} {cfg:Cfg} {kn:List (Know Pr)} {R:List Rt} {i:Nat} {p:List Nat} {st:St} {pt:PT} {w:World}
 (h:go I T cfg kn R i p st=pt.inst I T cfg R) (k:Ok Pr X G (pt.inst I T cfg R)):Look (.ok (0,.int .i64 (sink pt)) w)→Ok Pr X G (go I T cfg kn R i p st):=fun _=>h▸k
end
inductive AM where
 |ret
 |pan (c:C)
def MAM (S:Frz) (bs:List Value):AM→FrameMode→Prop
 |.ret,u=>u=.returning
 |.pan c,u=>∃ v,u=.panicking [{ v:=v,recovered:=false}]∧MC S bs c v
def SpcD (Pr:Program) (g:Nat) (caps:List Cap) (m:AM) (hp:List HO) (m':AM) (hp':List HO):Prop:=
 (∃ fn,Pr.funcs[g]? =some fn∧(fn.name == "runtime.NumGoroutine")=false∧fn.body.isNone=false)∧
 ∀ (S:Frz) (K:List CO) (fr:List Chunk) (w:World) (vs:List Value) (u:FrameMode),HR S (K.map CO.base) hp K→ZV S (K.map CO.base) caps vs→At w (frzC S::(CO.zy K++fr))→MAM S (K.map CO.base) m u→
   CallsD Pr g vs.toArray u w fun e u' w'=>(∃ v,e=.returned v)∧∃ S' K',S.le S'∧Ext (K.map CO.base) (K'.map CO.base)∧HR S' (K'.map CO.base) hp' K'∧At w' (frzC S'::(CO.zy K'++fr))∧MAM S' (K'.map CO.base) m' (settle u')
structure Door (Pr:Program) where
 g:Nat
 c:Alg→AM→List Cap→List HO→Option (Prop × AM × List HO)
 ok: ∀ m caps hp p m' hp',c alg m caps hp=some (p,m',hp')→p→SpcD Pr g caps m hp m' hp'
def AM.out:AM→AEx
 |.ret=>.ret
 |.pan c=>.pan c
def zxF:AEx→Option AM
 |.normal=>some .ret
 |.ret=>some .ret
 |.pan c=>some (.pan c)
 |.exit _=>none
def zxX {Pr:Program} (I:Alg) (T:Tab) (cfg:Cfg) (k0:Nat) (fn:Func) (dk:Door Pr) (e:AEx) (st:St):Tree:=
 match st.df with
 |none=>ztq I T cfg k0 fn e st
 | some (g,caps)=>match Nat.beq g dk.g,zxF e with
   | true,some m=>(match dk.c I m caps st.hp with
     |some (p,m',hp')=>.need p (ztq I T cfg k0 fn m'.out { st with hp:=hp',df:=none})
     |none=>.stop 91)
   |_,_=>.stop 92
section
variable {Pr:Program} {T:Tab} {a:Act} {w:World}
theorem zm4 {g:Nat} {fn:Func} (hfn:Pr.funcs[g]? =some fn) (hname:(fn.name == "runtime.NumGoroutine")=false) (hbody:fn.body.isNone=false) (args:Array Value):(callFunc g args).run Pr w=.ok (.enter g args) w:=by
 have hname': ¬ fn.name= "runtime.NumGoroutine" :=by simpa using hname
 have hbody': ¬ fn.body=none:=by cases hb:fn.body with|none=>rw [hb] at hbody;cases hbody|some c=>simp
 simp [callFunc,program,hfn,Sem.run]
 rw [if_neg hname',if_neg hbody']
theorem zw2 {P:Program} {T:Tab} (hT:T.fits P) (hm:P.follows .mixedOrders=true) {f:Nat} {fn:Func} (hf:P.funcs[f]? =some fn) (hn:(fn.name == "runtime.NumGoroutine")=false) (cfg:Cfg) (kn:List (Know P)) (dk:Door P) {args:List D} {hp:List HO} {out:AOut} {hp':List HO}
  (hb:(fn.body.isSome&& !Vr cfg (vM fn)&&Nat.ble args.length fn.ntmps)=true)
  (h: ∀ (I:Alg) (X:Ctx),I=alg→X.bs0.length=hp.length→Ok P X (fun o h=>o=out∧h=hp') (go I T cfg kn [⟨vM fn,zxX I T cfg hp.length fn dk⟩] 0 [] { env:=zbJ 0 args,hp:=hp,n:=fn.ntmps})):Spc P f args hp out hp':=by
 simp only [jK,Bool.not_eq_true'] at hb;obtain⟨⟨hb1,hb2⟩,hb3⟩:=hb;obtain⟨c,hc⟩:=Option.isSome_iff_exists.1 hb1
 have hbo:vM fn=c:=by unfold vM;rw [hc]
 refine⟨⟨fn,hf,hn,by rw [hc];rfl⟩,fun S K fr w vs hHR hargs hat=> ?_⟩
 have h1:=(h alg ⟨S,K.map CO.base,fr⟩ rfl (by simp [hHR.1])).out
 have h2:=VR (fun f=>ZJ) h1;simp only [rtAt,cAt,kAt,hbo] at h2;have hal:=hargs.length;have hle:=Nat.le_of_ble_eq_true hb3
 have hnow:Now ⟨S,K.map CO.base,fr⟩ { env:=zbJ 0 args,hp:=hp,n:=fn.ntmps} { tmps:=vs.toArray++Array.replicate (fn.ntmps - vs.toArray.size) undef,defers:=[]} w:=by
  refine⟨S,K,⟨Frz.le.refl S,Ext.refl _,hHR,hat⟩,⟨?_,rfl,fun t d hd=> ?_⟩⟩
  · simp [hal];omega
  · obtain⟨_,v,h1,h2⟩:=Y0 hargs hd
    simp only [Nat.sub_zero] at h1;have hlt:=(jl.1 h1).1
    have e:(vs.toArray++Array.replicate (fn.ntmps - vs.toArray.size) undef).getD t undef=v:=by
     rw [Array.getD_eq_getD_getElem?,Array.getElem?_append_left (by simpa using hlt)]
     simp [h1]
    rw [e];exact h2
 refine calls_of_wp_defers hf hc (wp_mono (Zu hT hm h2 hnow) fun e a w' hq=> ?_);obtain⟨e',st',hk,S',K',hH,hE,hem⟩:=hq
 have hlen:(K.map CO.base).length=hp.length:=by simp [hHR.1]
 unfold zxX at hk
 split at hk
 · rename_i hdf
   have hd:a.defers=[]:=by have:=hE.defers;rw [hdf] at this;exact this
   have hfin:=zg7 (X:=⟨S,K.map CO.base,fr⟩) hT hlen hk hH hE hem
   cases e with
   |normal=>show Leaves P fn a.tmps _ a.defers .returning w';rw [hd];exact hfin
   |ret=>show Leaves P fn a.tmps _ a.defers .returning w';rw [hd];exact hfin
   |panic ch=>show Leaves P fn a.tmps _ a.defers (.panicking ch) w';rw [hd];exact hfin
   |exit i=>exact hfin.elim
   |goto l=>exact hfin.elim
   |outgrown=>exact hfin.elim
 · rename_i g caps hdf
   split at hk
   · rename_i m hg hmo
     have hg:=jI hg
     split at hk
     · rename_i p m' hp2 hc2
       obtain⟨hpn,hk⟩:=hk;have hds:=hE.defers;rw [hdf] at hds;obtain⟨us,hcap,hds⟩:=hds;have hspec:=dk.ok _ _ _ _ _ _ hc2 hpn;rw [← hg] at hspec;obtain⟨⟨gn,hgn,hgname,hgbody⟩,hspec⟩:=hspec
       have key: ∀ u,MAM S' (K'.map CO.base) m u→u≠ .run→Leaves P fn a.tmps (fun e w'=>∃ S' K',S.le S'∧Ext (K.map CO.base) (K'.map CO.base)∧HR S' (K'.map CO.base) hp' K'∧At w' (frzC S'::(CO.zy K'++fr))∧EOut S' (K'.map CO.base) out e) a.defers u w':=by
        intro u hu hrun;rw [hds];refine⟨hrun,_,_,g,us.toArray,rfl,?_,CallsD.mono (hspec S' K' fr w' us u hH.2.2.1 hcap hH.2.2.2 hu) ?_⟩
        · simp only [invoke,Array.empty_append]
          exact zm4 hgn hgname hgbody _
        · rintro e2 u' w2 ⟨⟨v,rfl⟩,S2,K2,hle2,hex2,hHR2,hat2,hm2⟩
          simp only;have hH2:Heap ⟨S,K.map CO.base,fr⟩ hp2 S2 K2 w2:=⟨hH.1.trans hle2,hH.2.1.trans hex2,hHR2,hat2⟩
          have hE2:Env S2 (K2.map CO.base) { st' with hp:=hp2,df:=none} { a with defers:=[]}:=⟨hE.size,rfl,fun t d hd=>(hE.slots t d hd).mono hle2 hex2⟩
          cases m' with
          | ret=>
            have:settle u'=.returning:=hm2;rw [this];exact zg7 (X:=⟨S,K.map CO.base,fr⟩) (e:=.ret) hT hlen hk hH2 hE2 trivial
          | pan c=>
            obtain⟨v2,h5,h6⟩:=hm2;rw [h5];exact zg7 (X:=⟨S,K.map CO.base,fr⟩) (e:=.panic _) hT hlen hk hH2 hE2 ⟨v2,rfl,h6⟩
       cases e with
       |normal=>cases e'<;>first|exact hem.elim|(cases hmo;exact key .returning rfl (by simp))
       |ret=>cases e'<;>first|exact hem.elim|(cases hmo;exact key .returning rfl (by simp))
       |panic ch=>cases e'<;>first|exact hem.elim|(cases hmo;exact key (.panicking ch) (by obtain⟨v,h1,h2⟩:=hem;exact⟨v,by rw [h1],h2⟩) (by simp))
       |exit i=>cases e'<;>first|exact hem.elim|(cases hmo;done)
       |goto l=>cases e'<;>exact hem.elim
       |outgrown=>cases e'<;>exact hem.elim
     · exact hk.elim
   · exact hk.elim
def recC:AM→C
 |.ret=>.p (.val .nilIface)
 |.pan c=>c
theorem Uo {P:Program} {T:Tab} (hT:T.fits P) (hm:P.follows .mixedOrders=true) {f:Nat} {fn:Func} (hf:P.funcs[f]? =some fn) (hn:(fn.name == "runtime.NumGoroutine")=false) (cfg:Cfg) (kn:List (Know P))
  {id t t2 ty0 ty1:Nat} {pos0 pos1:String} {af0 af1:Array Edge} {rest:Code}
  (hb:fn.body=some (.seq (.region id #[⟨some t,.call ⟨.builtin .recover,#[],#[]⟩,ty0,pos0,af0,none⟩,⟨some t2,.assign (.tmp t),ty1,pos1,af1,none⟩] false) rest))
  {m:AM} {caps:List Cap} {hp hp':List HO}
  (hbb:(Nat.blt t fn.ntmps&&Nat.blt t2 fn.ntmps&& !Nat.beq t t2&&Nat.ble caps.length fn.ntmps&& !Vr cfg rest)=true)
  (h: ∀ (I:Alg) (X:Ctx),I=alg→X.bs0.length=hp.length→Ok P X (fun o h=>o=.ret (.tup [])∧h=hp') (go I T cfg kn [⟨vM fn,finK I T cfg hp.length fn⟩] 0 [1] (({ env:=zbJ 0 (caps.map dP),hp:=hp,n:=fn.ntmps}:St).put (some t) (.v (.one (recC m))) |>.put (some t2) (.v (.one (recC m)))))):SpcD P f caps m hp .ret hp':=by
 simp only [jK,Bool.not_eq_true'] at hbb;obtain⟨⟨⟨⟨ht,ht2⟩,hne⟩,hle⟩,hseam⟩:=hbb
 have ht:t<fn.ntmps:=by simpa using ht
 have ht2:t2<fn.ntmps:=by simpa using ht2
 have hne:t≠t2:=Nat.ne_of_beq_eq_false hne;have hle:=Nat.le_of_ble_eq_true hle
 refine⟨⟨fn,hf,hn,by rw [hb];rfl⟩,fun S K fr w vs u hHR hcap hat hmode=> ?_⟩
 have h1:=(h alg ⟨S,K.map CO.base,fr⟩ rfl (by simp [hHR.1])).out
 have h2:=VR (fun f=>ZJ) h1
 have hbo:vM fn=.seq (.region id #[⟨some t,.call ⟨.builtin .recover,#[],#[]⟩,ty0,pos0,af0,none⟩,⟨some t2,.assign (.tmp t),ty1,pos1,af1,none⟩] false) rest:=by unfold vM;rw [hb]
 simp only [rtAt,hbo,cAt,kAt] at h2;have hal:=hcap.mds.length;rw [List.length_map] at hal
 have hlen:(K.map CO.base).length=hp.length:=by simp [hHR.1]
 refine callsD_of_wpS hf hb fun c₀ cs hu=> ?_
 obtain⟨x,u1,hrec,hx,hset⟩: ∃ x u1,(match recoverD (c₀::cs) with|some (v,cs')=>(v,cs')|none=>(.nilIface,c₀::cs))=(x,{ c₀ with mode:=u1}::cs)∧MC S (K.map CO.base) (recC m) x∧settle u1=.returning:=by
  cases m with
  | ret=>
    have hmode:u=.returning:=hmode;subst hmode;refine⟨.nilIface,.returning,?_,.val _ rfl,rfl⟩;simp only [recoverD,hu];cases c₀;simp at hu;subst hu;rfl
  | pan c=>
    obtain⟨v,rfl,hv⟩:=hmode;refine⟨v,.panicking [{ v:=v,recovered:=true}],?_,hv,rfl⟩
    simp [recoverD,hu]
 have hnow:Now ⟨S,K.map CO.base,fr⟩ (({ env:=zbJ 0 (caps.map dP),hp:=hp,n:=fn.ntmps}:St).put (some t) (.v (.one (recC m))) |>.put (some t2) (.v (.one (recC m)))) (({ tmps:=vs.toArray++Array.replicate (fn.ntmps - vs.toArray.size) undef,defers:=[]}:Act).put (some t) x |>.put (some t2) x) w:=by
  have hE0:Env S (K.map CO.base) { env:=zbJ 0 (caps.map dP),hp:=hp,n:=fn.ntmps} { tmps:=vs.toArray++Array.replicate (fn.ntmps - vs.toArray.size) undef,defers:=[]}:=by
   refine⟨?_,rfl,fun t d hd=> ?_⟩
   · simp [hal];omega
   · obtain⟨_,v,h1,h2⟩:=Y0 hcap.mds hd
     simp only [Nat.sub_zero] at h1;have hlt:=(jl.1 h1).1
     have e:(vs.toArray++Array.replicate (fn.ntmps - vs.toArray.size) undef).getD t undef=v:=by
      rw [Array.getD_eq_getD_getElem?,Array.getElem?_append_left (by simpa using hlt)]
      simp [h1]
     rw [e];exact h2
  exact⟨S,K,by rw [uY,uY];exact⟨Frz.le.refl S,Ext.refl _,hHR,hat⟩,(hE0.put (some t) (d:=.v (.one (recC m))) hx).put (some t2) (d:=.v (.one (recC m))) hx⟩
 have hw:=Zu hT hm h2 hnow;refine wpS_seq (wpS_region ?_)
 have hsz:t<(vs.toArray++Array.replicate (fn.ntmps - vs.toArray.size) undef).size:=by simp [hal];omega
 have hev:({ tmps:=(vs.toArray++Array.replicate (fn.ntmps - vs.toArray.size) undef).setIfInBounds t x,defers:=[]}:Act).eval (.tmp t)=x:=by
  simp only [Act.eval];rw [Array.getD_eq_getD_getElem?,Array.getElem?_setIfInBounds_self_of_lt hsz];rfl
 have hgoal:rest.wpS P (bodyPostS P fn c₀ cs fun e u' w'=>(∃ v,e=.returned v)∧∃ S' K',S.le S'∧Ext (K.map CO.base) (K'.map CO.base)∧HR S' (K'.map CO.base) hp' K'∧At w' (frzC S'::(CO.zy K'++fr))∧MAM S' (K'.map CO.base) .ret (settle u'))
   (({ tmps:=vs.toArray++Array.replicate (fn.ntmps - vs.toArray.size) undef,defers:=[]}:Act).put (some t) x |>.put (some t2) x) ({ c₀ with mode:=u1}::cs) w:=by
  refine wpS_of_wp (wp_mono hw fun e a' w' hq=> ?_);obtain⟨e',st',hk,S',K',hH,hE,hem⟩:=hq;unfold finK at hk
  split at hk
  case h_2=>exact hk.elim
  rename_i hdf
  have hd:a'.defers=[]:=by have:=hE.defers;rw [hdf] at this;exact this
  have hfin:=zg7 (X:=⟨S,K.map CO.base,fr⟩) hT hlen hk hH hE hem
  cases e with
  |normal=>obtain⟨v,hv,S2,K2,h5,h6,h7,h8,_⟩:=hfin;exact⟨hd,u1,rfl,v,hv,⟨v,rfl⟩,S2,K2,h5,h6,h7,h8,hset⟩
  |ret=>obtain⟨v,hv,S2,K2,h5,h6,h7,h8,_⟩:=hfin;exact⟨hd,u1,rfl,v,hv,⟨v,rfl⟩,S2,K2,h5,h6,h7,h8,hset⟩
  |panic ch=>obtain⟨S2,K2,h5,h6,h7,h8,h9⟩:=hfin;exact h9.elim
  |exit i=>exact hfin.elim
  |goto l=>exact hfin.elim
  |outgrown=>exact hfin.elim
 clear hnow hw;generalize vs.toArray++Array.replicate (fn.ntmps - vs.toArray.size) undef=tm at hev hgoal hsz ⊢
 have hr0: ∀ (a:Act),(execOp a.eval ⟨some t,.call ⟨.builtin .recover,#[],#[]⟩,ty0,pos0,af0,none⟩).run P w=.ok .recover w:=by
  intro a;simp [execOp,Go.resolve,invoke,builtin]
 simp only [List.size_toArray,jh,ji,Nat.zero_add,Nat.reduceAdd,List.range_succ_eq_map,List.range_zero,List.map_cons,List.map_nil];simp only [wpOpsS,List.getElem?_toArray,List.getElem?_cons_zero,List.getElem?_cons_succ,Region.wanted,if_true,hr0]
 cases hq:recoverD (c₀::cs) with
 | none=>
   rw [hq] at hrec;simp only [Prod.mk.injEq] at hrec;obtain⟨rfl,hcs⟩:=hrec;simp only [Act.put,execOp,Sem.run_pure,hev,Oper.upon,Exit.thenS];rw [hcs];exact hgoal
 | some y=>
   obtain⟨y,cs'⟩:=y;rw [hq] at hrec;simp only [Prod.mk.injEq] at hrec;obtain⟨rfl,rfl⟩:=hrec;simp only [Act.put,execOp,Sem.run_pure,hev,Oper.upon,Exit.thenS];exact hgoal
end
theorem nrmA:type_of% (ja @zjg <| ja @zry <| ja @uh <| ja @ZK <| ja @zje <| ja @zjd <| ja @zjc <| ja @zeZ <| ja @ze1 <| ja @ze2 <| ja @ZN <| ja @ze3 <| ja @YA <| ja @su <| ja @zbz <| ja @zjf <| ja @Ti <| ja @zN <| ja @ZP <| ja @ug <| ja @ze4 <| ja @zjb <| ja @zby <| ja @XV <| ja @ZM <| ja @Uh <| ja @ZL <| ja @ZO <| ja @ze0 <| ja @Tj <| ja @zh <| ja @zrx <| ja @zrv <| @zl0):=ja @zjg <| ja @zry <| ja @uh <| ja @ZK <| ja @zje <| ja @zjd <| ja @zjc <| ja @zeZ <| ja @ze1 <| ja @ze2 <| ja @ZN <| ja @ze3 <| ja @YA <| ja @su <| ja @zbz <| ja @zjf <| ja @Ti <| ja @zN <| ja @ZP <| ja @ug <| ja @ze4 <| ja @zjb <| ja @zby <| ja @XV <| ja @ZM <| ja @Uh <| ja @ZL <| ja @ZO <| ja @ze0 <| ja @Tj <| ja @zh <| ja @zrx <| ja @zrv <| @zl0
theorem nrmB:type_of% (ja @decide_eq_true_eq <| ja @decide_eq_false_iff_not <| ja @beq_iff_eq.{0} <| ja @beq_eq_false_iff_ne.{0} <| ja @Bool.not_eq_true' <| ja @Bool.not_eq_false' <| ja @Bool.and_eq_true <| ja @Bool.and_true <| ja @Bool.true_and <| ja @and_true <| ja @true_and <| ja @ne_eq.{1} <| ja @Int.toNat_zero <| ja @Nat.sub_zero <| ja @List.drop_zero.{0} <| ja @Yl <| ja @Ym <| ja @ztZ <| ja @zt0 <| ja @zfT <| ja @qK <| ja @Int.toNat_natCast <| ja @Int.ofNat_eq_natCast <| ja @UInt8.ofNat_toNat <| ja @AOut.ret.injEq <| ja @AOut.pan.injEq <| ja @C.ifc.injEq <| ja @D.v.injEq <| ja @D.tup.injEq <| ja @V0.one.injEq <| ja @C.p.injEq <| ja @P.bool.injEq <| ja @P.int.injEq <| ja @P.str.injEq <| ja @Bool.false_eq_true <| ja @Bool.true_eq_false <| ja @imp_false <| ja @Decidable.not_not <| ja @not_true_eq_false <| @not_false_eq_true):=ja @decide_eq_true_eq <| ja @decide_eq_false_iff_not <| ja @beq_iff_eq.{0} <| ja @beq_eq_false_iff_ne.{0} <| ja @Bool.not_eq_true' <| ja @Bool.not_eq_false' <| ja @Bool.and_eq_true <| ja @Bool.and_true <| ja @Bool.true_and <| ja @and_true <| ja @true_and <| ja @ne_eq.{1} <| ja @Int.toNat_zero <| ja @Nat.sub_zero <| ja @List.drop_zero.{0} <| ja @Yl <| ja @Ym <| ja @ztZ <| ja @zt0 <| ja @zfT <| ja @qK <| ja @Int.toNat_natCast <| ja @Int.ofNat_eq_natCast <| ja @UInt8.ofNat_toNat <| ja @AOut.ret.injEq <| ja @AOut.pan.injEq <| ja @C.ifc.injEq <| ja @D.v.injEq <| ja @D.tup.injEq <| ja @V0.one.injEq <| ja @C.p.injEq <| ja @P.bool.injEq <| ja @P.int.injEq <| ja @P.str.injEq <| ja @Bool.false_eq_true <| ja @Bool.true_eq_false <| ja @imp_false <| ja @Decidable.not_not <| ja @not_true_eq_false <| @not_false_eq_true
theorem nrlB:type_of% (ja @List.cons.injEq.{0} <| ja @P.list.injEq <| ja @HO.row.injEq <| ja @heq_eq_eq.{1} <| ja @false_and <| @and_false):=ja @List.cons.injEq.{0} <| ja @P.list.injEq <| ja @HO.row.injEq <| ja @heq_eq_eq.{1} <| ja @false_and <| @and_false
theorem zye:dflt .byte=(0:UInt8)∧dflt .int=(0:Int)∧dflt .str=([]:Str)∧dflt .fld=(⟨[],[]⟩:Fld)∧dflt .bytes=([]:Str)∧dflt .hd=(⟨[],[],0,[],0⟩:Hd)∧dflt .prt=(⟨[],[],[],[]⟩:Prt)∧dflt .evt=(⟨0,⟨[],[],0,[],0⟩,[],⟨[],[],[],[]⟩,0⟩:Evt)∧dflt .upl=(⟨0,0,[],[],0⟩:Upl)∧dflt .ent=(⟨0,0,0,[]⟩:Ent)∧dflt .stp=(⟨0,0,0,[]⟩:Stp)∧dflt .ask=(⟨⟨[],[],0,[],0⟩,[]⟩:Ask)∧dflt .cal=(⟨0,false,[]⟩:Cal)∧dflt .tri=(⟨0,[],[]⟩:Tri)∧dflt .lst=(⟨0,0,[]⟩:Lst)∧dflt .sst=(⟨0,0,0,[]⟩:Sst)∧dflt .upls=([]:List Upl)∧dflt .strs=([]:List Str)∧dflt .rpl=(⟨0,[],[]⟩:Rpl)∧dflt .med=(⟨[],[]⟩:Med)∧dflt .prw=(⟨[],[],[],[]⟩:Prt):=by repeat' constructor
theorem zi:type_of% (ja @zgd <| ja @zpP <| ja @zgf <| ja @zkS <| ja @zkR <| ja @zgc <| ja @zge <| ja @Option.getD_some.{0} <| ja @Option.getD_none.{0} <| zye):=ja @zgd <| ja @zpP <| ja @zgf <| ja @zkS <| ja @zkR <| ja @zgc <| ja @zge <| ja @Option.getD_some.{0} <| ja @Option.getD_none.{0} <| zye
end Go.Ab
namespace Go.Ab
open Go Go.Sep Go.RowKit
variable [Facts]
def Holds (W:World):Prop:=∀ w:World,(∀ (k:Nat) (o:Obj),W.heap[k]? =some o→w.heap[k]? =some o)→Facts.p w
def frzW (W:World) (hF:Holds W):Frz:=⟨fun k=>W.heap[k]?,W.os,W.tape,W.output,fun w hw=>hF w hw.2.2.2⟩
theorem tabIs_of {Pr:Program} {W w:World} (h: ∀ (k:Nat) (o:Obj),W.heap[k]? =some o→w.heap[k]? =some o) {name:String} {cs:Array Value} (hv:W.var? Pr name=some cs):w.var? Pr name=some cs:=by
 unfold World.var? at hv ⊢
 cases hg:Pr.globalNamed name with
 |none=>rw [hg] at hv;cases hv
 | some g=>
   rw [hg] at hv;simp only [Option.bind_some] at hv ⊢
   split at hv
   · rename_i cs' t f hc;rw [h _ _ hc];exact hv
   · cases hv
theorem zwe (W:World) (hF:Holds W):At W [frzC (frzW W hF)]:=
 ⟨fun k=>(W.heap[k]?).isSome=true,fun k=>(W.heap[k]?).isSome=true,fun _=>False,fun k=>by simp,fun _ _ h=>h,⟨fun _=>Iff.rfl,rfl,rfl,rfl,fun _ _ h=>h⟩,fun _ h=>h⟩
theorem zcA {W w:World} {hF:Holds W} (h:(frzW W hF).on w):Below W.heap.size W w:=by
 obtain⟨h1,h2,h3,h4⟩:=h
 have hb: ∀ k,k<W.heap.size→w.heap[k]? =W.heap[k]? :=fun k hk=>by
  have:W.heap[k]? =some W.heap[k]:=by simp [hk]
  rw [h4 k _ this,this]
 refine⟨h1,h2,h3,?_,hb⟩
 rcases Nat.lt_or_ge w.heap.size W.heap.size with hlt|hge
 · have:=hb w.heap.size hlt
   simp at this
   omega
 · exact hge
theorem zwd {W:World} {hF:Holds W} {size:Nat} {v:Value} {n:Nat} {cs:List Value} (h:Rd W size v n cs):RdS (frzW W hF) size v n cs:=by
 intro w hw;obtain⟨ao,cap,e,h1,h2,h4,h3,hc⟩:=h;refine⟨ao,cap,e,h1,h2,h4,h3,fun j u hu=> ?_⟩;obtain⟨hs,hcell⟩:=hc j u hu;exact⟨hs,((zcA hw).cell (block_lt hcell)).trans hcell⟩
theorem Spc.law {Pr:Program} {f:Nat} {args:List D} {hp':List HO} {W:World} {hF:Holds W} {vs:List Value} (h:Spc Pr f args [] (.ret (.v (.one (.p (.bool true))))) hp') (ha:MDs (frzW W hF) [] args vs):
  Calls Pr f vs.toArray W fun e w'=>e=.returned (.bool true)∧Below W.heap.size W w':=by
 refine(h.2 (frzW W hF) [] [] W vs ⟨rfl,fun i o c h=>by simp at h⟩ ha (zwe W hF)).mono fun e w' he=> ?_
 obtain⟨S',K',hle,_,_,hat,ho⟩:=he;refine⟨?_,zcA ((At.frz hat).mono hle)⟩
 cases e with
 |returned v=>cases ho;rfl
 |panicked ch=>exact ho.elim
 |outgrown=>exact ho.elim
theorem zv0 {W:World} {hF:Holds W} {v:Value} {u:U} {R:Sep.Rel u.den} (hR: ∀ cs x,R W cs x→MPs (frzW W hF) (enc alg u x) cs) {xs:List u.den} (h:RSl u.size R W [v] xs):MD (frzW W hF) [] (.v (.one (.p (.list u xs)))) v:=by
 obtain⟨v',vs,e,hr,hx⟩:=h;cases e;have hlen:=hr.len;obtain⟨ao,cap,rfl,_⟩:=id hr;refine MP.list u xs ao cap vs hlen (zwd hr) fun i x j p v hi hj hv=> ?_;have hm:=hR _ _ (hx i x hi);obtain⟨v',h1,h2⟩:=hm.get hj;rw [jD] at h1
 split at h1
 · rw [jG,hv] at h1
   cases h1;exact h2
 · cases h1
end Go.Ab
namespace Go.Proofs.YtnpmenpjagcheaaGreatDoor
open Go Go.Ab
def lnS (l:Ln):HO:=.pack [.obj 154 [.row 1,.p (.bool l.cr),.p (.int .i64 l.code)],.row .byte 5 l.b]
def chS (c:Ch):HO:=.pack [.obj 216 [.ptr 1 0,.p (.int .i64 c.pos),.p (.int .i64 c.left),.p (.int .i64 c.all),.p (.int .i64 c.tails),.p (.int .i64 c.code)],lnS c.ln]
def rqS:Rq→List HO
 |⟨ln,p,⟨m,t,mi,f,le⟩,n,none,true,out⟩=>[.obj 123 [.ptr 1 0,.p (.int .i64 p),.p (.str m),.p (.str t),.p (.int .i64 mi),.row 2,.p (.int .i64 le),.p (.int .i64 n),.p (.val (.pointer none)),.row 3],lnS ln,.row .fld 144 f,.row .evt 138 out]
 |⟨ln,p,⟨m,t,mi,f,le⟩,n,some c,true,out⟩=>[.obj 123 [.ptr 1 0,.p (.int .i64 p),.p (.str m),.p (.str t),.p (.int .i64 mi),.row 2,.p (.int .i64 le),.p (.int .i64 n),.ptr 3 0,.row 4],lnS ln,.row .fld 144 f,chS c,.row .evt 138 out]
 |⟨ln,p,⟨m,t,mi,f,le⟩,n,none,false,out⟩=>[.obj 123 [.ptr 1 0,.p (.int .i64 p),.p (.str m),.p (.str t),.p (.int .i64 mi),.p (.list .fld f),.p (.int .i64 le),.p (.int .i64 n),.p (.val (.pointer none)),.row 2],lnS ln,.row .evt 138 out]
 |⟨ln,p,⟨m,t,mi,f,le⟩,n,some c,false,out⟩=>[.obj 123 [.ptr 1 0,.p (.int .i64 p),.p (.str m),.p (.str t),.p (.int .i64 mi),.p (.list .fld f),.p (.int .i64 le),.p (.int .i64 n),.ptr 2 0,.row 3],lnS ln,chS c,.row .evt 138 out]
def skO (m:Str) (n:Int) (bs:List Int):HO:=.pack [.obj 278 [.row 1,.row 2,.p (.int .i64 n)],.row .byte 5 m,.row .int 3 bs]
def fmS:Fm→List HO
 |⟨m,n,bs,p,none,f,pa,sk,co,out⟩=>[.obj 275 [.ptr 1 0,.p (.int .i64 p),.p (.val (.pointer none)),.row 2,.p (.int .i64 pa),.p (.int .i64 sk),.p (.int .i64 co),.row 3],skO m n bs,.row .fld 144 f,.row .evt 138 out]
 |⟨m,n,bs,p,some l,f,pa,sk,co,out⟩=>[.obj 275 [.ptr 1 0,.p (.int .i64 p),.ptr 2 0,.row 3,.p (.int .i64 pa),.p (.int .i64 sk),.p (.int .i64 co),.row 4],skO m n bs,lnS l,.row .fld 144 f,.row .evt 138 out]
def cnS:Cn→List HO
 |⟨q,⟨m,t,mi,f,le⟩,b,i,true⟩=>[.obj 104 [.ptr 1 0,.p (.str m),.p (.str t),.p (.int .i64 mi),.p (.list .fld f),.p (.int .i64 le),.row 2,.p (.bool i)],.abs (.rq q),.row .byte 5 b]
 |⟨q,⟨m,t,mi,f,le⟩,b,i,false⟩=>[.obj 104 [.ptr 1 0,.p (.str m),.p (.str t),.p (.int .i64 mi),.p (.list .fld f),.p (.int .i64 le),.p (.list .byte b),.p (.bool i)],.abs (.rq q)]
def prS (d:Dk):HO:=.pack [.obj 58 [.ptr 1 0,.row 7],.obj 72 [.ptr 2 0,.ptr 3 0,.ptr 4 0,.ptr 5 0,.ptr 6 0],.pack [.obj 78 [.ptr 1 0,.ptr 2 0],.pack [.obj 106 [.row 1,.p (.int .i64 d.n)],.row .upl 82 d.l],.pack [.obj 108 [.row 1,.p (.int .i64 d.s)],.row .byte 5 d.b]],.abs (.cn d.c0),.abs (.cn d.c1),.abs (.cn d.c2),.abs (.cn d.c3),.row .int 3 d.t]
def dkS (d:Dk):List HO:=match d.own,d.w with
 |true,true=>[.obj 45 [.ptr 0 0,.row 1,.ptr 2 0],.row .byte 5 d.o,prS d]
 |true,false=>[.obj 45 [.p (.val (.pointer none)),.nilS,.ptr 1 0],prS d]
 |false,_=>[.obj 45 [.any,.any,.ptr 1 0],prS d]
def shapes:Gh→List HO
 |.dk d=>dkS d
 |.rq q=>rqS q
 |.fm f=>fmS f
 |.cn c=>cnS c
 |_=>[]
def lnU:HO→Option Ln
 |.pack [.obj t [.row 1,.p (.bool cr),.p (.int .i64 co)],.row .byte e b]=>match Nat.beq t 154,Nat.beq e 5 with|true,true=>some ⟨b,cr,co⟩|_,_=>none
 |_=>none
theorem zcm {o:HO} {l:Ln} (h:lnU o=some l):o=lnS l:=by
 unfold lnU at h
 split at h
 · split at h
   · rename_i h1 h2;cases h;rw [jI h1,jI h2];rfl
   · cases h
 · cases h
def chU:HO→Option Ch
 |.pack [.obj t [.ptr 1 0,.p (.int .i64 p),.p (.int .i64 l),.p (.int .i64 a),.p (.int .i64 tl),.p (.int .i64 co)],o]=>match Nat.beq t 216,lnU o with|true,some ln=>some ⟨ln,p,l,a,tl,co⟩|_,_=>none
 |_=>none
theorem zuQ {o:HO} {l:Ch} (h:chU o=some l):o=chS l:=by
 unfold chU at h
 split at h
 · split at h
   · rename_i h1 h2;cases h;rw [jI h1,zcm h2];rfl
   · cases h
 · cases h
def evU:HO→Option (List Evt)
 |.row .evt e l=>match Nat.beq e 138 with|true=>some l|false=>none
 |_=>none
theorem zcU {o:HO} {l:List Evt} (h:evU o=some l):o=.row .evt 138 l:=by
 unfold evU at h
 split at h
 · split at h
   · rename_i h1;cases h;rw [jI h1]
   · cases h
 · cases h
def flU:HO→Option (List Fld)
 |.row .fld e l=>match Nat.beq e 144 with|true=>some l|false=>none
 |_=>none
theorem zla {o:HO} {l:List Fld} (h:flU o=some l):o=.row .fld 144 l:=by
 unfold flU at h
 split at h
 · split at h
   · rename_i h1;cases h;rw [jI h1]
   · cases h
 · cases h
def rqU:List HO→Option Rq
 | .obj t [.ptr 1 0,.p (.int .i64 p),.p (.str m),.p (.str tg),.p (.int .i64 mi),.row 2,.p (.int .i64 le),.p (.int .i64 n),.p (.val (.pointer none)),.row 3]::r=>(match Nat.beq t 123,r with
   |true,[a,b,c]=>(match lnU a,flU b,evU c with|some ln,some f,some out=>some ⟨ln,p,⟨m,tg,mi,f,le⟩,n,none,true,out⟩|_,_,_=>none)
   |_,_=>none)
 | .obj t [.ptr 1 0,.p (.int .i64 p),.p (.str m),.p (.str tg),.p (.int .i64 mi),.row 2,.p (.int .i64 le),.p (.int .i64 n),.ptr 3 0,.row 4]::r=>(match Nat.beq t 123,r with
   |true,[a,b,c,d]=>(match lnU a,flU b,chU c,evU d with|some ln,some f,some ck,some out=>some ⟨ln,p,⟨m,tg,mi,f,le⟩,n,some ck,true,out⟩|_,_,_,_=>none)
   |_,_=>none)
 | .obj t [.ptr 1 0,.p (.int .i64 p),.p (.str m),.p (.str tg),.p (.int .i64 mi),.p (.list .fld f),.p (.int .i64 le),.p (.int .i64 n),.p (.val (.pointer none)),.row 2]::r=>(match Nat.beq t 123,r with
   |true,[a,c]=>(match lnU a,evU c with|some ln,some out=>some ⟨ln,p,⟨m,tg,mi,f,le⟩,n,none,false,out⟩|_,_=>none)
   |_,_=>none)
 | .obj t [.ptr 1 0,.p (.int .i64 p),.p (.str m),.p (.str tg),.p (.int .i64 mi),.p (.list .fld f),.p (.int .i64 le),.p (.int .i64 n),.ptr 2 0,.row 3]::r=>(match Nat.beq t 123,r with
   |true,[a,c,d]=>(match lnU a,chU c,evU d with|some ln,some ck,some out=>some ⟨ln,p,⟨m,tg,mi,f,le⟩,n,some ck,false,out⟩|_,_,_=>none)
   |_,_=>none)
 |_=>none
theorem zxc {l:List HO} {q:Rq} (h:rqU l=some q):l=rqS q:=by
 unfold rqU at h
 split at h
 · split at h
   · rename_i h1;split at h
     · rename_i h2 h3 h4;cases h;rw [jI h1,zcm h2,zla h3,zcU h4];rfl
     · cases h
   · cases h
 · split at h
   · rename_i h1;split at h
     · rename_i h2 h3 h5 h4;cases h;rw [jI h1,zcm h2,zla h3,zuQ h5,zcU h4];rfl
     · cases h
   · cases h
 · split at h
   · rename_i h1;split at h
     · rename_i h2 h4;cases h;rw [jI h1,zcm h2,zcU h4];rfl
     · cases h
   · cases h
 · split at h
   · rename_i h1;split at h
     · rename_i h2 h5 h4;cases h;rw [jI h1,zcm h2,zuQ h5,zcU h4];rfl
     · cases h
   · cases h
 · cases h
def skU:HO→Option (Str × Int × List Int)
 |.pack [.obj t [.row 1,.row 2,.p (.int .i64 n)],.row .byte e m,.row .int e2 bs]=>match Nat.beq t 278,Nat.beq e 5,Nat.beq e2 3 with|true,true,true=>some (m,n,bs)|_,_,_=>none
 |_=>none
theorem zt3 {o:HO} {x:Str × Int × List Int} (h:skU o=some x):o=skO x.1 x.2.1 x.2.2:=by
 unfold skU at h
 split at h
 · split at h
   · rename_i h1 h2 h3;cases h;rw [jI h1,jI h2,jI h3];rfl
   · cases h
 · cases h
def fmU:List HO→Option Fm
 | .obj t [.ptr 1 0,.p (.int .i64 p),.p (.val (.pointer none)),.row 2,.p (.int .i64 pa),.p (.int .i64 sk),.p (.int .i64 co),.row 3]::r=>(match Nat.beq t 275,r with
   |true,[a,b,c]=>(match skU a,flU b,evU c with|some x,some f,some out=>some ⟨x.1,x.2.1,x.2.2,p,none,f,pa,sk,co,out⟩|_,_,_=>none)
   |_,_=>none)
 | .obj t [.ptr 1 0,.p (.int .i64 p),.ptr 2 0,.row 3,.p (.int .i64 pa),.p (.int .i64 sk),.p (.int .i64 co),.row 4]::r=>(match Nat.beq t 275,r with
   |true,[a,l,b,c]=>(match skU a,lnU l,flU b,evU c with|some x,some ln,some f,some out=>some ⟨x.1,x.2.1,x.2.2,p,some ln,f,pa,sk,co,out⟩|_,_,_,_=>none)
   |_,_=>none)
 |_=>none
theorem zxU {l:List HO} {q:Fm} (h:fmU l=some q):l=fmS q:=by
 unfold fmU at h
 split at h
 · split at h
   · rename_i h1;split at h
     · rename_i h2 h3 h4;cases h;rw [jI h1,zt3 h2,zla h3,zcU h4];rfl
     · cases h
   · cases h
 · split at h
   · rename_i h1;split at h
     · rename_i h2 h5 h3 h4;cases h;rw [jI h1,zt3 h2,zcm h5,zla h3,zcU h4];rfl
     · cases h
   · cases h
 · cases h
def cnU:List HO→Option Cn
 |[.obj t [.ptr 1 0,.p (.str m),.p (.str tg),.p (.int .i64 mi),.p (.list .fld f),.p (.int .i64 le),.row 2,.p (.bool i)],.abs (.rq q),.row .byte e b]=>match Nat.beq t 104,Nat.beq e 5 with|true,true=>some ⟨q,⟨m,tg,mi,f,le⟩,b,i,true⟩|_,_=>none
 |[.obj t [.ptr 1 0,.p (.str m),.p (.str tg),.p (.int .i64 mi),.p (.list .fld f),.p (.int .i64 le),.p (.list .byte b),.p (.bool i)],.abs (.rq q)]=>match Nat.beq t 104 with|true=>some ⟨q,⟨m,tg,mi,f,le⟩,b,i,false⟩|_=>none
 |_=>none
theorem zym {l:List HO} {q:Cn} (h:cnU l=some q):l=cnS q:=by
 unfold cnU at h
 split at h
 · split at h
   · rename_i h1 h2;cases h;rw [jI h1,jI h2];rfl
   · cases h
 · split at h
   · rename_i h1;cases h;rw [jI h1];rfl
   · cases h
 · cases h
def prU (o:HO) (tx:Str) (w own:Bool):Option Dk:=match o with
 | .pack [.obj t1 [.ptr 1 0,.row 7],.obj t2 [.ptr 2 0,.ptr 3 0,.ptr 4 0,.ptr 5 0,.ptr 6 0],.pack [.obj t3 [.ptr 1 0,.ptr 2 0],.pack [.obj t4 [.row 1,.p (.int .i64 n)],.row .upl e1 l],.pack [.obj t5 [.row 1,.p (.int .i64 s)],.row .byte e2 b]],.abs (.cn c0),.abs (.cn c1),.abs (.cn c2),.abs (.cn c3),.row .int e3 t]=>
   (match Nat.beq t1 58,Nat.beq t2 72,Nat.beq t3 78,Nat.beq t4 106,Nat.beq t5 108,Nat.beq e1 82,Nat.beq e2 5,Nat.beq e3 3 with
   |true,true,true,true,true,true,true,true=>some ⟨tx,w,own,l,n,b,s,c0,c1,c2,c3,t⟩
   |_,_,_,_,_,_,_,_=>none)
 |_=>none
theorem zo2 {o:HO} {tx:Str} {w own:Bool} {d:Dk} (h:prU o tx w own=some d):o=prS d∧d.o=tx∧d.w=w∧d.own=own:=by
 unfold prU at h
 split at h
 · split at h
   · rename_i h1 h2 h3 h4 h5 h6 h7 h8
     cases h;rw [jI h1,jI h2,jI h3,jI h4,jI h5,jI h6,jI h7,jI h8];exact⟨rfl,rfl,rfl,rfl⟩
   · cases h
 · cases h
def dkU:List HO→Option Dk
 |[.obj t [.ptr 0 0,.row 1,.ptr 2 0],.row .byte e x,o]=>match Nat.beq t 45,Nat.beq e 5 with|true,true=>prU o x true true|_,_=>none
 |[.obj t [.p (.val (.pointer none)),.nilS,.ptr 1 0],o]=>match Nat.beq t 45 with|true=>prU o [] false true|_=>none
 |[.obj t [.any,.any,.ptr 1 0],o]=>match Nat.beq t 45 with|true=>prU o [] false false|_=>none
 |_=>none
theorem zyd {l:List HO} {d:Dk} (h:dkU l=some d):l=dkS d:=by
 unfold dkU at h
 split at h
 · split at h
   · rename_i h1 h2;obtain⟨a,b,c,e⟩:=zo2 h;unfold dkS;rw [c,e,b,a,jI h1,jI h2]
   · cases h
 · split at h
   · rename_i h1;obtain⟨a,b,c,e⟩:=zo2 h;unfold dkS;rw [c,e,a,jI h1]
   · cases h
 · split at h
   · rename_i h1;obtain⟨a,b,c,e⟩:=zo2 h;unfold dkS;rw [c,e,a,jI h1]
   · cases h
 · cases h
def shapeOf (l:List HO):Option Gh:=match rqU l with
 |some q=>some (.rq q)
 |none=>(match fmU l with|some f=>some (.fm f)|none=>(match cnU l with|some c=>some (.cn c)|none=>(match dkU l with|some d=>some (.dk d)|none=>none)))
theorem zma (l:List HO) (g:Gh) (h:shapeOf l=some g):shapes g=l:=by
 unfold shapeOf at h
 split at h
 · rename_i q hq;cases h;exact(zxc hq).symm
 · split at h
   · rename_i q hq;cases h;exact(zxU hq).symm
   · split at h
     · rename_i q hq;cases h;exact(zym hq).symm
     · split at h
       · rename_i q hq;cases h;exact(zyd hq).symm
       · cases h
end Go.Proofs.YtnpmenpjagcheaaGreatDoor
namespace Go.Proofs.YtnpmenpjagcheaaGreatDoor
open Go Go.Ab
instance facts:Facts:= { p:=fun w=>Lib.TabIs Tryz.prog w "internal/strconv.uint64pow10" .u64 Lib.pow10Tab∧∃ m:Int,w.cell? ⟨0,0,none⟩=some (.int .i64 m),sh:=shapes,ab:=shapeOf,abok:=zma}
def tabT:TT:=
 (.node (.node (.node (.node (.node (.node (.node .nil 2 ⟨.int .i64,1,8,(some [.int .i64 0]),none⟩
 .nil) 3 ⟨.int .i64,1,8,(some [.int .i64 0]),none⟩
 .nil) 4 ⟨.bool,1,1,(some [.bool false]),none⟩
 (.node (.node .nil 5 ⟨.int .u8,1,1,(some [.int .u8 0]),none⟩
 .nil) 9 ⟨.str,1,16,(some [.str []]),none⟩
 .nil)) 20 ⟨.iface,1,16,(some [.val .nilIface]),none⟩
 (.node (.node (.node .nil 21 ⟨.int .i32,1,4,(some [.int .i32 0]),none⟩
 .nil) 22 ⟨.slice 9,1,24,(some [.list .str []]),(some .str)⟩
 .nil) 25 ⟨.int .u64,1,8,(some [.int .u64 0]),none⟩
 (.node .nil 26 ⟨.ptr,1,8,(some [.val (.pointer none)]),none⟩
 .nil))) 29 ⟨.struct [(0,3),(1,3)],2,16,(some [.int .i64 0,.int .i64 0]),none⟩
 (.node (.node (.node (.node .nil 33 ⟨.slice 5,1,24,(some [.list .byte []]),(some .byte)⟩
 .nil) 39 ⟨.ptr,1,8,(some [.val (.pointer none)]),none⟩
 .nil) 41 ⟨.ptr,1,8,(some [.val (.pointer none)]),none⟩
 (.node .nil 43 ⟨.struct [(0,41),(1,33)],2,32,(some [.val (.pointer none),.nl []]),none⟩
 .nil)) 45 ⟨.struct [(0,43),(2,39)],3,40,(some [.val (.pointer none),.nl [],.val (.pointer none)]),none⟩
 (.node (.node (.node .nil 49 ⟨.other,1,8,(some [.val .nilFunc]),none⟩
 .nil) 52 ⟨.ptr,1,8,(some [.val (.pointer none)]),none⟩
 .nil) 54 ⟨.ptr,1,8,(some [.val (.pointer none)]),none⟩
 (.node .nil 56 ⟨.slice 3,1,24,(some [.list .int []]),(some .int)⟩
 .nil)))) 58 ⟨.struct [(0,52),(1,56)],2,32,(some [.val (.pointer none),.list .int []]),none⟩
 (.node (.node (.node (.node (.node .nil 61 ⟨.struct [(0,3),(1,3),(2,3),(3,33)],4,48,(some [.int .i64 0,.int .i64 0,.int .i64 0,.list .byte []]),none⟩
 .nil) 66 ⟨.ptr,1,8,(some [.val (.pointer none)]),none⟩
 .nil) 69 ⟨.ptr,1,8,(some [.val (.pointer none)]),none⟩
 (.node (.node .nil 70 ⟨.array 4 69,4,32,(some [.val (.pointer none),.val (.pointer none),.val (.pointer none),.val (.pointer none)]),none⟩
 .nil) 72 ⟨.struct [(0,54),(1,70)],5,40,(some [.val (.pointer none),.val (.pointer none),.val (.pointer none),.val (.pointer none),.val (.pointer none)]),none⟩
 .nil)) 73 ⟨.ptr,1,8,(some [.val (.pointer none)]),none⟩
 (.node (.node (.node .nil 75 ⟨.ptr,1,8,(some [.val (.pointer none)]),none⟩
 .nil) 78 ⟨.struct [(0,73),(1,75)],2,16,(some [.val (.pointer none),.val (.pointer none)]),none⟩
 .nil) 79 ⟨.slice 82,1,24,(some [.list .upl []]),(some .upl)⟩
 (.node .nil 82 ⟨.struct [(0,3),(1,3),(2,9),(3,33),(4,3)],5,64,(some [.int .i64 0,.int .i64 0,.str [],.list .byte [],.int .i64 0]),none⟩
 .nil))) 91 ⟨.iface,1,16,(some [.val .nilIface]),none⟩
 (.node (.node (.node (.node .nil 96 ⟨.struct [(0,3),(1,33),(2,33)],3,56,(some [.int .i64 0,.list .byte [],.list .byte []]),none⟩
 .nil) 98 ⟨.ptr,1,8,(some [.val (.pointer none)]),none⟩
 .nil) 100 ⟨.slice 144,1,24,(some [.list .fld []]),(some .fld)⟩
 (.node .nil 102 ⟨.struct [(0,9),(1,9),(2,3),(3,100),(4,3)],5,72,(some [.str [],.str [],.int .i64 0,.list .fld [],.int .i64 0]),none⟩
 .nil)) 104 ⟨.struct [(0,98),(1,102),(6,33),(7,4)],8,112,(some [.val (.pointer none),.str [],.str [],.int .i64 0,.list .fld [],.int .i64 0,.list .byte [],.bool false]),none⟩
 (.node (.node (.node .nil 106 ⟨.struct [(0,79),(1,3)],2,32,(some [.list .upl [],.int .i64 0]),none⟩
 .nil) 108 ⟨.struct [(0,33),(1,3)],2,32,(some [.list .byte [],.int .i64 0]),none⟩
 .nil) 118 ⟨.ptr,1,8,(some [.val (.pointer none)]),none⟩
 (.node .nil 120 ⟨.ptr,1,8,(some [.val (.pointer none)]),none⟩
 .nil))))) 121 ⟨.slice 138,1,24,(some [.list .evt []]),(some .evt)⟩
 (.node (.node (.node (.node (.node (.node .nil 123 ⟨.struct [(0,118),(1,3),(2,102),(7,3),(8,120),(9,121)],10,128,(some [.val (.pointer none),.int .i64 0,.str [],.str [],.int .i64 0,.list .fld [],.int .i64 0,.int .i64 0,.val (.pointer none),.list .evt []]),none⟩
 .nil) 124 ⟨.int .u32,1,4,(some [.int .u32 0]),none⟩
 .nil) 127 ⟨.ptr,1,8,(some [.val (.pointer none)]),none⟩
 (.node (.node .nil 132 ⟨.other,1,8,none,none⟩
 .nil) 136 ⟨.struct [(0,9),(1,9),(2,9),(3,33)],4,72,(some [.str [],.str [],.str [],.nl []]),none⟩
 .nil)) 138 ⟨.struct [(0,3),(1,102),(6,33),(7,136),(11,3)],12,184,(some [.int .i64 0,.str [],.str [],.int .i64 0,.list .fld [],.int .i64 0,.list .byte [],.str [],.str [],.str [],.nl [],.int .i64 0]),none⟩
 (.node (.node (.node .nil 141 ⟨.struct [(0,3),(1,100),(2,33)],3,56,(some [.int .i64 0,.list .fld [],.list .byte []]),none⟩
 .nil) 144 ⟨.struct [(0,9),(1,9)],2,32,(some [.str [],.str []]),none⟩
 .nil) 148 ⟨.struct [(0,3),(1,3),(2,3),(3,33)],4,48,(some [.int .i64 0,.int .i64 0,.int .i64 0,.list .byte []]),none⟩
 (.node .nil 149 ⟨.slice 148,1,24,(some [.list .ent []]),(some .ent)⟩
 .nil))) 154 ⟨.struct [(0,33),(1,4),(2,3)],3,40,(some [.list .byte [],.bool false,.int .i64 0]),none⟩
 (.node (.node (.node (.node .nil 156 ⟨.other,1,8,(some [.val .nilFunc]),none⟩
 .nil) 164 ⟨.struct [(0,3),(1,100),(2,33)],3,56,(some [.int .i64 0,.list .fld [],.list .byte []]),none⟩
 .nil) 167 ⟨.ptr,1,8,(some [.val (.pointer none)]),none⟩
 (.node .nil 169 ⟨.struct [(0,54),(1,102)],6,80,(some [.val (.pointer none),.str [],.str [],.int .i64 0,.list .fld [],.int .i64 0]),none⟩
 .nil)) 184 ⟨.array 24 5,24,24,(some [.int .u8 0,.int .u8 0,.int .u8 0,.int .u8 0,.int .u8 0,.int .u8 0,.int .u8 0,.int .u8 0,.int .u8 0,.int .u8 0,.int .u8 0,.int .u8 0,.int .u8 0,.int .u8 0,.int .u8 0,.int .u8 0,.int .u8 0,.int .u8 0,.int .u8 0,.int .u8 0,.int .u8 0,.int .u8 0,.int .u8 0,.int .u8 0]),none⟩
 (.node (.node (.node .nil 185 ⟨.int .u64,1,8,(some [.int .u64 0]),none⟩
 .nil) 208 ⟨.array 3 3,3,24,(some [.int .i64 0,.int .i64 0,.int .i64 0]),none⟩
 .nil) 212 ⟨.array 20 185,20,160,(some [.int .u64 0,.int .u64 0,.int .u64 0,.int .u64 0,.int .u64 0,.int .u64 0,.int .u64 0,.int .u64 0,.int .u64 0,.int .u64 0,.int .u64 0,.int .u64 0,.int .u64 0,.int .u64 0,.int .u64 0,.int .u64 0,.int .u64 0,.int .u64 0,.int .u64 0,.int .u64 0]),none⟩
 (.node .nil 213 ⟨.array 65 5,65,65,(some [.int .u8 0,.int .u8 0,.int .u8 0,.int .u8 0,.int .u8 0,.int .u8 0,.int .u8 0,.int .u8 0,.int .u8 0,.int .u8 0,.int .u8 0,.int .u8 0,.int .u8 0,.int .u8 0,.int .u8 0,.int .u8 0,.int .u8 0,.int .u8 0,.int .u8 0,.int .u8 0,.int .u8 0,.int .u8 0,.int .u8 0,.int .u8 0,.int .u8 0,.int .u8 0,.int .u8 0,.int .u8 0,.int .u8 0,.int .u8 0,.int .u8 0,.int .u8 0,.int .u8 0,.int .u8 0,.int .u8 0,.int .u8 0,.int .u8 0,.int .u8 0,.int .u8 0,.int .u8 0,.int .u8 0,.int .u8 0,.int .u8 0,.int .u8 0,.int .u8 0,.int .u8 0,.int .u8 0,.int .u8 0,.int .u8 0,.int .u8 0,.int .u8 0,.int .u8 0,.int .u8 0,.int .u8 0,.int .u8 0,.int .u8 0,.int .u8 0,.int .u8 0,.int .u8 0,.int .u8 0,.int .u8 0,.int .u8 0,.int .u8 0,.int .u8 0,.int .u8 0]),none⟩
 .nil)))) 216 ⟨.struct [(0,118),(1,3),(2,3),(3,3),(4,3),(5,3)],6,48,(some [.val (.pointer none),.int .i64 0,.int .i64 0,.int .i64 0,.int .i64 0,.int .i64 0]),none⟩
 (.node (.node (.node (.node (.node .nil 221 ⟨.slice 136,1,24,(some [.list .prt []]),(some .prt)⟩
 .nil) 227 ⟨.slice 260,1,24,(some [.list .fld []]),(some .fld)⟩
 .nil) 229 ⟨.struct [(0,9),(1,227)],2,40,(some [.str [],.list .fld []]),none⟩
 (.node (.node .nil 234 ⟨.array 256 4,256,256,none,none⟩
 .nil) 238 ⟨.slice 33,1,24,(some [.list .bytes []]),(some .bytes)⟩
 .nil)) 246 ⟨.int .i64,1,8,(some [.int .i64 0]),none⟩
 (.node (.node (.node .nil 248 ⟨.ptr,1,8,(some [.val (.pointer none)]),none⟩
 .nil) 250 ⟨.struct [(0,9)],1,16,(some [.str []]),none⟩
 .nil) 253 ⟨.ptr,1,8,(some [.val (.pointer none)]),none⟩
 (.node .nil 256 ⟨.array 32 5,32,32,(some [.int .u8 0,.int .u8 0,.int .u8 0,.int .u8 0,.int .u8 0,.int .u8 0,.int .u8 0,.int .u8 0,.int .u8 0,.int .u8 0,.int .u8 0,.int .u8 0,.int .u8 0,.int .u8 0,.int .u8 0,.int .u8 0,.int .u8 0,.int .u8 0,.int .u8 0,.int .u8 0,.int .u8 0,.int .u8 0,.int .u8 0,.int .u8 0,.int .u8 0,.int .u8 0,.int .u8 0,.int .u8 0,.int .u8 0,.int .u8 0,.int .u8 0,.int .u8 0]),none⟩
 .nil))) 257 ⟨.array 64 5,64,64,(some [.int .u8 0,.int .u8 0,.int .u8 0,.int .u8 0,.int .u8 0,.int .u8 0,.int .u8 0,.int .u8 0,.int .u8 0,.int .u8 0,.int .u8 0,.int .u8 0,.int .u8 0,.int .u8 0,.int .u8 0,.int .u8 0,.int .u8 0,.int .u8 0,.int .u8 0,.int .u8 0,.int .u8 0,.int .u8 0,.int .u8 0,.int .u8 0,.int .u8 0,.int .u8 0,.int .u8 0,.int .u8 0,.int .u8 0,.int .u8 0,.int .u8 0,.int .u8 0,.int .u8 0,.int .u8 0,.int .u8 0,.int .u8 0,.int .u8 0,.int .u8 0,.int .u8 0,.int .u8 0,.int .u8 0,.int .u8 0,.int .u8 0,.int .u8 0,.int .u8 0,.int .u8 0,.int .u8 0,.int .u8 0,.int .u8 0,.int .u8 0,.int .u8 0,.int .u8 0,.int .u8 0,.int .u8 0,.int .u8 0,.int .u8 0,.int .u8 0,.int .u8 0,.int .u8 0,.int .u8 0,.int .u8 0,.int .u8 0,.int .u8 0,.int .u8 0]),none⟩
 (.node (.node (.node (.node .nil 260 ⟨.struct [(0,9),(1,9)],2,32,(some [.str [],.str []]),none⟩
 .nil) 261 ⟨.other,1,8,(some [.val .nilFunc]),none⟩
 .nil) 262 ⟨.ptr,1,8,(some [.val (.pointer none)]),none⟩
 (.node .nil 272 ⟨.ptr,1,8,(some [.val (.pointer none)]),none⟩
 .nil)) 275 ⟨.struct [(0,272),(1,3),(2,118),(3,100),(4,3),(5,3),(6,3),(7,121)],8,96,(some [.val (.pointer none),.int .i64 0,.val (.pointer none),.list .fld [],.int .i64 0,.int .i64 0,.int .i64 0,.list .evt []]),none⟩
 (.node (.node (.node .nil 278 ⟨.struct [(0,33),(1,56),(2,3)],3,56,(some [.list .byte [],.list .int [],.int .i64 0]),none⟩
 .nil) 279 ⟨.array 256 5,256,256,none,none⟩
 .nil) 281 ⟨.struct [(0,5),(1,5)],2,2,(some [.int .u8 0,.int .u8 0]),none⟩
 (.node .nil 282 ⟨.array 16 281,32,32,(some [.int .u8 0,.int .u8 0,.int .u8 0,.int .u8 0,.int .u8 0,.int .u8 0,.int .u8 0,.int .u8 0,.int .u8 0,.int .u8 0,.int .u8 0,.int .u8 0,.int .u8 0,.int .u8 0,.int .u8 0,.int .u8 0,.int .u8 0,.int .u8 0,.int .u8 0,.int .u8 0,.int .u8 0,.int .u8 0,.int .u8 0,.int .u8 0,.int .u8 0,.int .u8 0,.int .u8 0,.int .u8 0,.int .u8 0,.int .u8 0,.int .u8 0,.int .u8 0]),none⟩
 .nil))))))
def tab:Tab:=tabT.get
theorem uq:tab.fits Tryz.prog:=Tab.zwk (by kernel_rfl)
theorem mixed:Tryz.prog.follows .mixedOrders=true:=by kernel_rfl
theorem spH:type_of% (@spcG facts Tryz.prog tab uq mixed):= @spcG facts Tryz.prog tab uq mixed
theorem lpH {X:Ctx} {G:AOut→List HO→Prop} {I:Alg} (hI:I=alg):type_of% (@zkH facts Tryz.prog tab X G I hI uq mixed):= @zkH facts Tryz.prog tab X G I hI uq mixed
end Go.Proofs.YtnpmenpjagcheaaGreatDoor
namespace Go.Ab
open Go
theorem laid_tail {P:Program} {x:String × DataW Unit} {rest:List (String × DataW Unit)} {w:World} (h:laidMet P (x::rest) w):laidMet P rest w:=by
 obtain⟨ps,⟨g,t,cs,fuel,p,q,h1,h2,h3,h4,h5,rfl⟩,hn,hc⟩:=h;exact⟨q,h5,(List.nodup_append.1 hn).2.1,fun b off hm=>hc b off (List.mem_append_right _ hm)⟩
theorem pow10_of {P:Program} {W:World} {d:DataW Unit} {rest:List (String × DataW Unit)} (g t e:Nat) (hd:d=Lib.tabData .u64 Lib.pow10Tab)
  (hg:P.globalNamed "internal/strconv.uint64pow10" =some g) (hty:(P.globals[g]?).map (·.type)=some t) (ht:P.underlying t=some (.array 20 e)) (he:P.underlying e=some (.int .u64)) (hce:P.cellsOf e=1) (hct:P.cellsOf t=20)
  (h:laidMet P (("internal/strconv.uint64pow10",d)::rest) W):Lib.TabIs P W "internal/strconv.uint64pow10" .u64 Lib.pow10Tab:=by
 subst hd;exact Lib.tabIs_of_head hg hty ht he hce hct h
end Go.Ab
namespace Go.Ab
open Go Go.Sep
variable {H:Type} {enc:TypeId × Value→H}
theorem retShaped {a:Assume} {C:Checked} {os:Os} {f:FuncId} {fn:Func} {s:ChangeSpec} {conds:List PathCond} {apart fresh handsOn again:Bool} {X:World→Array Value→Prop}
  (hX: ∀ (w w':World) (args:Array Value),w.heap=w'.heap→X w args→X w' args)
  (own:ownKnob C.prog.godebug=none) (started:os.Started) (noInit:C.prog.inits.idxOf? f=none) (hfn:C.prog.funcs[f]? =some fn)
  (witness: ∃ (w:World) (tape:Tape) (i:Input),w.os=os∧(w.forCall tape i).Shaped C.prog∧i.vars=[]∧Input.okWide C.prog (w.forCall tape i) .any w.heap.size f i∧
   ((s.pre enc C.prog fn conds apart (w.forCall tape i).memory i.args∧X (w.forCall tape i).memory i.args)∧sizedMet enc C.prog fn (OpenSpec.ofChange s) apart (w.forCall tape i).memory i.args)∧a.holds C.prog (lone (Frame.enter C.prog f i.args .normal) [] (w.forCall tape i)))
  (contract: ∀ (W:World) (base:Nat) (args:Array Value) (ds gs:List (DataW H)) (before:List MemPlace),
   (∀ (j:Nat) t v,fn.params[j]? =some t→args[j]? =some v→Value.okWide C.prog W .any base t v)→
   DataW.Whole enc C.prog fn.params.toList s.vars apart W args.toList ds gs before→
   conds.all (PathCond.test C.prog ⟨fn.params.toList,ds,s.plain.varTypes C.prog,gs⟩)=true→
   (DataW.weightsEach C.prog (fn.params.toList++s.plain.varTypes C.prog) (ds++gs)).all (· ≤reachBytes)=true→X W args→W.ShapedOpen C.prog→
   a.holds C.prog (lone (Frame.enter C.prog f args .normal) [] W)→
   Calls C.prog f args W fun e W'=>∃ v,e=.returned v∧s.post enc C.prog fn apart fresh handsOn again W args v W'):
  ReturnsInHanded a C os f .any (fun w args=>(s.pre enc C.prog fn conds apart w args∧X w args)∧sizedMet enc C.prog fn (OpenSpec.ofChange s) apart w args) (s.post enc C.prog fn apart fresh handsOn again):=by
 refine returnsInHanded_of_calls own started noInit witness ?_;intro w tape i _ hsh _ hok hpre hholds;obtain⟨_,_,_,fn',hfn',_,_,_,_,hval⟩:=hok;have e:fn'=fn:=Option.some.inj (hfn'.symm.trans hfn);subst e;obtain⟨⟨⟨ds,gs,before,hw,hc⟩,hx⟩,hz⟩:=hpre
 have hw':=DataW.Whole.of_heap (w':=w.forCall tape i) (by rfl) hw
 refine(contract (w.forCall tape i) w.heap.size i.args ds gs before hval hw' hc (hz.weights hw) (hX _ _ _ (by rfl) hx) hsh hholds).mono fun e W' ⟨v,he,hp⟩=> ?_
 subst he;exact ChangeSpec.post_blind hp
theorem cell_re {W w:World} (h: ∀ (k:Nat) (o:Obj),W.heap[k]? =some o→w.heap[k]? =some o) {a:Addr} (e: ∃ m,W.cell? a=some (.int .i64 m)): ∃ m,w.cell? a=some (.int .i64 m):=by
 obtain⟨m,e⟩:=e;refine⟨m,?_⟩;unfold World.cell? at e ⊢
 cases ho:W.heap[a.block]? with
 |none=>rw [ho] at e;simp at e
 |some o=>rw [h _ _ ho];rw [ho] at e;exact e
end Go.Ab
namespace Go.Ab
open Go Go.Sep
variable [Facts]
def wfI (n:Int):Prop:= -9223372036854775808≤n∧n≤9223372036854775807
theorem wfI_of {n:Int} (h:(Lit.int .i64 n).wf=true):wfI n:=by
 simp only [Lit.wf,jK,decide_eq_true_eq] at h
 have h1:IntKind.i64.min= -9223372036854775808:=by decide
 have h2:IntKind.i64.max=9223372036854775807:=by decide
 rw [h1,h2] at h;exact h
def wfS {α:Type} (s:List α):Prop:=s.length≤140737488355328
def zrM (f:Fld):Prop:=wfS f.name∧wfS f.value
def wfHd (h:Hd):Prop:=wfS h.method∧wfS h.target∧wfI h.minor∧(wfS h.fields∧∀ f ∈ h.fields,zrM f)∧wfI h.length
def zuZ (p:Prt):Prop:=wfS p.name∧wfS p.file∧wfS p.type∧wfS p.bytes
def wfZ:(u:U)→u.den→Prop
 |.byte,_=>True
 |.int,n=>wfI n
 |.str,(s:Str)=>wfS s
 |.fld,f=>zrM f
 |.bytes,(b:Str)=>wfS b
 |.hd,h=>wfHd h
 |.prt,p=>zuZ p
 |.evt,(e:Evt)=>wfI e.kind∧wfHd e.head∧wfS e.bytes∧zuZ e.part∧wfI e.code
 |.upl,(x:Upl)=>wfI x.id∧wfI x.size∧wfS x.note∧wfS x.bytes∧wfI x.sent
 |.ent,(e:Ent)=>wfI e.kind∧wfI e.id∧wfI e.n∧wfS e.text
 |.stp,(e:Stp)=>wfI e.kind∧wfI e.conn∧wfI e.n∧wfS e.bytes
 |.ask,(a:Ask)=>wfHd a.h∧wfS a.body
 |.cal,(c:Cal)=>wfI c.conn∧wfS c.b
 |.lst,(e:Lst)=>wfI e.op∧wfI e.n∧wfS e.b
 |.sst,(e:Sst)=>wfI e.op∧wfI e.id∧wfI e.n∧wfS e.text
 |.rpl,(r:Rpl)=>wfI r.status∧(wfS r.fields∧∀ f ∈ r.fields,zrM f)∧wfS r.body
 |.prw,p=>zuZ p
 |.med,(m:Med)=>wfS m.word∧(wfS m.params∧∀ f ∈ m.params,zrM f)
 |_,_=>True
abbrev Small {H:Type} (Pr:Program) (t:TypeId) (d:DataW H):Prop:=(d.weights Pr t).all (· ≤reachBytes)=true
section
variable {H:Type} {hsh:TypeId × Value→H} {Pr:Program} {w:World} {hF:Holds w} {base:Nat} {spare:Nat→Bool} {held:Bool}
def Ui (hsh:TypeId × Value→H) (Pr:Program) (w:World) (hF:Holds w) (base:Nat) (spare:Nat→Bool) (held:Bool) (t:TypeId) (Q:List P→Prop):Prop:=
 ∀ fuel cs y,DataW.trod hsh Pr w base spare held fuel t cs=some y→Small Pr t y.1→∃ ps,MPs (frzW w hF) ps cs∧Q ps
theorem Ui.mono {t:TypeId} {Q Q':List P→Prop} (h:Ui hsh Pr w hF base spare held t Q) (hq: ∀ ps,Q ps→Q' ps):Ui hsh Pr w hF base spare held t Q':=by
 intro fuel cs y hy hs;obtain⟨ps,h1,h2⟩:=h fuel cs y hy hs;exact⟨ps,h1,hq _ h2⟩
def QU (u:U) (ps:List P):Prop:=∃ x:u.den,ps=enc alg u x∧wfZ u x
def QL (u:U) (ps:List P):Prop:=∃ l:List u.den,ps=[.list u l]∧wfS l∧∀ x ∈ l,wfZ u x
theorem zki {n:Nat} (h:n≤reachBytes):n≤140737488355328:=Nat.le_trans h (by decide)
theorem op_str {t:TypeId} (ht:Pr.underlying t=some .string):Ui hsh Pr w hF base spare held t (QU .str):=by
 intro fuel cs y h hs;obtain⟨s,rfl,hy,hl⟩:=DataW.trod_string ht h
 have e:Sep.S s.data.toList=s:=by cases s;rfl
 refine⟨[.str s.data.toList],⟨by rw [← e];exact .str _ (by simpa using hl),trivial⟩,s.data.toList,rfl,?_⟩
 rw [hy] at hs;simp only [Small,DataW.weights,List.all_cons,List.all_nil,Bool.and_true,decide_eq_true_eq] at hs;exact zki hs
def elemsOf:DataW H→List (DataW H)
 |.slice es _=>es
 |_=>[]
theorem zhR {α:Type} {t e:TypeId} {size:Nat} {R:Sep.Rel α} (ht:Pr.underlying t=some (.slice e)) (hs:Pr.cellsOf e=size) {fuel:Nat} {cs:List Value} {y:DataW H × List MemPlace}
  (h:DataW.trod hsh Pr w base spare held fuel t cs=some y) (he: ∀ n ci z,z.1 ∈ elemsOf y.1→DataW.trod hsh Pr w base spare held n e ci=some z→∃ x,R w ci x):
  ∃ xs,RSl size R w cs xs∧xs.length=(elemsOf y.1).length:=by
 rcases DataW.trod_slice ht h with⟨rfl,rfl⟩|⟨a,len,cap,elems,rest,n,_,rfl,rfl,_,hl,hm,hlen,hel,_,_⟩
 · exact⟨[],⟨_,[],rfl,⟨none,0,rfl,jL _,jM _,fun _=>rfl,by simp,fun j u h=>by simp at h⟩,fun i x h=>by simp at h⟩,rfl⟩
 · subst hs
   have each: ∀ i,i<len→∃ ci:List Value,ci.length=Pr.cellsOf e∧(∀ j u,ci[j]? =some u→w.cell? ((a.add (i * Pr.cellsOf e)).add j)=some u)∧∃ x,R w ci x:=by
    intro i hi;have h1:=hel i hi
    rw [jm (by omega),Option.bind_eq_some_iff] at h1
    obtain⟨ci,hci,hy⟩:=h1;obtain⟨h2,h3⟩:=cells?_get hci;exact⟨ci,h2,h3,he n ci _ (List.mem_map_of_mem (List.getElem_mem _)) hy⟩
   have all: ∀ m,m≤len→∃ (vs:List Value) (xs:List α),xs.length=m∧vs.length=m * Pr.cellsOf e∧(∀ j u,vs[j]? =some u→w.cell? (a.add j)=some u)∧∀ i x,xs[i]? =some x→R w ((vs.drop (i * Pr.cellsOf e)).take (Pr.cellsOf e)) x:=by
    intro m
    induction m with
    |zero=>intro _;exact⟨[],[],rfl,by simp,fun j u h=>by simp at h,fun i x h=>by simp at h⟩
    | succ m ih=>
      intro hm'
      obtain⟨vs,xs,h1,h2,h3,h4⟩:=ih (by omega)
      obtain⟨ci,c1,c2,x,c3⟩:=each m (by omega)
      refine⟨vs++ci,xs++[x],by simp [h1],by simp [h2,c1,Nat.succ_mul],fun j u hj=> ?_,fun i z hi=> ?_⟩
      · rcases Nat.lt_or_ge j vs.length with hj1|hj1
        · rw [jy hj1] at hj;exact h3 j u hj
        · rw [jA hj1] at hj
          have h5:=c2 _ _ hj
          rw [Addr.add_add,h2,show m * Pr.cellsOf e+(j - m * Pr.cellsOf e)=j by omega] at h5
          exact h5
      · rcases Nat.lt_or_ge i xs.length with hi1|hi1
        · rw [jy hi1] at hi
          have h5:=h4 i z hi
          have h6:i * Pr.cellsOf e+Pr.cellsOf e≤vs.length:=by rw [h2,← Nat.succ_mul];exact Nat.mul_le_mul_right _ (by omega)
          rw [List.drop_append_of_le_length (by omega),List.take_append_of_le_length (by simp;omega)]
          exact h5
        · rw [jA hi1] at hi
          have hi2:i=m:=by
           have:=(jl.1 hi).1
           simp at this;omega
          subst hi2;rw [h1,Nat.sub_self] at hi
          simp at hi
          subst hi
          rw [← h2,List.drop_left,jq (by omega)]
          exact c3
   obtain⟨vs,xs,h1,h2,h3,h4⟩:=all len (jL _)
   refine⟨xs,⟨_,vs,rfl,⟨some a,cap,by rw [h1],by omega,hm,(fun h=>by cases h),by rw [h1];exact h2,fun j u hj=> ?_⟩,h4⟩,by simp [elemsOf,h1,hlen]⟩
   have hsp:a.spot=none:=by
    cases hv:vs with
    |nil=>rw [hv] at hj;simp at hj
    | cons u0 r=>
      have:=h3 0 u0 (by rw [hv];rfl)
      rw [show a.add 0=a by simp [Addr.add]] at this
      exact zvd this
   exact⟨⟨a,rfl,hsp⟩,by rw [← YB hsp];exact h3 j u hj⟩
theorem weightsAll_mem {e:TypeId}: ∀ {es:List (DataW H)} {d:DataW H},d ∈ es→∀ n ∈ d.weights Pr e,n ∈ DataW.weightsAll Pr e es
 | x::es,d,hd,n,hn=>by
   simp only [DataW.weightsAll,List.mem_append]
   rcases List.mem_cons.1 hd with rfl|hd
   · exact .inl hn
   · exact .inr (weightsAll_mem hd n hn)
theorem zl9 {t e:TypeId} (ht:Pr.underlying t=some (.slice e)) {d z:DataW H} (h:Small Pr t d) (hz:z ∈ elemsOf d):Small Pr e z:=by
 cases d<;>simp only [elemsOf,List.not_mem_nil] at hz
 refine List.all_eq_true.2 fun n hn=>List.all_eq_true.1 h n ?_;simp only [DataW.weights,ht,List.mem_cons,List.mem_append];exact .inr (.inl (weightsAll_mem hz n hn))
theorem znV {t e:TypeId} (ht:Pr.underlying t=some (.slice e)) (hb:Nat.blt 0 (Pr.bytesOf e)=true) {d:DataW H} (h:Small Pr t d):(elemsOf d).length≤140737488355328:=by
 cases d<;>simp only [elemsOf]<;>try exact jM _
 rename_i es ss
 have h1:=List.all_eq_true.1 h ((es.length+ss.length) * Pr.bytesOf e) (by simp [DataW.weights,ht])
 have hb:0<Pr.bytesOf e:=by simpa [Nat.blt_eq] using hb
 refine zki (Nat.le_trans (Nat.le_trans (Nat.le_add_right _ ss.length) (Nat.le_mul_of_pos_right _ hb)) (by simpa using h1))
theorem op_list {t e:TypeId} {u:U} (ht:Pr.underlying t=some (.slice e)) (hc:Pr.cellsOf e=u.size) (hb:Nat.blt 0 (Pr.bytesOf e)=true) (he:Ui hsh Pr w hF base spare held e (QU u)):
  Ui hsh Pr w hF base spare held t (QL u):=by
 intro fuel cs y h hs
 obtain⟨l,hl,hlen⟩:=zhR (R:=fun _ cs (x:u.den)=>MPs (frzW w hF) (enc alg u x) cs∧wfZ u x) ht hc h (fun n ci z hz ht'=>by
  obtain⟨ps,h1,x,rfl,hx⟩:=he n ci z ht' (zl9 ht hs hz)
  exact⟨x,h1,hx⟩)
 have hl':=hl;obtain⟨v,vs,rfl,_,hx⟩:=hl
 refine⟨[.list u l],⟨zv0 (fun _ _ h=>h.1) hl',trivial⟩,l,rfl,by unfold wfS;rw [hlen];exact znV ht hb hs,fun x hm=> ?_⟩
 obtain⟨i,hi⟩:=List.getElem?_of_mem hm;exact(hx i x hi).2
def zna (hsh:TypeId × Value→H) (Pr:Program) (w:World) (hF:Holds w) (base:Nat) (spare:Nat→Bool) (held:Bool):List Field→List (List P→Prop)→Prop
 |[],[]=>True
 |f::fs,Q::Qs=>Ui hsh Pr w hF base spare held f.type Q∧zna hsh Pr w hF base spare held fs Qs
 |_,_=>False
theorem zna.nil:zna hsh Pr w hF base spare held [] []:=trivial
theorem zna.cons {f:Field} {fs:List Field} {Q:List P→Prop} {Qs:List (List P→Prop)} (h:Ui hsh Pr w hF base spare held f.type Q) (k:zna hsh Pr w hF base spare held fs Qs):zna hsh Pr w hF base spare held (f::fs) (Q::Qs):=⟨h,k⟩
theorem MPs.append {S:Frz}: ∀ {a b:List P} {x y:List Value},MPs S a x→MPs S b y→MPs S (a++b) (x++y)
 |[],_,[],_,_,h=>h
 |_::_,_,_::_,_,h,k=>⟨h.1,MPs.append h.2 k⟩
theorem z_one {t:TypeId} {v:Value} {d:DataW H} {ps:List MemPlace} {Q:List P→Prop} (hr:v.oneCell'=true) (h:DataW.Trod hsh Pr w base spare held t v d ps) (hs:Small Pr t d) (ho:Ui hsh Pr w hF base spare held t Q): ∃ qs,MPs (frzW w hF) qs [v]∧Q qs:=by
 obtain⟨fuel,hf⟩:=h
 have hc:v.cells.toList=[v]:=by cases v<;>first|rfl|cases hr
 rw [hc] at hf;exact ho fuel _ _ hf hs
theorem small_nth {ts:List TypeId} {ds:List (DataW H)} (h:(DataW.weightsEach Pr ts ds).all (· ≤reachBytes)=true) {j:Nat} {t:TypeId} {d:DataW H} (ht:ts[j]? =some t) (hd:ds[j]? =some d):Small Pr t d:=
 List.all_eq_true.2 fun n hn=>List.all_eq_true.1 h n (DataW.weights_mem_each ht hd n hn)
end
end Go.Ab
