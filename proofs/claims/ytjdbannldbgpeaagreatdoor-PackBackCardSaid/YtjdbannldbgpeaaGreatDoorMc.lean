/- Texts of this proof, one behind the other: AbM AbN AbP AbO ShpE Tab Laid Wrap Fnd Onc Ty RpcA ShlC Esc InZ Shelf Lib ChrA ChrB ChrC ParL FldA ParS ChrD Mrk PakL ParA ParC ParD ParB FldP ParP Evt LnL FldB FldG FldD FldE Base SeekL SeekM FrmL FrmA. -/
import Derived.Deep.LoopGhost
import Derived.Recover
import Derived.Handy
import Derived.KernelRfl
import Derived.Test.YtjdbannldbgpeaaGreatDoorProg
import Derived.WalkKit
import Derived.Lib.ItoaNum
import Derived.Lib.LaidTab
import Derived.Shelf.Vars
import Derived.HandedShaped
import Derived.Tactics
import Derived.Tactics2
import Derived.Defers
import Derived.Laws.Pointers
import Derived.Laws.LoneSync
import Derived.RegionTactic
import Derived.RegionCalls
import Derived.ChangeAlike
import Derived.Shelf.Strings.Builder1
import Derived.Shelf.Strings.Builder2
import Derived.Shelf.Strings.Trim
import Derived.Shelf.Small.Utf8
import Derived.Shelf.Small.Strs
import Derived.Shelf.Strings.BuilderF
import Derived.Shelf.Strings.BuilderK
import Derived.Shelf.Utf8.RuneCount
import Derived.Shelf.Strings.Builder2Cap
import Derived.Shelf.Strings.Search1
import Derived.Shelf.Strings.Search2
import Derived.Shelf.Strings.Search3
import Derived.Shelf.Strings.Cut
import Derived.Shelf.Strings.Count
import Derived.Shelf.LaysM
import Derived.Shelf.Strings.Shaped
import Derived.Shelf.Strings.Prefix
import Derived.Shelf.Strings.Split
import Derived.Shelf.Unicode.Decode
import Derived.Shelf.Strings.Runes
import Derived.Shelf.Strings.RuneCount
import Derived.Shelf.Strings.AsciiSet
import Derived.Shelf.Unicode.DecodeSlow
import Derived.Shelf.Unicode.DecodeAny
import Derived.Shelf.Unicode.DecodeLast
import Derived.Shelf.Strings.BuilderCap
import Derived.Lib.LazyBuf
import Derived.WideShapes
import Derived.ChangeArms
import Derived.SizedLaws
import Derived.Shelf.Strings.SlTrimAscii
import Derived.Below
import Derived.Test.YtjdbannldbgpeaaGreatDoorMb
set_option linter.all false
namespace Go.Ab
open Go Go.Sep
variable [Facts]
structure Ok (Pr:Program) (X:Ctx) (G:AOut→List HO→Prop) (t:Tree):Prop where
 out:t.ok Pr X G
theorem zkX {Pr:Program} {X:Ctx} {G:AOut→List HO→Prop} {p:Prop} {t:Tree}:Ok Pr X G (.need p t)↔p∧Ok Pr X G t:=⟨fun h=>⟨h.out.1,⟨h.out.2⟩⟩,fun h=>⟨⟨h.1,h.2.out⟩⟩⟩
theorem zmS {Pr:Program} {X:Ctx} {G:AOut→List HO→Prop} {b:Bool} {t f:Tree}:Ok Pr X G (.br b t f)↔(b=true→Ok Pr X G t)∧(b=false→Ok Pr X G f):=
 ⟨fun h=>⟨fun e=>⟨h.out.1 e⟩,fun e=>⟨h.out.2 e⟩⟩,fun h=>⟨⟨fun e=>(h.1 e).out,fun e=>(h.2 e).out⟩⟩⟩
theorem zma {Pr:Program} {X:Ctx} {G:AOut→List HO→Prop} {o:AOut} {hp:List HO}:Ok Pr X G (.fin o hp)↔G o hp:=⟨fun h=>h.out,fun h=>⟨h⟩⟩
theorem zl9 {Pr:Program} {X:Ctx} {G:AOut→List HO→Prop}:Ok Pr X G .qed↔True:=⟨fun _=>trivial,fun _=>⟨trivial⟩⟩
theorem zkY {Pr:Program} {X:Ctx} {G:AOut→List HO→Prop} {t f:Tree}:Ok Pr X G (.both t f)↔Ok Pr X G t∧Ok Pr X G f:=⟨fun h=>⟨⟨h.out.1⟩,⟨h.out.2⟩⟩,fun h=>⟨⟨h.1.out,h.2.out⟩⟩⟩
theorem zkW {Pr:Program} {X:Ctx} {G:AOut→List HO→Prop} {n:Nat}:Ok Pr X G (.stop n)↔False:=⟨fun h=>h.out,fun h=>h.elim⟩
section
variable {Pr:Program} {T:Tab} {X:Ctx} {G:AOut→List HO→Prop} {a:Act} {w:World}
def Slots (S:Frz) (bs:List Value) (a:Act) (e:List (Nat × D)):Prop:=∀ p ∈ e,MD S bs p.2 (a.tmps.getD p.1 undef)
theorem zdN: ∀ {e:List (Nat × D)} {t:Nat} {d:D},look e t=some d→(t,d) ∈ e
 | (s,d0)::r,t,d,h=>by
   simp only [xw] at h
   split at h
   · rename_i hs;cases h;subst hs;exact List.mem_cons_self ..
   · exact List.mem_cons_of_mem _ (zdN h)
theorem YA {S:Frz} {bs:List Value} {st:St} (hE:Env S bs st a): ∀ {dom:List Nat} {e:List (Nat × D)},VK st.env dom=some e→Slots S bs a e
 |[],e,h=>by cases h;intro p hp;cases hp
 | s ::dom,e,h=>by
   simp only [VK] at h
   split at h
   · rename_i d0 r h1 h2
     cases h;intro p hp
     cases hp with
     |head=>exact hE.slots _ _ h1
     |tail _ hm=>exact YA hE h2 p hm
   · cases h
theorem VG {S:Frz} {bs:List Value}: ∀ {e:List (Nat × D)},Slots S bs a e→Slots S bs a (zk0 e)
 |[],_=>fun p hp=>by cases hp
 | (t,d)::r,h=>fun p hp=>by
   cases hp with
   | head=>
     have:=h (t,d) (List.mem_cons_self ..)
     show MD S bs (zgO d) _
     unfold zgO
     split
     · exact xh _ _ this
     · obtain⟨vs,h3,h4⟩:=this;exact⟨vs,h3.map xh,h4⟩
     · exact this
   |tail _ hm=>exact VG (fun q hq=>h q (List.mem_cons_of_mem _ hq)) p hm
theorem UY {S:Frz} {bs bs':List Value} {f:Nat→Option Nat} (hf: ∀ (k j:Nat) (v:Value),f k=some j→bs[k]? =some v→bs'[j]? =some v): ∀ {e:List (Nat × D)},Slots S bs a e→Slots S bs' a (renE f e)
 |[],_=>fun p hp=>by cases hp
 | (t,d)::r,h=>fun p hp=>by
   cases hp with
   |head=>exact D.yg hf d _ (h (t,d) (List.mem_cons_self ..))
   |tail _ hm=>exact UY hf (fun q hq=>h q (List.mem_cons_of_mem _ hq)) p hm
theorem Slots.mono {S S':Frz} (hle:S.le S') {bs bs':List Value} (he:Ext bs bs') {e:List (Nat × D)} (h:Slots S bs a e):Slots S' bs' a e:=fun p hp=>(h p hp).mono hle he
theorem zib {sl:List SlE} {k0:Nat} (hk:X.bs0.length=k0) {dom:List Nat} {st s:St} (hc:St.cut sl k0 dom st=some s) (hn:Now X st a w):Now X s a w:=by
 unfold St.cut at hc
 split at hc
 · cases hc
 · rename_i e he
   simp only at hc
   obtain⟨hdf,he⟩:st.df=none∧VK st.env dom=some e:=by
    split at he
    · rename_i hdf;exact⟨hdf,he⟩
    · cases he
   obtain⟨S,K,hH,hE⟩:=hn;obtain⟨K1,hb,hH1,hE1⟩:=XF (sl:=sl) (upto 0 k0++zgf e) hH hE;have hsl:=VG ((YA hE he).mono (Frz.le.refl S) hb)
   split at hc
   · rename_i os hpr ht
     cases hc;obtain⟨Cs,hH2,hf⟩:=zdm hk (fun k hk2=>za2 hk2) ht hH1
     exact⟨S,Cs,hH2,hE.size,(by have:=hE.defers;rw [hdf] at this;exact this),fun t d hd=>UY hf hsl _ (zdN hd)⟩
   · cases hc
def XB (sel:List Nat) (n:Nat) (i:Nat):Option Nat:=
 match nth sel i with
 |some q=>some q
 |none=>some (n+(i - sel.length))
def sU (f:Nat→Option Nat):List Nat→List HO→List HO→List HO
 |q::qs,o::os,hp=>sU f qs os (setN hp q (o.ren f))
 |[],os,hp=>hp++os.map (HO.ren f)
 |_::_,[],hp=>hp
theorem zad {K:List CO} {q:Nat} {c:CO} (h:(K.map CO.base)[q]? =some c.base):(K.set q c).map CO.base=K.map CO.base:=by
 have hlt:q<K.length:=by simpa using (jh.1 h).1
 have hc:K[q]? =some K[q]:=ji hlt;refine yw hc ?_;rw [zS hc] at h;simp only [jr] at h;exact h.symm
theorem Zx: ∀ {qs:List Nat} {cs K:List CO},(∀ (i q:Nat) (c:CO),qs[i]? =some q→cs[i]? =some c→(K.map CO.base)[q]? =some c.base)→qs.length≤cs.length→(yx qs cs K).map CO.base=K.map CO.base++(cs.drop qs.length).map CO.base
 |[],cs,K,_,_=>by simp [yx]
 | q::qs,c::cs,K,h,hl=>by
   have h0:=zad (h 0 q c rfl rfl);simp only [yx]
   rw [Zx (fun i q' c' h1 h2=>by rw [h0];exact h (i+1) q' c' (by simpa using h1) (by simpa using h2)) (by simpa using hl),h0]
   simp
theorem At.put {w:World} {S:Frz} {K:List CO} {fr:List Chunk} {q:Nat} {c:CO} (hq:q<K.length) (H:At w (frzC S::(CO.zl K++(c.chunk::fr)))):At w (frzC S::(CO.zl (K.set q c)++fr)):=by
 obtain⟨p,r,h1,_,h3⟩:=yM (ji hq);rw [h3,zA];rw [h1,zA] at H;have H2:=(H.perm (zK _ _ _ _ _)).tail;have H3:=H2.perm ((yQ c.chunk (frzC S) (CO.zl p++CO.zl r) fr).symm);exact H3.perm (zK _ _ _ _ _).symm
theorem Yo {S:Frz} {B:List Value} {f:Nat→Option Nat}: ∀ {qs:List Nat} {os hp:List HO} {cs K:List CO} {fr:List Chunk},os.length=cs.length→qs.length≤cs.length→(∀ q ∈ qs,q<K.length)→HR S B hp K→(∀ (i:Nat) (o:HO) (c:CO),os[i]? =some o→cs[i]? =some c→Rel S B (o.ren f) c)→
  At w (frzC S::(CO.zl K++(CO.zl cs++fr)))→HR S B (sU f qs os hp) (yx qs cs K)∧At w (frzC S::(CO.zl (yx qs cs K)++fr))
 | [],os,hp,cs,K,fr,hl,_,_,hr,ho,hat=>by
   simp only [sU,yx]
   refine⟨⟨by simp [hr.1,hl],fun i o c h1 h2=> ?_⟩,by rw [zA,jk];exact hat⟩
   rcases Nat.lt_or_ge i K.length with hi|hi
   · rw [jw (by rw [hr.1];exact hi)] at h1
     rw [jw hi] at h2;exact hr.2 i o c h1 h2
   · rw [jy (by rw [hr.1];exact hi)] at h1
     rw [jy hi] at h2;rw [hr.1,List.getElem?_map,Option.map_eq_some_iff] at h1;obtain⟨o',h3,rfl⟩:=h1;exact ho _ o' c h3 h2
 | q ::qs,o::os,hp,c::cs,K,fr,hl,hq,hqs,hr,ho,hat=>by
   simp only [sU,yx];have hqk:q<K.length:=hqs q (List.mem_cons_self ..)
   refine Yo (by simpa using hl) (by simpa using hq) (fun q' h'=>by simp;exact hqs q' (List.mem_cons_of_mem _ h')) ?_ (fun i o' c' h1 h2=>ho (i+1) o' c' (by simpa using h1) (by simpa using h2)) ?_
   · rw [yE];exact hr.set q (ho 0 o c rfl rfl)
   · have:=At.put (c:=c) hqk (fr:=CO.zl cs++fr) (by simpa [CO.zl] using hat)
     exact this
 | q::qs,[],hp,cs,K,fr,hl,hq,_,_,_,_=>by
   cases cs with
   |nil=>simp at hq
   |cons _ _=>cases hl
 |q::qs,o::os,hp,[],K,fr,hl,_,_,_,_,_=>by cases hl
theorem MDs.ren {S:Frz} {bs bs':List Value} {f:Nat→Option Nat} (hf: ∀ (k j:Nat) (v:Value),f k=some j→bs[k]? =some v→bs'[j]? =some v): ∀ {ds:List D} {vs:List Value},MDs S bs ds vs→MDs S bs' (ds.map (D.ren f)) vs
 |[],[],_=>trivial
 |d::_,_::_,h=>⟨D.yg hf d _ h.1,MDs.ren hf h.2⟩
theorem Spc.frame {f:Nat} {args0:List D} {hp0 hp1:List HO} {out0:AOut} (h:Spc Pr f args0 hp0 out0 hp1) (sel:List Nat) {args:List D} {hp os hpr:List HO} (ht:uh sel hp=some (os,hpr))
  (ho:os.map (HO.ren fun q=>idx q sel 0)=hp0) (ha:args.map (D.ren fun q=>idx q sel 0)=args0):
  Spc Pr f args hp (out0.ren (XB sel hp.length)) (sU (XB sel hp.length) sel hp1 hpr):=by
 refine⟨h.1,fun S K fr w vs hHR hargs hat=> ?_⟩;obtain⟨Cs,K',h1,h2,h3,h4,h5,h6,h7⟩:=wL ht rfl hHR hat
 have hf: ∀ (i j:Nat) (v:Value),idx i sel 0=some j→(K.map CO.base)[i]? =some v→(Cs.map CO.base)[j]? =some v:=by
  intro i j v e1 e2;obtain⟨_,e3⟩:=Qi e1;simp only [Nat.sub_zero] at e3
  have hjl:j<Cs.length:=by rw [h4,h5];exact(jh.1 e3).1
  have:=h6 j i _ e3 (ji hjl);rw [e2] at this;cases this;rw [List.getElem?_map,ji hjl];rfl
 have hHR0:HR S (Cs.map CO.base) hp0 Cs:=by
  refine⟨by rw [← ho];simp [h4],fun i o c e1 e2=> ?_⟩
  rw [← ho,List.getElem?_map,Option.map_eq_some_iff] at e1;obtain⟨o',e3,rfl⟩:=e1;exact HO.yg (fun i j v e4 e5=>hf i j v e4 e5) (h7 i o' c e3 e2)
 have hat0:At w (frzC S::(CO.zl Cs++(CO.zl K'++fr))):=by
  refine h3.perm (List.Perm.cons _ ?_);have h9:(CO.zl K'++CO.zl Cs).Perm (CO.zl Cs++CO.zl K'):=List.perm_append_comm;have h10:=h9.append_right fr;rw [jk,jk] at h10;exact h10
 refine(h.2 S Cs _ w vs hHR0 (by rw [← ha];exact hargs.ren hf) hat0).mono fun e w' he=> ?_
 obtain⟨S1,Cs1,hle,hex,hHR1,hat1,heo⟩:=he
 have hlc:sel.length≤Cs1.length:=by
  rcases Nat.lt_or_ge Cs1.length sel.length with hlt|hge
  · exfalso
    have hlt2:Cs1.length<Cs.length:=by omega
    have:=hex Cs1.length _ (by rw [List.getElem?_map,ji hlt2];rfl)
    have:=(jh.1 this).1
    simp at this
  · exact hge
 have hbq: ∀ (i q:Nat) (c:CO),sel[i]? =some q→Cs1[i]? =some c→(K'.map CO.base)[q]? =some c.base:=by
  intro i q c e1 e2
  have hil:i<Cs.length:=by rw [h4,h5];exact(jh.1 e1).1
  have e3:=h6 i q _ e1 (ji hil)
  have e4:=hex i _ (by rw [List.getElem?_map,ji hil];rfl)
  rw [zS e2] at e4;simp only [jr] at e4;rw [h1,e3,e4]
 have hB:=Zx hbq hlc
 have hex2:Ext (K.map CO.base) ((yx sel Cs1 K').map CO.base):=by rw [hB,h1];exact Ext.append _ _
 have hlen:K'.length=hp.length:=by
  have:=congrArg List.length h1;simp only [List.length_map] at this;rw [this,hHR.1]
 have hback: ∀ (i j:Nat) (v:Value),XB sel hp.length i=some j→(Cs1.map CO.base)[i]? =some v→((yx sel Cs1 K').map CO.base)[j]? =some v:=by
  intro i j v e1 e2;unfold XB at e1
  split at e1
  · rename_i q hq
    cases e1;rw [yc] at hq;rw [List.getElem?_map,Option.map_eq_some_iff] at e2;obtain⟨c,e3,rfl⟩:=e2
    exact hex2 _ _ (by rw [← h1];exact hbq i j c hq e3)
  · rename_i hq
    cases e1;rw [yc] at hq
    have hge:sel.length≤i:=by simpa using hq
    rw [hB,jy (by simp [hlen])]
    simp only [List.length_map,hlen];rw [List.getElem?_map,jF];rw [List.getElem?_map] at e2
    rw [show sel.length+(hp.length+(i - sel.length) - hp.length)=i by omega]
    exact e2
 have hat2:At w' (frzC S1::(CO.zl K'++(CO.zl Cs1++fr))):=by
  refine hat1.perm (List.Perm.cons _ ?_);have h9:(CO.zl Cs1++CO.zl K').Perm (CO.zl K'++CO.zl Cs1):=List.perm_append_comm;have h10:=h9.append_right fr;rw [jk,jk] at h10;exact h10
 obtain⟨r1,r2⟩:=Yo (f:=XB sel hp.length) (B:=(yx sel Cs1 K').map CO.base) (qs:=sel) (os:=hp1) (hp:=hpr) (cs:=Cs1) hHR1.1 hlc (fun q hq=>by
  obtain⟨i,hi⟩:=List.getElem?_of_mem hq
  have hil:i<Cs.length:=by rw [h4,h5];exact(jh.1 hi).1
  have:=(jh.1 (h6 i q _ hi (ji hil))).1;rw [← h1] at this
  simpa using this) (h2.mono hle hex2) (fun i o c e1 e2=>HO.yg hback (hHR1.2 i o c e1 e2)) hat2
 refine⟨S1,yx sel Cs1 K',hle,hex2,r1,r2,?_⟩
 cases out0 with
 | ret d=>cases e with
   |returned v=>exact D.yg hback d v heo
   |panicked ch=>exact heo.elim
   |outgrown=>exact heo.elim
 | pan c=>cases e with
   |returned v=>exact heo.elim
   |panicked ch=>obtain⟨v,e1,e2⟩:=heo;exact⟨v,e1,C.yg hback c v e2⟩
   |outgrown=>exact heo.elim
end
end Go.Ab
namespace Go.Ab
open Go Go.Sep
variable [Facts]
def zmw:U→Bool
 |.byte=>true
 |.int=>true
 |.str=>true
 |.fld=>true
 |_=>false
def noLP:P→Bool
 |.list _ _=>false
 |.nl _=>false
 |_=>true
def zgP:Cap→Bool
 |.p x=>noLP x
 |.ptr _ _=>true
def noLC:C→Bool
 |.p x=>noLP x
 |.fpt _ _ _ _=>false
 |.fn _ caps=>caps.all zgP
 |.ifc _ _ ps=>ps.all noLP
 |_=>true
def noLV:V0→Bool
 |.one c=>noLC c
 |.agg cs=>cs.all noLC
def noLD:D→Bool
 |.v x=>noLV x
 |.tup l=>l.all noLV
 |.bad=>true
def noLA:AOut→Bool
 |.ret d=>noLD d
 |.pan c=>noLC c
mutual
def noLO:HO→Bool
 |.obj _ cs=>cs.all noLC
 |.row u _ _=>zmw u
 |.pack l=>zaz l
 |.abs _=>false
 |.rws _ _ _ _ _=>false
 |.gone=>true
def zaz:List HO→Bool
 |[]=>true
 |o::r=>noLO o&&zaz r
end
theorem VH: ∀ {l:List HO} {i:Nat} {o:HO},zaz l=true→l[i]? =some o→noLO o=true
 |[],i,o,_,h=>by simp at h
 |x::l,0,o,hn,h=>by simp only [zaz,jJ] at hn;simp at h;subst h;exact hn.1
 |x::l,i+1,o,hn,h=>by simp only [zaz,jJ] at hn;exact VH (l:=l) hn.2 (by simpa using h)
section
variable {S S':Frz} {bs:List Value}
theorem MP.noL {p:P} {v:Value} (h:MP S p v) (hn:noLP p=true):MP S' p v:=by
 cases h with
 |int k n=>exact .int k n
 |bool b=>exact .bool b
 |str l h=>exact .str l h
 |list=>cases hn
 |nl=>cases hn
 |val v h=>exact .val v h
theorem MPs.noL: ∀ {ps:List P} {vs:List Value},MPs S ps vs→ps.all noLP=true→MPs S' ps vs
 |[],[],_,_=>trivial
 |p::ps,v::vs,h,hn=>by simp only [List.all_cons,jJ] at hn;exact⟨h.1.noL hn.1,MPs.noL h.2 hn.2⟩
 |[],_::_,h,_=>h.elim
 |_::_,[],h,_=>h.elim
theorem MCap.noL {p:Cap} {v:Value} (h:MCap S bs p v) (hn:zgP p=true):MCap S' bs p v:=by
 cases p with
 |p x=>exact MP.noL h hn
 |ptr k off=>exact h
theorem qg.noL: ∀ {ps:List Cap} {vs:List Value},qg S bs ps vs→ps.all zgP=true→qg S' bs ps vs
 |[],[],_,_=>trivial
 |p::ps,v::vs,h,hn=>by simp only [List.all_cons,jJ] at hn;exact⟨h.1.noL hn.1,qg.noL h.2 hn.2⟩
 |[],_::_,h,_=>h.elim
 |_::_,[],h,_=>h.elim
theorem MC.noL {c:C} {v:Value} (h:MC S bs c v) (hn:noLC c=true):MC S' bs c v:=by
 cases c with
 |p x=>exact MP.noL h hn
 |fpt u l i off=>cases hn
 |fn f caps=>obtain⟨vs,h1,h2⟩:=h;exact⟨vs,h1.noL hn,h2⟩
 | ifc T agg ps=>
   cases agg with
   | false=>cases ps with
     |nil=>exact h.elim
     | cons p ps=>cases ps with
       |nil=>obtain⟨x,h1,h2⟩:=h;exact⟨x,h1.noL (by simpa [noLC] using hn),h2⟩
       |cons _ _=>exact h.elim
   |true=>obtain⟨vs,h1,h2⟩:=h;exact⟨vs,h1.noL hn,h2⟩
 |ptr k off=>exact h
 |ept u k i off=>exact h
 |row k=>exact h
 |sub u k lo hi=>exact h
 |nilS=>exact h
 |any=>exact h
theorem MCs.noL: ∀ {cs:List C} {vs:List Value},MCs S bs cs vs→cs.all noLC=true→MCs S' bs cs vs
 |[],[],_,_=>trivial
 |p::ps,v::vs,h,hn=>by simp only [List.all_cons,jJ] at hn;exact⟨h.1.noL hn.1,MCs.noL h.2 hn.2⟩
 |[],_::_,h,_=>h.elim
 |_::_,[],h,_=>h.elim
theorem MV.noL {x:V0} {v:Value} (h:MV S bs x v) (hn:noLV x=true):MV S' bs x v:=by
 cases x with
 |one c=>exact MC.noL h hn
 |agg cs=>obtain⟨vs,h1,h2⟩:=h;exact⟨vs,h1.noL hn,h2⟩
theorem MVs.noL: ∀ {cs:List V0} {vs:List Value},MVs S bs cs vs→cs.all noLV=true→MVs S' bs cs vs
 |[],[],_,_=>trivial
 |p::ps,v::vs,h,hn=>by simp only [List.all_cons,jJ] at hn;exact⟨h.1.noL hn.1,MVs.noL h.2 hn.2⟩
 |[],_::_,h,_=>h.elim
 |_::_,[],h,_=>h.elim
theorem MD.noL {d:D} {v:Value} (h:MD S bs d v) (hn:noLD d=true):MD S' bs d v:=by
 cases d with
 |v x=>exact MV.noL h hn
 |tup l=>obtain⟨vs,h1,h2⟩:=h;exact⟨vs,h1.noL hn,h2⟩
 |bad=>trivial
theorem EOut.noL {o:AOut} {e:Ending} (h:EOut S bs o e) (hn:noLA o=true):EOut S' bs o e:=by
 cases o with
 | ret d=>cases e with
   |returned v=>exact MD.noL h hn
   |panicked ch=>exact h.elim
   |outgrown=>exact h.elim
 | pan c=>cases e with
   |returned v=>exact h.elim
   |panicked ch=>obtain⟨v,h1,h2⟩:=h;exact⟨v,h1,h2.noL hn⟩
   |outgrown=>exact h.elim
theorem zjU {u:U} (hu:zmw u=true) (x:u.den) {j:Nat} {p:P} (h:(enc alg u x)[j]? =some p):noLP p=true:=by
 cases u<;>cases hu
 all_goals
  rcases j with _|_|j<;>simp [enc,zh8] at h<;>subst h<;>rfl
theorem Rel.noL {o:HO} {c:CO} (h:Rel S bs o c):noLO o=true→Rel S' bs o c:=by
 induction h with
 |obj h=>intro hn;exact .obj (h.noL hn)
 |row hlen hx=>intro hn;exact .row hlen fun i x j p v a b c=>(hx i x j p v a b c).noL (zjU hn x b)
 |pack hl h ih=>intro hn;exact .pack hl fun i o c a b=>ih i o c a b (VH hn a)
 |gone=>intro _;exact .gone
 |abs hl h ih=>intro hn;cases hn
 |rws=>intro hn;cases hn
end
theorem At.lend {w:World} {S:Frz} {E size:Nat} {ao:Option Addr} {n cap:Nat} {cs:List Value} {l:List Chunk} (H:At w (rowC E size (.slice ao n cap) n cs::frzC S::l)):
  ∃ S',S.le S'∧At w (frzC S'::l)∧RdS S' size (.slice ao n cap) n cs∧∀ (w':World) (S2:Frz) (m:List Chunk),S'.le S2→At w' (frzC S2::m)→∃ S3,S.le S3∧At w' (rowC E size (.slice ao n cap) n cs::frzC S3::m):=by
 obtain⟨F,A,B,e,dj,hrow,A',B',e',dj',hfrz,hl⟩:=H;obtain⟨hF,hlen,hv⟩:=hrow;obtain⟨hA',h1,h2,h3,h4⟩:=hfrz
 rcases hv with⟨hv,hn⟩|⟨g,cap',cur,fz,hv,hg,hfree,hnc,hcm,hcs,ht⟩
 · cases hv
   have hcs:cs=[]:=List.eq_nil_of_length_eq_zero (by simpa using hlen)
   subst hcs
   exact⟨S,Frz.le.refl S,⟨_,A',B',fun _=>Iff.rfl,dj',⟨hA',h1,h2,h3,h4⟩,hl⟩,fun w' _=>⟨_,0,rfl,jK _,jL _,fun _=>rfl,by simp,fun j u h=>by simp at h⟩,
    fun w' S2 m hle hat=>⟨S2,hle,hat.nilRow _ _⟩⟩
 · cases hv
   have hA: ∀ k,A k↔k=g:=fun k=>by rw [hF k];simp [Value.ownBlock,eq_comm]
   have hgn:S.blk g=none:=by
    cases hS:S.blk g with
    |none=>rfl
    | some o=>
      have:A' g:=(hA' g).2 (by rw [hS];rfl)
      exact(dj g ((hA g).2 rfl) ((e' g).2 (.inl this))).elim
   have hext: ∀ k o,S.blk k=some o→(if k=g then some (.cells cur E fz) else S.blk k)=some o:=fun k o ho=>by
    have:k≠g:=fun hk=>by subst hk;rw [hgn] at ho;cases ho
    simp only [this,if_false];exact ho
   refine⟨S.re S (fun k=>if k=g then some (.cells cur E fz) else S.blk k) rfl rfl rfl hext,⟨rfl,rfl,rfl,hext⟩,⟨F,fun k=>A k∨A' k,B',fun k=>by rw [e k,e' k,or_assoc],?_,⟨fun k=> ?_,h1,h2,h3,fun k o ho=> ?_⟩,hl⟩,fun w' hw'=> ?_,fun w' S2 m hle hat=> ?_⟩
   · rintro k (hk|hk) hB
     · exact dj k hk ((e' k).2 (.inr hB))
     · exact dj' k hk hB
   · show(A k∨A' k)↔(if k=g then some (.cells cur E fz) else S.blk k).isSome=true
     rw [hA k,hA' k]
     by_cases hk:k=g<;>simp [hk]
   · have ho:(if k=g then some (.cells cur E fz) else S.blk k)=some o:=ho
     by_cases hk:k=g
     · subst hk;simp only [if_true,jr] at ho;subst ho;exact hg
     · simp only [hk,if_false] at ho;exact h4 k o ho
   · have hgw:w'.heap[g]? =some (.cells cur E fz):=hw'.2.2.2 g _ (by simp [Frz.re])
     exact Owns.rd ⟨hlen,.inr ⟨g,cap,cur,fz,rfl,hgw,hfree,hnc,hcm,hcs,ht⟩⟩
   · obtain⟨F2,A2,B2,e2,d2,⟨hA2,i1,i2,i3,i4⟩,hm⟩:=hat
     have hS2:S2.blk g=some (.cells cur E fz):=hle.2.2.2 g _ (by simp [Frz.re])
     have hgw:w'.heap[g]? =some (.cells cur E fz):=i4 g _ hS2
     have hshr: ∀ k o,S.blk k=some o→(if k=g then none else S2.blk k)=some o:=fun k o ho=>by
      have hk:k≠g:=fun hk=>by subst hk;rw [hgn] at ho;cases ho
      have:=hle.2.2.2 k o (by simp only [Frz.re,hk,if_false];exact ho)
      simp only [hk,if_false];exact this
     refine⟨S.re S2 (fun k=>if k=g then none else S2.blk k) hle.1 hle.2.1 hle.2.2.1 hshr,⟨hle.1,hle.2.1,hle.2.2.1,hshr⟩,F2,A,fun k=>(A2 k∧k≠g)∨B2 k,fun k=> ?_,fun k hk=> ?_,⟨hF,hlen,.inr ⟨g,cap,cur,fz,rfl,hgw,hfree,hnc,hcm,hcs,ht⟩⟩,fun k=>A2 k∧k≠g,B2,fun _=>Iff.rfl,fun k hk=>d2 k hk.1,⟨fun k=> ?_,i1,i2,i3,fun k o ho=> ?_⟩,hm⟩
     · rw [e2 k,hA k]
       by_cases hk:k=g
       · subst hk
         have:A2 k:=(hA2 k).2 (by rw [hS2];rfl)
         simp [this]
       · simp [hk]
     · have hk:=(hA k).1 hk
       subst hk
       rintro(h|h)
       · exact h.2 rfl
       · exact d2 k ((hA2 k).2 (by rw [hS2];rfl)) h
     · show(A2 k∧k≠g)↔(if k=g then none else S2.blk k).isSome=true
       by_cases hk:k=g
       · simp [hk]
       · simp [hk,hA2 k]
     · have ho:(if k=g then none else S2.blk k)=some o:=ho
       by_cases hk:k=g
       · simp [hk] at ho
       · simp only [hk,if_false] at ho;exact i4 k o ho
theorem Spc.zmk {Pr:Program} {f:Nat} {args args1:List D} {hp hp1 hp':List HO} {out:AOut} {k:Nat} {u:U} {E:Nat} {l:List u.den} (h:Spc Pr f args1 hp1 out hp')
  (hk:hp[k]? =some (.row u E l)) (ha:args.map (D.frz alg k u l)=args1) (hh:setN (hp.map (HO.frz alg k u l)) k .gone=hp1) (ho:noLA out=true) (hp0:zaz hp'=true):
  Spc Pr f args hp out (setN hp' k (.row u E l)):=by
 refine⟨h.1,fun S K fr w vs hHR hargs hat=> ?_⟩;obtain⟨c,hc,hr⟩:=hHR.get hk
 cases hr with
 | @row _ _ _ _ ao cap ws hlen hx=>
   have hbk:=zS hc;obtain⟨p,r,hp1',hp2,hp3⟩:=yM hc;have H:=hat;rw [hp1',zA] at H;have H:=H.perm (zK _ _ _ _ _);obtain⟨S1,hle,hat1,hrd,hback⟩:=At.lend H
   have hf: ∀ c v,MC S (K.map CO.base) c v→MC S1 (K.map CO.base) (c.frz alg k u l) v:=fun c v hm=>
    C.xZ (by rw [hbk];rfl) hlen (fun i x j p v a b c=>(hx i x j p v a b c).mono hle) hrd (hm.mono hle (Ext.refl _))
   have hbs:(K.set k (.gone (.slice ao l.length cap))).map CO.base=K.map CO.base:=yw hc rfl
   have hHR1:HR S1 (K.map CO.base) hp1 (K.set k (.gone (.slice ao l.length cap))):=by
    rw [← hh,yE]
    refine HR.set ⟨by simp [hHR.1],fun i o' c' e1 e2=> ?_⟩ k .gone
    rw [List.getElem?_map,Option.map_eq_some_iff] at e1;obtain⟨o0,e3,rfl⟩:=e1;have:=hHR.2 i o0 c' e3 e2
    cases this with
    |obj hm=>exact .obj (hm.map hf)
    |row a b=>exact .row a fun i x j p v q1 q2 q3=>(b i x j p v q1 q2 q3).mono hle
    |pack a b=>exact .pack a fun i o c q1 q2=>(b i o c q1 q2).mono hle (Ext.refl _)
    |abs a b=>exact .abs a fun i o c q1 q2=>(b i o c q1 q2).mono hle (Ext.refl _)
    |rws a b c d e=>exact .rws a b c (fun i x j p v q1 q2 q3 q4=>(d i x j p v q1 q2 q3 q4).mono hle) e
    |gone=>exact .gone
   have hargs1:MDs S1 (K.map CO.base) args1 vs:=by
    rw [← ha];clear h hHR hHR1 hp2 hp3 ha
    induction args generalizing vs with
    |nil=>cases vs with|nil=>trivial|cons _ _=>exact hargs.elim
    |cons d ds ih=>cases vs with|nil=>exact hargs.elim|cons v vs=>exact⟨D.xZ hf hargs.1,ih vs hargs.2⟩
   have hat2:At w (frzC S1::(CO.zl (K.set k (.gone (.slice ao l.length cap)))++fr)):=by
    rw [hp3,zA];exact(At.void hat1).perm (zK _ _ _ _ _).symm
   refine(h.2 S1 _ fr w vs (by rw [hbs];exact hHR1) (by rw [hbs];exact hargs1) hat2).mono fun e w' he=> ?_
   obtain⟨S2,K2,hle2,hex,hHR2,hat3,heo⟩:=he;rw [hbs] at hex;obtain⟨S3,hle3,hat4⟩:=hback w' S2 _ hle2 hat3;have hb2:=hex k _ hbk
   have hk2:k<K2.length:=by simpa using (jh.1 hb2).1
   have hbs2:(K2.set k (.row E u.size ao l.length cap ws)).map CO.base=K2.map CO.base:=zad hb2
   refine⟨S3,K2.set k (.row E u.size ao l.length cap ws),hle3,by rw [hbs2];exact hex,?_,?_,by rw [hbs2];exact heo.noL ho⟩
   · rw [hbs2,yE]
     exact HR.set ⟨hHR2.1,fun i o c e1 e2=>(hHR2.2 i o c e1 e2).noL (VH hp0 e1)⟩ k (.row hlen fun i x j p v a b c=>(hx i x j p v a b c).mono hle3)
   · refine At.put hk2 (fr:=fr) (hat4.perm ?_)
     exact(List.Perm.swap _ _ _).trans (List.Perm.cons _ List.perm_middle.symm)
theorem Spc.lend {Pr:Program} {f:Nat} {args args0:List D} {hp0 hp1:List HO} {out0:AOut} (h:Spc Pr f args0 hp0 out0 hp1) (u:U) (E:Nat) (l:List u.den) {os hpr:List HO}
  (hh:(hp0++[HO.row u E l]).map (HO.frz alg hp0.length u l)=hp0++[.row u E l]) (ht:uh (upto 0 hp0.length) (hp0++[.gone])=some (os,hpr)) (hos:os.map (HO.ren fun q=>idx q (upto 0 hp0.length) 0)=hp0)
  (ha:(args.map (D.frz alg hp0.length u l)).map (D.ren fun q=>idx q (upto 0 hp0.length) 0)=args0)
  (ho:noLA (out0.ren (XB (upto 0 hp0.length) (hp0++[HO.gone]).length))=true) (hn:zaz (sU (XB (upto 0 hp0.length) (hp0++[HO.gone]).length) (upto 0 hp0.length) hp1 hpr)=true):
  Spc Pr f args (hp0++[.row u E l]) (out0.ren (XB (upto 0 hp0.length) (hp0++[HO.gone]).length)) (setN (sU (XB (upto 0 hp0.length) (hp0++[HO.gone]).length) (upto 0 hp0.length) hp1 hpr) hp0.length (.row u E l)):=
 (h.frame (upto 0 hp0.length) ht hos ha).zmk (by simp) rfl (by rw [hh,yE];simp) ho hn
end Go.Ab
namespace Go.Ab
open Go Go.Sep
variable [Facts]
theorem zI {α:Type} (x:α):alg.hid x=x:=rfl
theorem ziA (k:IntKind) (x y:Int):alg.shl k x y=k.wrap (x * 2 ^ (min y.toNat k.bits)):=rfl
theorem ziz (x y:Int):alg.shr x y=x.fdiv (2 ^ (min y.toNat 64)):=rfl
theorem zeG (op:BinOp) (k:IntKind) (x y:Int):alg.bits op k x y=k.wrap (match op with
 |.and=>(BitVec.ofInt k.bits x&&& BitVec.ofInt k.bits y).toNat
 |.or=>(BitVec.ofInt k.bits x|||BitVec.ofInt k.bits y).toNat
 |_=>(BitVec.ofInt k.bits x ^^^ BitVec.ofInt k.bits y).toNat:Nat):=rfl
theorem zhf:IntKind.i64.min= -9223372036854775808:=by decide
theorem zhg:IntKind.i64.max=9223372036854775807:=by decide
theorem zj0:IntKind.u8.min=0:=by decide
theorem zj1:IntKind.u8.max=255:=by decide
theorem zay (c:UInt8):UInt8.ofNat ((c.toNat:Int)).toNat=c:=by simp
theorem tH (c d:UInt8):((c.toNat:Int)=(d.toNat:Int))↔c=d:=by
 constructor
 · intro h;exact UInt8.toNat_inj.1 (by omega)
 · intro h;rw [h]
mutual
def Ql {α:Type}:HO→(HO→α)→α
 |.pack l,k=>Xq l fun l=>k (.pack l)
 |.obj t cs,k=>Xr cs fun cs=>k (.obj t cs)
 |.row u E l,k=>k (.row u E l)
 |.abs g,k=>k (.abs g)
 |.rws u E Eb l h,k=>(match h with|none=>k (.rws u E Eb l none)|some (i,m)=>k (.rws u E Eb l (some (i,m))))
 |.gone,k=>k .gone
def Xq {α:Type}:List HO→(List HO→α)→α
 |[],k=>k []
 |o::os,k=>Ql o fun o=>Xq os fun os=>k (o::os)
end
mutual
theorem zfn {α:Type}: ∀ (o:HO) (k:HO→α),Ql o k=k o
 |.pack l,k=>by rw [Ql,Xp l]
 |.obj t cs,k=>by rw [Ql,Ze]
 |.row u E l,k=>rfl
 |.abs g,k=>rfl
 |.rws u E Eb l h,k=>by cases h<;>rfl
 |.gone,k=>rfl
theorem Xp {α:Type}: ∀ (l:List HO) (k:List HO→α),Xq l k=k l
 |[],k=>rfl
 |o::os,k=>by rw [Xq,zfn o,Xp os]
end
def WO {α:Type} (o:AOut) (k:AOut→α):α:=match o with
 |.ret d=>zd3 d fun d=>k (.ret d)
 |.pan c=>zd4 c fun c=>k (.pan c)
theorem zcm {α:Type} (o:AOut) (k:AOut→α):WO o k=k o:=by
 cases o<;>simp only [WO,za8,V6]
def za6 {α:Type} (st:St) (k:St→α):α:=za7 st.env fun e=>Xq st.hp fun h=>TS st.n fun n=>match st.df with|none=>k ⟨e,h,n,none⟩|some (g,cs)=>k ⟨e,h,n,some (g,cs)⟩
theorem zhp {α:Type} (st:St) (k:St→α):za6 st k=k st:=by
 unfold za6;rw [V5,Xp];unfold TS;obtain⟨e,h,n,df⟩:=st
 cases n<;>(cases df<;>rfl)
structure CR where
 need:Prop
 out:AOut
 hp:List HO
inductive CT where
 |one (r:CR)
 |br (b:Bool) (t f:CT)
def CT.Good (Pr:Program) (f:Nat) (args:List D) (hp:List HO):CT→Prop
 |.one r=>r.need→Spc Pr f args hp r.out r.hp
 |.br b t e=>(b=true→t.Good Pr f args hp)∧(b=false→e.Good Pr f args hp)
def CT.map (g:CR→CR):CT→CT
 |.one r=>.one (g r)
 |.br b t e=>.br b (t.map g) (e.map g)
def CT.mapO (g:CR→Option CR):CT→Option CT
 |.one r=>match g r with|some r=>some (.one r)|none=>none
 |.br b t e=>match t.mapO g,e.mapO g with|some t,some e=>some (.br b t e)|_,_=>none
def CT.tree (k:CR→Tree):CT→Tree
 |.one r=>k r
 |.br b t e=>.br b (t.tree k) (e.tree k)
theorem CT.Good.map {Pr:Program} {f f':Nat} {args args':List D} {hp hp':List HO} {g:CR→CR} (h: ∀ r:CR,(r.need→Spc Pr f args hp r.out r.hp)→(g r).need→Spc Pr f' args' hp' (g r).out (g r).hp): ∀ {c:CT},c.Good Pr f args hp→(c.map g).Good Pr f' args' hp'
 |.one r,hc=>h r hc
 |.br _ _ _,hc=>⟨fun e=>CT.Good.map h (hc.1 e),fun e=>CT.Good.map h (hc.2 e)⟩
theorem CT.Good.mapO {Pr:Program} {f f':Nat} {args args':List D} {hp hp':List HO} {g:CR→Option CR} (h: ∀ r r':CR,g r=some r'→(r.need→Spc Pr f args hp r.out r.hp)→r'.need→Spc Pr f' args' hp' r'.out r'.hp): ∀ {c c':CT},c.mapO g=some c'→c.Good Pr f args hp→c'.Good Pr f' args' hp'
 | .one r,c',e,hc=>by
   simp only [CT.mapO] at e
   split at e
   · rename_i r' hr;cases e;exact h r r' hr hc
   · cases e
 | .br b t f,c',e,hc=>by
   simp only [CT.mapO] at e
   split at e
   · rename_i t' f' ht hf;cases e;exact⟨fun e=>CT.Good.mapO h ht (hc.1 e),fun e=>CT.Good.mapO h hf (hc.2 e)⟩
   · cases e
abbrev KU:=List D→List HO→Option CT
structure Know (Pr:Program) where
 f:Nat
 c:Alg→List D→List HO→Option CT
 ok: ∀ args hp r,c alg args hp=some r→r.Good Pr f args hp
def zj5:List D→List Nat
 |[]=>[]
 |d::ds=>ziY d++zj5 ds
def Ru (hp:List HO) (args:List D):List Nat:=gather hp 60 (zj5 args) []
def frameC (c:List D→List HO→Option CT) (args:List D) (hp:List HO):Option CT:=
 match uh (Ru hp args) hp with
 |none=>none
 | some (os,hpr)=>match c (args.map (D.ren fun q=>idx q (Ru hp args) 0)) (os.map (HO.ren fun q=>idx q (Ru hp args) 0)) with
   |none=>none
   |some r=>some (r.map fun r=>match r with|⟨p,o,h⟩=>⟨p,o.ren (XB (Ru hp args) hp.length),sU (XB (Ru hp args) hp.length) (Ru hp args) h hpr⟩)
def VL (I:Alg) (c:List D→List HO→Option CT):Nat→List D→List HO→Option CT
 |0,args,hp=>frameC c args hp
 | n + 1,args,hp=>match nth hp n with
   | some (.row u E l)=>(match VL I c n (args.map (D.frz I n u l)) (setN (hp.map (HO.frz I n u l)) n .gone) with
     | some r=>r.mapO fun r=>(match noLA r.out,zaz r.hp with
       |true,true=>some ⟨r.need,r.out,setN r.hp n (.row u E l)⟩
       |_,_=>none)
     |none=>none)
   |_=>VL I c n args hp
def zT (I:Alg) (c:List D→List HO→Option CT) (args:List D) (hp:List HO):Option CT:=VL I c hp.length args hp
def ask {Pr:Program} (I:Alg):List (Know Pr)→Nat→List D→List HO→Option CT
 |[],_,_,_=>none
 | k::r,f,args,hp=>match Nat.beq k.f f with
   |true=>(match frameC (k.c I) args hp with|some x=>some x|none=>ask I r f args hp)
   |false=>ask I r f args hp
def drive (q:Nat→List D→List HO→Option CT):Tree→Tree
 |.need p t=>.need p (drive q t)
 |.br b t f=>.br b (drive q t) (drive q f)
 | .call f args hp k=>TV hp fun hp=>match q f args hp with
   |some r=>r.tree fun r=>match r with|⟨p,o,h⟩=>.need p (WO o fun o=>TV h fun h=>drive q (k o h))
   |none=>.call f args hp fun o h=>drive q (k o h)
 |.code c st k=>.code c st k
 |.fin o hp=>.fin o hp
 |.both t f=>.both (drive q t) (drive q f)
 |.qed=>.qed
 |.stop n=>.stop n
def zO (Pr:Program) (f:Nat) (c:List D→List HO→Option CT):Prop:=∀ args hp r,c args hp=some r→r.Good Pr f args hp
section
variable {Pr:Program} {T:Tab} {X:Ctx} {G:AOut→List HO→Prop} {a:Act} {w:World}
theorem VZ {f:Nat} {c:List D→List HO→Option CT} (h:zO Pr f c):zO Pr f (frameC c):=by
 intro args hp r hr;unfold frameC at hr
 split at hr
 · cases hr
 · rename_i os hpr ht
   split at hr
   · cases hr
   · rename_i r0 hc
     cases hr;exact CT.Good.map (g:=fun r=>⟨r.need,r.out.ren (XB (Ru hp args) hp.length),sU (XB (Ru hp args) hp.length) (Ru hp args) r.hp hpr⟩) (fun r hs hn=>(hs hn).frame _ ht rfl rfl) (h _ _ _ hc)
theorem qA {f:Nat} {c:List D→List HO→Option CT} (h:zO Pr f c): ∀ n,zO Pr f (VL alg c n)
 |0=>VZ h
 | n + 1 =>by
   intro args hp r hr;unfold VL at hr
   split at hr
   · rename_i u E l ho
     rw [yc] at ho
     split at hr
     · rename_i r0 hc
       refine CT.Good.mapO (fun r r' hrr hs hn=> ?_) hr (qA h n _ _ _ hc)
       split at hrr
       · rename_i h1 h2
         cases hrr;exact Spc.zmk (hs hn) ho rfl rfl h1 h2
       · cases hrr
     · cases hr
   · exact qA h n _ _ _ hr
theorem zi {f:Nat} {c:List D→List HO→Option CT} (h:zO Pr f c):zO Pr f (zT alg c):=fun args hp=>qA h hp.length args hp
theorem rO: ∀ {kn:List (Know Pr)} {f:Nat},zO Pr f (ask alg kn f)
 |[],f=>fun args hp r hr=>by cases hr
 | k ::r,f=>fun args hp x hr=>by
   unfold ask at hr
   split at hr
   · rename_i hb
     obtain rfl:=jH hb
     split at hr
     · rename_i y hy;cases hr;exact VZ k.ok args hp _ hy
     · exact rO args hp x hr
   · exact rO args hp x hr
theorem CT.xI {f:Nat} {args:List D} {hp:List HO} {k:AOut→List HO→Tree} {k':AOut→List HO→Tree} (ih: ∀ o h,(k' o h).ok Pr X G→(k o h).ok Pr X G): ∀ {c:CT},c.Good Pr f args hp→(c.tree fun r=>.need r.need (k' r.out r.hp)).ok Pr X G→∃ out hp',Spc Pr f args hp out hp'∧(k out hp').ok Pr X G
 |.one r,hc,h=>⟨r.out,r.hp,hc h.1,ih _ _ h.2⟩
 | .br b t e,hc,h=>by
   cases b with
   |true=>exact CT.xI ih (hc.1 rfl) (h.1 rfl)
   |false=>exact CT.xI ih (hc.2 rfl) (h.2 rfl)
theorem YW {q:Nat→List D→List HO→Option CT} (hq: ∀ f,zO Pr f (q f)): ∀ {t:Tree},(drive q t).ok Pr X G→t.ok Pr X G:=by
 intro t
 induction t with
 |need p t ih=>exact fun h=>⟨h.1,ih h.2⟩
 |br b t f ih1 ih2=>exact fun h=>⟨fun e=>ih1 (h.1 e),fun e=>ih2 (h.2 e)⟩
 | call f args hp k ih=>
   intro h;simp only [drive,V4,zcm] at h
   split at h
   · rename_i r hr;exact CT.xI (k':=fun o h=>drive q (k o h)) (fun o h=>ih o h) (hq f args hp r hr) h
   · obtain⟨o,hp',h1,h2⟩:=h;exact⟨o,hp',h1,ih _ _ h2⟩
 |code c st k ih=>exact fun h=>h
 |fin o hp=>exact fun h=>h
 |both t f ih1 ih2=>exact fun h=>⟨ih1 h.1,ih2 h.2⟩
 |qed=>exact fun h=>h
 |stop n=>exact fun h=>h
structure Rt where
 B:Code
 K:AEx→St→Tree
def rY (fn:Func):Code:=match fn.body with|some c=>c|none=>.skip
def loopBody:Code→Code
 |.loop b=>b
 |c=>c
def cAt:List Nat→Code→Code
 |[],c=>c
 | n::p,c=>match c with
   |.seq a b=>(match n with|0=>cAt p a|_=>cAt p b)
   |.cond _ t e=>(match n with|0=>cAt p t|_=>cAt p e)
   |.block _ b=>cAt p b
   |c=>c
def kAt (I:Alg) (T:Tab) (cfg:Cfg):List Nat→Code→(AEx→St→Tree)→AEx→St→Tree
 |[],_,K=>K
 | n ::p,c,K=>match c with
   |.seq a b=>(match n with|0=>kAt I T cfg p a (fun e st=>match e with|.normal=>vc I T cfg b K st|e=>K e st)|_=>kAt I T cfg p b K)
   |.cond _ t e=>(match n with|0=>kAt I T cfg p t K|_=>kAt I T cfg p e K)
   | .block id b=>kAt I T cfg p b (fun e st=>match e with
     |.exit j=>(match Nat.beq j id with|true=>K .normal st|false=>K (.exit j) st)
     |e=>K e st)
   |_=>K
def rtAt:Nat→List Rt→Rt
 |_,[]=>⟨.skip,fun _ _=>.stop 50⟩
 |0,r::_=>r
 |n+1,_::l=>rtAt n l
def leaf (I:Alg) (T:Tab) (cfg:Cfg) (R:List Rt) (i:Nat) (p:List Nat) (st:St):Tree:=
 .code (cAt p (rtAt i R).B) st (kAt I T cfg p (rtAt i R).B (rtAt i R).K)
def zmr (I:Alg) (T:Tab) (cfg:Cfg) (c:Code) (K:AEx→St→Tree) (st:St):Tree:=
 match c with
 |.region _ ops draw=>regT I T cfg ops draw K (st.tidy cfg.keep)
 |c=>vc I T cfg c K st
def go (I:Alg) (T:Tab) (cfg:Cfg) (kn:List (Know Pr)) (R:List Rt) (i:Nat) (p:List Nat) (st:St):Tree:=
 drive (ask I kn) (zmr I T cfg (cAt p (rtAt i R).B) (kAt I T cfg p (rtAt i R).B (rtAt i R).K) st)
def cutM (cfg:Cfg) (k0:Nat) (dom:List Nat) (st:St):Option St:=St.cut cfg.fsl k0 dom (ZG cfg.mv st)
def zlP (cfg:Cfg) (k0:Nat) (dom:List Nat) (A:St→Prop) (k:AEx→St→Tree):AEx→St→Tree:=fun e st=>
 match e with
 |.normal=>(match cutM cfg k0 dom st with|some s=>za6 s fun s=>.need (A s) .qed|none=>.stop 19)
 |e=>k e st
def round (I:Alg) (T:Tab) (cfg:Cfg) (k0:Nat) (dom:List Nat) (A:St→Prop) (R:List Rt) (i:Nat) (p:List Nat):Rt:=
 ⟨loopBody (cAt p (rtAt i R).B),zlP cfg k0 dom A (kAt I T cfg p (rtAt i R).B (rtAt i R).K)⟩
inductive PT where
 |need (p:Prop) (t:PT)
 |br (b:Bool) (t f:PT)
 |code (i:Nat) (p:List Nat) (st:St)
 |fin (o:AOut) (hp:List HO)
 |both (t f:PT)
 |qed
 |stop (n:Nat)
def PT.inst (I:Alg) (T:Tab) (cfg:Cfg) (R:List Rt):PT→Tree
 |.need p t=>.need p (t.inst I T cfg R)
 |.br b t f=>.br b (t.inst I T cfg R) (f.inst I T cfg R)
 |.code i p st=>leaf I T cfg R i p st
 |.fin o hp=>.fin o hp
 |.both t f=>.both (t.inst I T cfg R) (f.inst I T cfg R)
 |.qed=>.qed
 |.stop n=>.stop n
theorem zaP {I:Alg} {cfg:Cfg} {R:List Rt} {p:Prop} {t:PT}:Ok Pr X G (PT.inst I T cfg R (.need p t))↔p∧Ok Pr X G (t.inst I T cfg R):=zkX
theorem zhb {I:Alg} {cfg:Cfg} {R:List Rt} {b:Bool} {t f:PT}:Ok Pr X G (PT.inst I T cfg R (.br b t f))↔(b=true→Ok Pr X G (t.inst I T cfg R))∧(b=false→Ok Pr X G (f.inst I T cfg R)):=zmS
theorem zaR {I:Alg} {cfg:Cfg} {R:List Rt} {t f:PT}:Ok Pr X G (PT.inst I T cfg R (.both t f))↔Ok Pr X G (t.inst I T cfg R)∧Ok Pr X G (f.inst I T cfg R):=zkY
theorem zdV {I:Alg} {cfg:Cfg} {R:List Rt} {o:AOut} {hp:List HO}:Ok Pr X G (PT.inst I T cfg R (.fin o hp))↔G o hp:=zma
theorem zdU {I:Alg} {cfg:Cfg} {R:List Rt}:Ok Pr X G (PT.inst I T cfg R .qed)↔True:=zl9
theorem zaO {I:Alg} {cfg:Cfg} {R:List Rt} {n:Nat}:Ok Pr X G (PT.inst I T cfg R (.stop n))↔False:=zkW
theorem zaQ {I:Alg} {cfg:Cfg} {R:List Rt} {i:Nat} {p:List Nat} {st:St}:Ok Pr X G (PT.inst I T cfg R (.code i p st))↔Ok Pr X G (leaf I T cfg R i p st):=Iff.rfl
def YG (cfg:Cfg):Code→Bool
 |.region id _ _=>memN id cfg.seam
 |_=>false
theorem spcG {P:Program} {T:Tab} (hT:T.fits P) (hm:P.follows .mixedOrders=true) {f:Nat} {fn:Func} (hf:P.funcs[f]? =some fn) (hn:(fn.name == "runtime.NumGoroutine")=false) (cfg:Cfg) (kn:List (Know P)) {args:List D} {hp:List HO} {out:AOut} {hp':List HO}
  (hb:(fn.body.isSome&& !YG cfg (rY fn)&&Nat.ble args.length fn.ntmps)=true)
  (h: ∀ (I:Alg) (X:Ctx),I=alg→X.bs0.length=hp.length→Ok P X (fun o h=>o=out∧h=hp') (go I T cfg kn [⟨rY fn,finK I T cfg hp.length fn⟩] 0 [] { env:=UI 0 args,hp:=hp,n:=fn.ntmps})):Spc P f args hp out hp':=by
 simp only [jJ,Bool.not_eq_true'] at hb;refine zeS hT hm hf hn (cfg:=cfg) hb.1.1 hb.2 fun I X hI hX=> ?_;subst hI;have h1:=(h alg X rfl hX).out;have h2:=YW (fun f=>rO) h1;have hs:=hb.1.2;unfold funT;unfold rY at h2 hs
 cases hbd:fn.body with
 |none=>rw [hbd] at hb;cases hb.1.1
 | some c=>
   rw [hbd] at h2 hs;simp only [rtAt,cAt,kAt] at h2;simp only at hs ⊢
   cases c<;>first|exact h2|skip
   simp only [YG] at hs;simp only [vc,hs];exact h2
theorem rf (hT:T.fits Pr) (hm:Pr.follows .mixedOrders=true) {cfg:Cfg} {c:Code} {K:AEx→St→Tree} {st:St} (h:(zmr alg T cfg c K st).ok Pr X G) (hn:Now X st a w):c.wp Pr (Post X fun e st'=>(K e st').ok Pr X G) a w:=by
 cases c with
 |region id ops draw=>exact UZ hT hm h (hn.tidy cfg.keep)
 |_=>exact zcV hT hm (cfg:=cfg) h hn
theorem Xz {cfg:Cfg} {k0:Nat} (hk:X.bs0.length=k0) {dom:List Nat} {st s:St} (hc:cutM cfg k0 dom st=some s) (hn:Now X st a w):Now X s a w:=by
 obtain⟨S,K,hH,hE⟩:=hn;obtain⟨K',h1,h2⟩:=sZ cfg.mv hH hE;exact zib hk hc ⟨S,K',h1,h2⟩
theorem zdM {I:Alg} (hI:I=alg) (hT:T.fits Pr) (hm:Pr.follows .mixedOrders=true) {cfg:Cfg} (kn:List (Know Pr)) {R:List Rt} {i:Nat} {p:List Nat} {st:St} {k0:Nat} (hk:X.bs0.length=k0) (dom:List Nat) {ι:Type} (Inv:ι→Prop) (Iv:ι→St) (μ:ι→Nat) (g0:ι)
  (hc:(match cAt p (rtAt i R).B with|.loop b=> !YG cfg b|_=>false)=true) (h0:cutM cfg k0 dom st=some (Iv g0)) (hg0:Inv g0)
  (hr: ∀ (g:ι),Inv g→∀ (A:St→Prop),(∀ g',Inv g'→μ g'<μ g→A (Iv g'))→Ok Pr X G (go I T cfg kn (round I T cfg k0 dom A R i p::R) 0 [] (Iv g))):Ok Pr X G (leaf I T cfg R i p st):=by
 subst hI;constructor;unfold leaf;intro S K a w hH hE
 obtain⟨b,hb⟩: ∃ b,cAt p (rtAt i R).B=.loop b:=by
  cases h:cAt p (rtAt i R).B<;>rw [h] at hc<;>first|exact⟨_,rfl⟩|cases hc
 rw [hb];refine wp_loop_ghost (fun n a w=>∃ g,Inv g∧μ g=n∧Now X (Iv g) a w) (μ g0) ⟨g0,hg0,rfl,Xz hk h0 ⟨S,K,hH,hE⟩⟩ ?_;rintro n a w ⟨g,hg,rfl,hn⟩;have h1:=(hr g hg (fun s=>∃ g',Inv g'∧μ g'<μ g∧s=Iv g') (fun g' hi hl=>⟨g',hi,hl,rfl⟩)).out;have h2:=YW (fun f=>rO) h1;simp only [rtAt,cAt,kAt,round,hb,loopBody] at h2;refine wp_mono (rf hT hm h2 hn) fun e a' w' hq=> ?_;obtain⟨e',st',h1,S',K',hH',hE',hem⟩:=hq;generalize kAt alg T cfg p (rtAt i R).B (rtAt i R).K=k at h1;have keep: ∀ {e:Exit} {e':AEx},(∀ (h:e'=.normal),False)→EM S' (K'.map CO.base) e e'→(k e' st').ok Pr X G→Post X (fun e st'=>(k e st').ok Pr X G) e a' w':=fun {e e'} _ hem h=>⟨e',st',h,S',K',hH',hE',hem⟩
 cases e' with
 | normal=>
   cases e with
   | normal=>
     have h1:((match cutM cfg k0 dom st' with|some s=>za6 s fun s=>Tree.need (∃ g',Inv g'∧μ g'<μ g∧s=Iv g') .qed|none=>.stop 19):Tree).ok Pr X G:=h1
     split at h1
     · rename_i s hs
       rw [zhp] at h1;obtain⟨⟨g',hi,hlt,rfl⟩,_⟩:=h1;exact⟨μ g',hlt,g',hi,rfl,Xz hk hs ⟨S',K',hH',hE'⟩⟩
     · exact h1.elim
   |exit i=>exact hem.elim
   |goto l=>exact hem.elim
   |ret=>exact hem.elim
   |panic ch=>exact hem.elim
   |outgrown=>exact hem.elim
 | exit j=>cases e with
   |exit i=>exact keep (fun h=>by cases h) hem h1
   |normal=>exact hem.elim
   |goto l=>exact hem.elim
   |ret=>exact hem.elim
   |panic ch=>exact hem.elim
   |outgrown=>exact hem.elim
 | ret=>cases e with
   |ret=>exact keep (fun h=>by cases h) hem h1
   |normal=>exact hem.elim
   |goto l=>exact hem.elim
   |exit j=>exact hem.elim
   |panic ch=>exact hem.elim
   |outgrown=>exact hem.elim
 | pan c=>cases e with
   |panic ch=>exact keep (fun h=>by cases h) hem h1
   |normal=>exact hem.elim
   |goto l=>exact hem.elim
   |exit j=>exact hem.elim
   |ret=>exact hem.elim
   |outgrown=>exact hem.elim
theorem seam {I:Alg} (hI:I=alg) (hT:T.fits Pr) (hm:Pr.follows .mixedOrders=true) {cfg:Cfg} (kn:List (Know Pr)) {R:List Rt} {i:Nat} {p:List Nat} {st:St} {k0:Nat} (hk:X.bs0.length=k0) (dom:List Nat) (st1:St)
  (h0:cutM cfg k0 dom st=some st1) (hr:Ok Pr X G (go I T cfg kn R i p st1)):Ok Pr X G (leaf I T cfg R i p st):=by
 subst hI;constructor;intro S K a w hH hE;exact rf hT hm (YW (fun f=>rO) hr.out) (Xz hk h0 ⟨S,K,hH,hE⟩)
end
section
def rgOf:Code→Option Nat
 |.region id _ _=>some id
 |.seq a b=>match rgOf a with|some r=>some r|none=>rgOf b
 |.cond _ a b=>match rgOf a with|some r=>some r|none=>rgOf b
 |.block _ b=>rgOf b
 |.loop b=>rgOf b
 |_=>none
def isLp:Code→Bool
 |.loop _=>true
 |_=>false
def fndC (lp:Bool) (r:Nat):Code→Option (List Nat)
 |.region id _ _=>match lp,Nat.beq id r with|false,true=>some []|_,_=>none
 |.seq a b=>match fndC lp r a with|some p=>some (0::p)|none=>match fndC lp r b with|some p=>some (1::p)|none=>none
 |.cond _ a b=>match fndC lp r a with|some p=>some (0::p)|none=>match fndC lp r b with|some p=>some (1::p)|none=>none
 |.block _ b=>match fndC lp r b with|some p=>some (0::p)|none=>none
 |.loop b=>match lp,rgOf b with|true,some s=>(match Nat.beq s r with|true=>some []|false=>none)|_,_=>none
 |_=>none
def fndR (lp:Bool) (r:Nat):Nat→List Rt→Option (Nat × List Nat)
 |_,[]=>none
 |i,x::l=>match fndC lp r x.B with|some p=>some (i,p)|none=>fndR lp r (i+1) l
def wrt (R:List Rt):Tree→(PT→Value)→Value
 |.need p t,k=>wrt R t fun t=>k (.need p t)
 |.br b t f,k=>wrt R t fun t=>wrt R f fun f=>k (.br b t f)
 |.call ..,k=>k (.stop 77)
 | .code c st _,k=>match rgOf c with
   | some r=>(match fndR (isLp c) r 0 R with
     |some (i,p)=>za6 st fun st=>k (.code i p st)
     |none=>k (.stop 78))
   |none=>k (.stop 79)
 |.fin o hp,k=>WO o fun o=>Xq hp fun hp=>k (.fin o hp)
 |.both t f,k=>wrt R t fun t=>wrt R f fun f=>k (.both t f)
 |.qed,k=>k .qed
 |.stop n,k=>k (.stop n)
def sink (_:PT):Int:=0
def PQ:Program:= { (default:Program) with types:= #[{ (default:TypeInfo) with desc:=.pointer 0,methods:= #[{ name:= "",sig:=0,path:= #[],func:=some (0,true)}]}]}
def Look (_:Result (Nat × Value)):Prop:=True
variable {Pr:Program} {T:Tab} {X:Ctx} {G:AOut→List HO→Prop}
theorem orcL {I:Alg} {cfg:Cfg} {kn:List (Know Pr)} {R:List Rt} {i:Nat} {p:List Nat} {st:St}
 (h:Look (Sem.run PQ (Go.method 1 0 (wrt R (go I T cfg kn R i p st) fun t=>.int .i64 (sink t)) "") default)→Ok Pr X G (go I T cfg kn R i p st)):Ok Pr X G (go I T cfg kn R i p st):=h trivial
theorem orcS {I:Alg} {cfg:Cfg} {kn:List (Know Pr)} {R:List Rt} {i:Nat} {p:List Nat} {st:St} {pt:PT} {w:World}
 (h:go I T cfg kn R i p st=pt.inst I T cfg R) (k:Ok Pr X G (pt.inst I T cfg R)):Look (.ok (0,.int .i64 (sink pt)) w)→Ok Pr X G (go I T cfg kn R i p st):=fun _=>h▸k
end
inductive AM where
 |ret
 |pan (c:C)
def MAM (S:Frz) (bs:List Value):AM→FrameMode→Prop
 |.ret,u=>u=.returning
 |.pan c,u=>∃ v,u=.panicking [{ v:=v,recovered:=false}]∧MC S bs c v
def SpcD (Pr:Program) (g:Nat) (caps:List Cap) (m:AM) (hp:List HO) (m':AM) (hp':List HO):Prop:=
 (∃ fn,Pr.funcs[g]? =some fn∧(fn.name == "runtime.NumGoroutine")=false∧fn.body.isNone=false)∧
 ∀ (S:Frz) (K:List CO) (fr:List Chunk) (w:World) (vs:List Value) (u:FrameMode),HR S (K.map CO.base) hp K→qg S (K.map CO.base) caps vs→At w (frzC S::(CO.zl K++fr))→MAM S (K.map CO.base) m u→
   CallsD Pr g vs.toArray u w fun e u' w'=>(∃ v,e=.returned v)∧∃ S' K',S.le S'∧Ext (K.map CO.base) (K'.map CO.base)∧HR S' (K'.map CO.base) hp' K'∧At w' (frzC S'::(CO.zl K'++fr))∧MAM S' (K'.map CO.base) m' (settle u')
structure Door (Pr:Program) where
 g:Nat
 c:Alg→AM→List Cap→List HO→Option (Prop × AM × List HO)
 ok: ∀ m caps hp p m' hp',c alg m caps hp=some (p,m',hp')→p→SpcD Pr g caps m hp m' hp'
def AM.out:AM→AEx
 |.ret=>.ret
 |.pan c=>.pan c
def zme:AEx→Option AM
 |.normal=>some .ret
 |.ret=>some .ret
 |.pan c=>some (.pan c)
 |.exit _=>none
def zmz {Pr:Program} (I:Alg) (T:Tab) (cfg:Cfg) (k0:Nat) (fn:Func) (dk:Door Pr) (e:AEx) (st:St):Tree:=
 match st.df with
 |none=>zjO I T cfg k0 fn e st
 | some (g,caps)=>match Nat.beq g dk.g,zme e with
   | true,some m=>(match dk.c I m caps st.hp with
     |some (p,m',hp')=>.need p (zjO I T cfg k0 fn m'.out { st with hp:=hp',df:=none})
     |none=>.stop 91)
   |_,_=>.stop 92
section
variable {Pr:Program} {T:Tab} {a:Act} {w:World}
theorem zfD {g:Nat} {fn:Func} (hfn:Pr.funcs[g]? =some fn) (hname:(fn.name == "runtime.NumGoroutine")=false) (hbody:fn.body.isNone=false) (args:Array Value):(callFunc g args).run Pr w=.ok (.enter g args) w:=by
 have hname': ¬ fn.name= "runtime.NumGoroutine" :=by simpa using hname
 have hbody': ¬ fn.body=none:=by cases hb:fn.body with|none=>rw [hb] at hbody;cases hbody|some c=>simp
 simp [callFunc,program,hfn,Sem.run]
 rw [if_neg hname',if_neg hbody']
theorem zmN {P:Program} {T:Tab} (hT:T.fits P) (hm:P.follows .mixedOrders=true) {f:Nat} {fn:Func} (hf:P.funcs[f]? =some fn) (hn:(fn.name == "runtime.NumGoroutine")=false) (cfg:Cfg) (kn:List (Know P)) (dk:Door P) {args:List D} {hp:List HO} {out:AOut} {hp':List HO}
  (hb:(fn.body.isSome&& !YG cfg (rY fn)&&Nat.ble args.length fn.ntmps)=true)
  (h: ∀ (I:Alg) (X:Ctx),I=alg→X.bs0.length=hp.length→Ok P X (fun o h=>o=out∧h=hp') (go I T cfg kn [⟨rY fn,zmz I T cfg hp.length fn dk⟩] 0 [] { env:=UI 0 args,hp:=hp,n:=fn.ntmps})):Spc P f args hp out hp':=by
 simp only [jJ,Bool.not_eq_true'] at hb;obtain⟨⟨hb1,hb2⟩,hb3⟩:=hb;obtain⟨c,hc⟩:=Option.isSome_iff_exists.1 hb1
 have hbo:rY fn=c:=by unfold rY;rw [hc]
 refine⟨⟨fn,hf,hn,by rw [hc];rfl⟩,fun S K fr w vs hHR hargs hat=> ?_⟩
 have h1:=(h alg ⟨S,K.map CO.base,fr⟩ rfl (by simp [hHR.1])).out
 have h2:=YW (fun f=>rO) h1;simp only [rtAt,cAt,kAt,hbo] at h2;have hal:=hargs.length;have hle:=Nat.le_of_ble_eq_true hb3
 have hnow:Now ⟨S,K.map CO.base,fr⟩ { env:=UI 0 args,hp:=hp,n:=fn.ntmps} { tmps:=vs.toArray++Array.replicate (fn.ntmps - vs.toArray.size) undef,defers:=[]} w:=by
  refine⟨S,K,⟨Frz.le.refl S,Ext.refl _,hHR,hat⟩,⟨?_,rfl,fun t d hd=> ?_⟩⟩
  · simp [hal];omega
  · obtain⟨_,v,h1,h2⟩:=Za hargs hd
    simp only [Nat.sub_zero] at h1;have hlt:=(jh.1 h1).1
    have e:(vs.toArray++Array.replicate (fn.ntmps - vs.toArray.size) undef).getD t undef=v:=by
     rw [Array.getD_eq_getD_getElem?,Array.getElem?_append_left (by simpa using hlt)]
     simp [h1]
    rw [e];exact h2
 refine calls_of_wp_defers hf hc (wp_mono (rf hT hm h2 hnow) fun e a w' hq=> ?_);obtain⟨e',st',hk,S',K',hH,hE,hem⟩:=hq
 have hlen:(K.map CO.base).length=hp.length:=by simp [hHR.1]
 unfold zmz at hk
 split at hk
 · rename_i hdf
   have hd:a.defers=[]:=by have:=hE.defers;rw [hdf] at this;exact this
   have hfin:=zbp (X:=⟨S,K.map CO.base,fr⟩) hT hlen hk hH hE hem
   cases e with
   |normal=>show Leaves P fn a.tmps _ a.defers .returning w';rw [hd];exact hfin
   |ret=>show Leaves P fn a.tmps _ a.defers .returning w';rw [hd];exact hfin
   |panic ch=>show Leaves P fn a.tmps _ a.defers (.panicking ch) w';rw [hd];exact hfin
   |exit i=>exact hfin.elim
   |goto l=>exact hfin.elim
   |outgrown=>exact hfin.elim
 · rename_i g caps hdf
   split at hk
   · rename_i m hg hmo
     have hg:=jH hg
     split at hk
     · rename_i p m' hp2 hc2
       obtain⟨hpn,hk⟩:=hk;have hds:=hE.defers;rw [hdf] at hds;obtain⟨us,hcap,hds⟩:=hds;have hspec:=dk.ok _ _ _ _ _ _ hc2 hpn;rw [← hg] at hspec;obtain⟨⟨gn,hgn,hgname,hgbody⟩,hspec⟩:=hspec
       have key: ∀ u,MAM S' (K'.map CO.base) m u→u≠ .run→Leaves P fn a.tmps (fun e w'=>∃ S' K',S.le S'∧Ext (K.map CO.base) (K'.map CO.base)∧HR S' (K'.map CO.base) hp' K'∧At w' (frzC S'::(CO.zl K'++fr))∧EOut S' (K'.map CO.base) out e) a.defers u w':=by
        intro u hu hrun;rw [hds];refine⟨hrun,_,_,g,us.toArray,rfl,?_,CallsD.mono (hspec S' K' fr w' us u hH.2.2.1 hcap hH.2.2.2 hu) ?_⟩
        · simp only [invoke,Array.empty_append]
          exact zfD hgn hgname hgbody _
        · rintro e2 u' w2 ⟨⟨v,rfl⟩,S2,K2,hle2,hex2,hHR2,hat2,hm2⟩
          simp only;have hH2:Heap ⟨S,K.map CO.base,fr⟩ hp2 S2 K2 w2:=⟨hH.1.trans hle2,hH.2.1.trans hex2,hHR2,hat2⟩
          have hE2:Env S2 (K2.map CO.base) { st' with hp:=hp2,df:=none} { a with defers:=[]}:=⟨hE.size,rfl,fun t d hd=>(hE.slots t d hd).mono hle2 hex2⟩
          cases m' with
          | ret=>
            have:settle u'=.returning:=hm2;rw [this];exact zbp (X:=⟨S,K.map CO.base,fr⟩) (e:=.ret) hT hlen hk hH2 hE2 trivial
          | pan c=>
            obtain⟨v2,h5,h6⟩:=hm2;rw [h5];exact zbp (X:=⟨S,K.map CO.base,fr⟩) (e:=.panic _) hT hlen hk hH2 hE2 ⟨v2,rfl,h6⟩
       cases e with
       |normal=>cases e'<;>first|exact hem.elim|(cases hmo;exact key .returning rfl (by simp))
       |ret=>cases e'<;>first|exact hem.elim|(cases hmo;exact key .returning rfl (by simp))
       |panic ch=>cases e'<;>first|exact hem.elim|(cases hmo;exact key (.panicking ch) (by obtain⟨v,h1,h2⟩:=hem;exact⟨v,by rw [h1],h2⟩) (by simp))
       |exit i=>cases e'<;>first|exact hem.elim|(cases hmo;done)
       |goto l=>cases e'<;>exact hem.elim
       |outgrown=>cases e'<;>exact hem.elim
     · exact hk.elim
   · exact hk.elim
def recC:AM→C
 |.ret=>.p (.val .nilIface)
 |.pan c=>c
theorem UQ {P:Program} {T:Tab} (hT:T.fits P) (hm:P.follows .mixedOrders=true) {f:Nat} {fn:Func} (hf:P.funcs[f]? =some fn) (hn:(fn.name == "runtime.NumGoroutine")=false) (cfg:Cfg) (kn:List (Know P))
  {id t t2 ty0 ty1:Nat} {pos0 pos1:String} {af0 af1:Array Edge} {rest:Code}
  (hb:fn.body=some (.seq (.region id #[⟨some t,.call ⟨.builtin .recover,#[],#[]⟩,ty0,pos0,af0,none⟩,⟨some t2,.assign (.tmp t),ty1,pos1,af1,none⟩] false) rest))
  {m:AM} {caps:List Cap} {hp hp':List HO}
  (hbb:(Nat.blt t fn.ntmps&&Nat.blt t2 fn.ntmps&& !Nat.beq t t2&&Nat.ble caps.length fn.ntmps&& !YG cfg rest)=true)
  (h: ∀ (I:Alg) (X:Ctx),I=alg→X.bs0.length=hp.length→Ok P X (fun o h=>o=.ret (.tup [])∧h=hp') (go I T cfg kn [⟨rY fn,finK I T cfg hp.length fn⟩] 0 [1] (({ env:=UI 0 (caps.map dP),hp:=hp,n:=fn.ntmps}:St).put (some t) (.v (.one (recC m))) |>.put (some t2) (.v (.one (recC m)))))):SpcD P f caps m hp .ret hp':=by
 simp only [jJ,Bool.not_eq_true'] at hbb;obtain⟨⟨⟨⟨ht,ht2⟩,hne⟩,hle⟩,hseam⟩:=hbb
 have ht:t<fn.ntmps:=by simpa using ht
 have ht2:t2<fn.ntmps:=by simpa using ht2
 have hne:t≠t2:=Nat.ne_of_beq_eq_false hne;have hle:=Nat.le_of_ble_eq_true hle
 refine⟨⟨fn,hf,hn,by rw [hb];rfl⟩,fun S K fr w vs u hHR hcap hat hmode=> ?_⟩
 have h1:=(h alg ⟨S,K.map CO.base,fr⟩ rfl (by simp [hHR.1])).out
 have h2:=YW (fun f=>rO) h1
 have hbo:rY fn=.seq (.region id #[⟨some t,.call ⟨.builtin .recover,#[],#[]⟩,ty0,pos0,af0,none⟩,⟨some t2,.assign (.tmp t),ty1,pos1,af1,none⟩] false) rest:=by unfold rY;rw [hb]
 simp only [rtAt,hbo,cAt,kAt] at h2;have hal:=hcap.mds.length;rw [List.length_map] at hal
 have hlen:(K.map CO.base).length=hp.length:=by simp [hHR.1]
 refine callsD_of_wpS hf hb fun c₀ cs hu=> ?_
 obtain⟨x,u1,hrec,hx,hset⟩: ∃ x u1,(match recoverD (c₀::cs) with|some (v,cs')=>(v,cs')|none=>(.nilIface,c₀::cs))=(x,{ c₀ with mode:=u1}::cs)∧MC S (K.map CO.base) (recC m) x∧settle u1=.returning:=by
  cases m with
  | ret=>
    have hmode:u=.returning:=hmode;subst hmode;refine⟨.nilIface,.returning,?_,.val _ rfl,rfl⟩;simp only [recoverD,hu];cases c₀;simp at hu;subst hu;rfl
  | pan c=>
    obtain⟨v,rfl,hv⟩:=hmode;refine⟨v,.panicking [{ v:=v,recovered:=true}],?_,hv,rfl⟩
    simp [recoverD,hu]
 have hnow:Now ⟨S,K.map CO.base,fr⟩ (({ env:=UI 0 (caps.map dP),hp:=hp,n:=fn.ntmps}:St).put (some t) (.v (.one (recC m))) |>.put (some t2) (.v (.one (recC m)))) (({ tmps:=vs.toArray++Array.replicate (fn.ntmps - vs.toArray.size) undef,defers:=[]}:Act).put (some t) x |>.put (some t2) x) w:=by
  have hE0:Env S (K.map CO.base) { env:=UI 0 (caps.map dP),hp:=hp,n:=fn.ntmps} { tmps:=vs.toArray++Array.replicate (fn.ntmps - vs.toArray.size) undef,defers:=[]}:=by
   refine⟨?_,rfl,fun t d hd=> ?_⟩
   · simp [hal];omega
   · obtain⟨_,v,h1,h2⟩:=Za hcap.mds hd
     simp only [Nat.sub_zero] at h1;have hlt:=(jh.1 h1).1
     have e:(vs.toArray++Array.replicate (fn.ntmps - vs.toArray.size) undef).getD t undef=v:=by
      rw [Array.getD_eq_getD_getElem?,Array.getElem?_append_left (by simpa using hlt)]
      simp [h1]
     rw [e];exact h2
  exact⟨S,K,by rw [vH,vH];exact⟨Frz.le.refl S,Ext.refl _,hHR,hat⟩,(hE0.put (some t) (d:=.v (.one (recC m))) hx).put (some t2) (d:=.v (.one (recC m))) hx⟩
 have hw:=rf hT hm h2 hnow;refine wpS_seq (wpS_region ?_)
 have hsz:t<(vs.toArray++Array.replicate (fn.ntmps - vs.toArray.size) undef).size:=by simp [hal];omega
 have hev:({ tmps:=(vs.toArray++Array.replicate (fn.ntmps - vs.toArray.size) undef).setIfInBounds t x,defers:=[]}:Act).eval (.tmp t)=x:=by
  simp only [Act.eval];rw [Array.getD_eq_getD_getElem?,Array.getElem?_setIfInBounds_self_of_lt hsz];rfl
 have hgoal:rest.wpS P (bodyPostS P fn c₀ cs fun e u' w'=>(∃ v,e=.returned v)∧∃ S' K',S.le S'∧Ext (K.map CO.base) (K'.map CO.base)∧HR S' (K'.map CO.base) hp' K'∧At w' (frzC S'::(CO.zl K'++fr))∧MAM S' (K'.map CO.base) .ret (settle u'))
   (({ tmps:=vs.toArray++Array.replicate (fn.ntmps - vs.toArray.size) undef,defers:=[]}:Act).put (some t) x |>.put (some t2) x) ({ c₀ with mode:=u1}::cs) w:=by
  refine wpS_of_wp (wp_mono hw fun e a' w' hq=> ?_);obtain⟨e',st',hk,S',K',hH,hE,hem⟩:=hq;unfold finK at hk
  split at hk
  case h_2=>exact hk.elim
  rename_i hdf
  have hd:a'.defers=[]:=by have:=hE.defers;rw [hdf] at this;exact this
  have hfin:=zbp (X:=⟨S,K.map CO.base,fr⟩) hT hlen hk hH hE hem
  cases e with
  |normal=>obtain⟨v,hv,S2,K2,h5,h6,h7,h8,_⟩:=hfin;exact⟨hd,u1,rfl,v,hv,⟨v,rfl⟩,S2,K2,h5,h6,h7,h8,hset⟩
  |ret=>obtain⟨v,hv,S2,K2,h5,h6,h7,h8,_⟩:=hfin;exact⟨hd,u1,rfl,v,hv,⟨v,rfl⟩,S2,K2,h5,h6,h7,h8,hset⟩
  |panic ch=>obtain⟨S2,K2,h5,h6,h7,h8,h9⟩:=hfin;exact h9.elim
  |exit i=>exact hfin.elim
  |goto l=>exact hfin.elim
  |outgrown=>exact hfin.elim
 clear hnow hw;generalize vs.toArray++Array.replicate (fn.ntmps - vs.toArray.size) undef=tm at hev hgoal hsz ⊢
 have hr0: ∀ (a:Act),(execOp a.eval ⟨some t,.call ⟨.builtin .recover,#[],#[]⟩,ty0,pos0,af0,none⟩).run P w=.ok .recover w:=by
  intro a;simp [execOp,Go.resolve,invoke,builtin]
 simp only [List.size_toArray,je,jf,Nat.zero_add,Nat.reduceAdd,List.range_succ_eq_map,List.range_zero,List.map_cons,List.map_nil];simp only [wpOpsS,List.getElem?_toArray,List.getElem?_cons_zero,List.getElem?_cons_succ,Region.wanted,if_true,hr0]
 cases hq:recoverD (c₀::cs) with
 | none=>
   rw [hq] at hrec;simp only [Prod.mk.injEq] at hrec;obtain⟨rfl,hcs⟩:=hrec;simp only [Act.put,execOp,Sem.run_pure,hev,Oper.upon,Exit.thenS];rw [hcs];exact hgoal
 | some y=>
   obtain⟨y,cs'⟩:=y;rw [hq] at hrec;simp only [Prod.mk.injEq] at hrec;obtain⟨rfl,rfl⟩:=hrec;simp only [Act.put,execOp,Sem.run_pure,hev,Oper.upon,Exit.thenS];exact hgoal
end
theorem nrmA:type_of% (ja @zcT <| ja @ziC <| ja @vF <| ja @rP <| ja @zcQ <| ja @zcP <| ja @ziB <| ja @zeF <| ja @QW <| ja @QX <| ja @XD <| ja @QY <| ja @qI <| ja @vX <| ja @UB <| ja @zcS <| ja @UA <| ja @yh <| ja @XE <| ja @vS <| ja @ZU <| ja @Uz <| ja @XC <| ja @zcR <| ja @vP <| ja @Xb <| ja @wU <| ja @tJ <| ja @QV <| ja @ZT <| ja @zI <| ja @ziA <| ja @ziz <| @zeG):=ja @zcT <| ja @ziC <| ja @vF <| ja @rP <| ja @zcQ <| ja @zcP <| ja @ziB <| ja @zeF <| ja @QW <| ja @QX <| ja @XD <| ja @QY <| ja @qI <| ja @vX <| ja @UB <| ja @zcS <| ja @UA <| ja @yh <| ja @XE <| ja @vS <| ja @ZU <| ja @Uz <| ja @XC <| ja @zcR <| ja @vP <| ja @Xb <| ja @wU <| ja @tJ <| ja @QV <| ja @ZT <| ja @zI <| ja @ziA <| ja @ziz <| @zeG
theorem nrmB:type_of% (ja @decide_eq_true_eq <| ja @decide_eq_false_iff_not <| ja @beq_iff_eq.{0} <| ja @beq_eq_false_iff_ne.{0} <| ja @Bool.not_eq_true' <| ja @Bool.not_eq_false' <| ja @Bool.and_eq_true <| ja @Bool.and_true <| ja @Bool.true_and <| ja @and_true <| ja @true_and <| ja @ne_eq.{1} <| ja @Int.toNat_zero <| ja @Nat.sub_zero <| ja @List.drop_zero.{0} <| ja @zhf <| ja @zhg <| ja @zj0 <| ja @zj1 <| ja @zay <| ja @tH <| ja @Int.toNat_natCast <| ja @Int.ofNat_eq_natCast <| ja @UInt8.ofNat_toNat <| ja @AOut.ret.injEq <| ja @AOut.pan.injEq <| ja @C.ifc.injEq <| ja @D.v.injEq <| ja @D.tup.injEq <| ja @V0.one.injEq <| ja @C.p.injEq <| ja @P.bool.injEq <| ja @P.int.injEq <| ja @P.str.injEq <| ja @Bool.false_eq_true <| ja @Bool.true_eq_false <| ja @imp_false <| ja @Decidable.not_not <| ja @not_true_eq_false <| @not_false_eq_true):=ja @decide_eq_true_eq <| ja @decide_eq_false_iff_not <| ja @beq_iff_eq.{0} <| ja @beq_eq_false_iff_ne.{0} <| ja @Bool.not_eq_true' <| ja @Bool.not_eq_false' <| ja @Bool.and_eq_true <| ja @Bool.and_true <| ja @Bool.true_and <| ja @and_true <| ja @true_and <| ja @ne_eq.{1} <| ja @Int.toNat_zero <| ja @Nat.sub_zero <| ja @List.drop_zero.{0} <| ja @zhf <| ja @zhg <| ja @zj0 <| ja @zj1 <| ja @zay <| ja @tH <| ja @Int.toNat_natCast <| ja @Int.ofNat_eq_natCast <| ja @UInt8.ofNat_toNat <| ja @AOut.ret.injEq <| ja @AOut.pan.injEq <| ja @C.ifc.injEq <| ja @D.v.injEq <| ja @D.tup.injEq <| ja @V0.one.injEq <| ja @C.p.injEq <| ja @P.bool.injEq <| ja @P.int.injEq <| ja @P.str.injEq <| ja @Bool.false_eq_true <| ja @Bool.true_eq_false <| ja @imp_false <| ja @Decidable.not_not <| ja @not_true_eq_false <| @not_false_eq_true
theorem nrlB:type_of% (ja @List.cons.injEq.{0} <| ja @P.list.injEq <| ja @HO.row.injEq <| ja @heq_eq_eq.{1} <| ja @false_and <| @and_false):=ja @List.cons.injEq.{0} <| ja @P.list.injEq <| ja @HO.row.injEq <| ja @heq_eq_eq.{1} <| ja @false_and <| @and_false
theorem zmB:dflt .byte=(0:UInt8)∧dflt .int=(0:Int)∧dflt .str=([]:Str)∧dflt .fld=(⟨[],[]⟩:Fld)∧dflt .bytes=([]:Str)∧dflt .hd=(⟨[],[],0,[],0⟩:Hd)∧dflt .prt=(⟨[],[],[],[]⟩:Prt)∧dflt .evt=(⟨0,⟨[],[],0,[],0⟩,[],⟨[],[],[],[]⟩,0⟩:Evt)∧dflt .upl=(⟨0,0,[],[],0⟩:Upl)∧dflt .ent=(⟨0,0,0,[]⟩:Ent)∧dflt .stp=(⟨0,0,0,[]⟩:Stp)∧dflt .ask=(⟨⟨[],[],0,[],0⟩,[]⟩:Ask)∧dflt .cal=(⟨0,false,[]⟩:Cal)∧dflt .tri=(⟨0,[],[]⟩:Tri)∧dflt .lst=(⟨0,0,[]⟩:Lst)∧dflt .sst=(⟨0,0,0,[]⟩:Sst)∧dflt .upls=([]:List Upl)∧dflt .strs=([]:List Str)∧dflt .rpl=(⟨0,[],[]⟩:Rpl)∧dflt .med=(⟨[],[]⟩:Med)∧dflt .prw=(⟨[],[],[],[]⟩:Prt):=by repeat' constructor
theorem zJ:type_of% (ja @zaP <| ja @zhb <| ja @zaR <| ja @zdV <| ja @zdU <| ja @zaO <| ja @zaQ <| ja @Option.getD_some.{0} <| ja @Option.getD_none.{0} <| zmB):=ja @zaP <| ja @zhb <| ja @zaR <| ja @zdV <| ja @zdU <| ja @zaO <| ja @zaQ <| ja @Option.getD_some.{0} <| ja @Option.getD_none.{0} <| zmB
end Go.Ab
namespace Go.Ab
open Go Go.Sep Go.RowKit
variable [Facts]
def Holds (W:World):Prop:=∀ w:World,(∀ (k:Nat) (o:Obj),W.heap[k]? =some o→w.heap[k]? =some o)→Facts.p w
def frzW (W:World) (hF:Holds W):Frz:=⟨fun k=>W.heap[k]?,W.os,W.tape,W.output,fun w hw=>hF w hw.2.2.2⟩
theorem zlf (W:World) (hF:Holds W):At W [frzC (frzW W hF)]:=
 ⟨fun k=>(W.heap[k]?).isSome=true,fun k=>(W.heap[k]?).isSome=true,fun _=>False,fun k=>by simp,fun _ _ h=>h,⟨fun _=>Iff.rfl,rfl,rfl,rfl,fun _ _ h=>h⟩,fun _ h=>h⟩
theorem TN {W w:World} {hF:Holds W} (h:(frzW W hF).on w):Below W.heap.size W w:=by
 obtain⟨h1,h2,h3,h4⟩:=h
 have hb: ∀ k,k<W.heap.size→w.heap[k]? =W.heap[k]? :=fun k hk=>by
  have:W.heap[k]? =some W.heap[k]:=by simp [hk]
  rw [h4 k _ this,this]
 refine⟨h1,h2,h3,?_,hb⟩
 rcases Nat.lt_or_ge w.heap.size W.heap.size with hlt|hge
 · have:=hb w.heap.size hlt
   simp at this
   omega
 · exact hge
theorem zle {W:World} {hF:Holds W} {size:Nat} {v:Value} {n:Nat} {cs:List Value} (h:Rd W size v n cs):RdS (frzW W hF) size v n cs:=by
 intro w hw;obtain⟨ao,cap,e,h1,h2,h4,h3,hc⟩:=h;refine⟨ao,cap,e,h1,h2,h4,h3,fun j u hu=> ?_⟩;obtain⟨hs,hcell⟩:=hc j u hu;exact⟨hs,((TN hw).cell (block_lt hcell)).trans hcell⟩
theorem Spc.law {Pr:Program} {f:Nat} {args:List D} {hp':List HO} {W:World} {hF:Holds W} {vs:List Value} (h:Spc Pr f args [] (.ret (.v (.one (.p (.bool true))))) hp') (ha:MDs (frzW W hF) [] args vs):
  Calls Pr f vs.toArray W fun e w'=>e=.returned (.bool true)∧Below W.heap.size W w':=by
 refine(h.2 (frzW W hF) [] [] W vs ⟨rfl,fun i o c h=>by simp at h⟩ ha (zlf W hF)).mono fun e w' he=> ?_
 obtain⟨S',K',hle,_,_,hat,ho⟩:=he;refine⟨?_,TN ((At.frz hat).mono hle)⟩
 cases e with
 |returned v=>cases ho;rfl
 |panicked ch=>exact ho.elim
 |outgrown=>exact ho.elim
theorem zk7 {W:World} {hF:Holds W} {v:Value} {u:U} {R:Sep.Rel u.den} (hR: ∀ cs x,R W cs x→MPs (frzW W hF) (enc alg u x) cs) {xs:List u.den} (h:RSl u.size R W [v] xs):MD (frzW W hF) [] (.v (.one (.p (.list u xs)))) v:=by
 obtain⟨v',vs,e,hr,hx⟩:=h;cases e;have hlen:=hr.len;obtain⟨ao,cap,rfl,_⟩:=id hr;refine MP.list u xs ao cap vs hlen (zle hr) fun i x j p v hi hj hv=> ?_;have hm:=hR _ _ (hx i x hi);obtain⟨v',h1,h2⟩:=hm.get hj;rw [jC] at h1
 split at h1
 · rw [jF,hv] at h1
   cases h1;exact h2
 · cases h1
theorem zk8 {W:World} {hF:Holds W} {cs:List Value} {x:UInt8} (h:zjY W cs x):MPs (frzW W hF) (enc alg .byte x) cs:=by
 rw [show cs=[bv x] from h];exact⟨.int _ _,trivial⟩
end Go.Ab
namespace Go.Proofs.YtjdbannldbgpeaaGreatDoor
open Go Go.Ab
def lnS (l:Ln):HO:=.pack [.obj 92 [.row 1,.p (.bool l.cr),.p (.int .i64 l.code)],.row .byte 5 l.b]
def skO (m:Str) (n:Int) (bs:List Int):HO:=.pack [.obj 77 [.row 1,.row 2,.p (.int .i64 n)],.row .byte 5 m,.row .int 3 bs]
def fmS:Fm→List HO
 |⟨m,n,bs,p,none,f,pa,sk,co,out⟩=>[.obj 62 [.ptr 1 0,.p (.int .i64 p),.p (.val (.pointer none)),.row 2,.p (.int .i64 pa),.p (.int .i64 sk),.p (.int .i64 co),.row 3],skO m n bs,.row .fld 53 f,.row .evt 45 out]
 |⟨m,n,bs,p,some l,f,pa,sk,co,out⟩=>[.obj 62 [.ptr 1 0,.p (.int .i64 p),.ptr 2 0,.row 3,.p (.int .i64 pa),.p (.int .i64 sk),.p (.int .i64 co),.row 4],skO m n bs,lnS l,.row .fld 53 f,.row .evt 45 out]
def shapes:Gh→List HO
 |.fm f=>fmS f
 |_=>[]
def lnU:HO→Option Ln
 |.pack [.obj t [.row 1,.p (.bool cr),.p (.int .i64 co)],.row .byte e b]=>match Nat.beq t 92,Nat.beq e 5 with|true,true=>some ⟨b,cr,co⟩|_,_=>none
 |_=>none
theorem zmi {o:HO} {l:Ln} (h:lnU o=some l):o=lnS l:=by
 unfold lnU at h
 split at h
 · split at h
   · rename_i h1 h2;cases h;rw [jH h1,jH h2];rfl
   · cases h
 · cases h
def evU:HO→Option (List Evt)
 |.row .evt e l=>match Nat.beq e 45 with|true=>some l|false=>none
 |_=>none
theorem zkl {o:HO} {l:List Evt} (h:evU o=some l):o=.row .evt 45 l:=by
 unfold evU at h
 split at h
 · split at h
   · rename_i h1;cases h;rw [jH h1]
   · cases h
 · cases h
def flU:HO→Option (List Fld)
 |.row .fld e l=>match Nat.beq e 53 with|true=>some l|false=>none
 |_=>none
theorem zkj {o:HO} {l:List Fld} (h:flU o=some l):o=.row .fld 53 l:=by
 unfold flU at h
 split at h
 · split at h
   · rename_i h1;cases h;rw [jH h1]
   · cases h
 · cases h
def skU:HO→Option (Str × Int × List Int)
 |.pack [.obj t [.row 1,.row 2,.p (.int .i64 n)],.row .byte e m,.row .int e2 bs]=>match Nat.beq t 77,Nat.beq e 5,Nat.beq e2 3 with|true,true,true=>some (m,n,bs)|_,_,_=>none
 |_=>none
theorem zj3 {o:HO} {x:Str × Int × List Int} (h:skU o=some x):o=skO x.1 x.2.1 x.2.2:=by
 unfold skU at h
 split at h
 · split at h
   · rename_i h1 h2 h3;cases h;rw [jH h1,jH h2,jH h3];rfl
   · cases h
 · cases h
def fmU:List HO→Option Fm
 | .obj t [.ptr 1 0,.p (.int .i64 p),.p (.val (.pointer none)),.row 2,.p (.int .i64 pa),.p (.int .i64 sk),.p (.int .i64 co),.row 3]::r=>(match Nat.beq t 62,r with
   |true,[a,b,c]=>(match skU a,flU b,evU c with|some x,some f,some out=>some ⟨x.1,x.2.1,x.2.2,p,none,f,pa,sk,co,out⟩|_,_,_=>none)
   |_,_=>none)
 | .obj t [.ptr 1 0,.p (.int .i64 p),.ptr 2 0,.row 3,.p (.int .i64 pa),.p (.int .i64 sk),.p (.int .i64 co),.row 4]::r=>(match Nat.beq t 62,r with
   |true,[a,l,b,c]=>(match skU a,lnU l,flU b,evU c with|some x,some ln,some f,some out=>some ⟨x.1,x.2.1,x.2.2,p,some ln,f,pa,sk,co,out⟩|_,_,_,_=>none)
   |_,_=>none)
 |_=>none
theorem zmu {l:List HO} {q:Fm} (h:fmU l=some q):l=fmS q:=by
 unfold fmU at h
 split at h
 · split at h
   · rename_i h1;split at h
     · rename_i h2 h3 h4;cases h;rw [jH h1,zj3 h2,zkj h3,zkl h4];rfl
     · cases h
   · cases h
 · split at h
   · rename_i h1;split at h
     · rename_i h2 h5 h3 h4;cases h;rw [jH h1,zj3 h2,zmi h5,zkj h3,zkl h4];rfl
     · cases h
   · cases h
 · cases h
def shapeOf (l:List HO):Option Gh:=match fmU l with|some f=>some (.fm f)|none=>none
theorem zeU (l:List HO) (g:Gh) (h:shapeOf l=some g):shapes g=l:=by
 unfold shapeOf at h
 split at h
 · rename_i q hq;cases h;exact(zmu hq).symm
 · cases h
end Go.Proofs.YtjdbannldbgpeaaGreatDoor
namespace Go.Proofs.YtjdbannldbgpeaaGreatDoor
open Go Go.Ab
instance facts:Facts:= { p:=fun w=>∃ m:Int,w.cell? ⟨0,0,none⟩=some (.int .i64 m),sh:=shapes,ab:=shapeOf,abok:=zeU}
def tabT:TT:=
 (.node (.node (.node (.node (.node (.node .nil 1 ⟨.other,1,8,(some [.val .nilFunc]),none⟩
 .nil) 3 ⟨.int .i64,1,8,(some [.int .i64 0]),none⟩
 (.node .nil 4 ⟨.bool,1,1,(some [.bool false]),none⟩
 .nil)) 5 ⟨.int .u8,1,1,(some [.int .u8 0]),none⟩
 (.node (.node .nil 9 ⟨.str,1,16,(some [.str []]),none⟩
 .nil) 20 ⟨.iface,1,16,(some [.val .nilIface]),none⟩
 (.node .nil 21 ⟨.int .i32,1,4,(some [.int .i32 0]),none⟩
 .nil))) 22 ⟨.slice 43,1,24,(some [.list .prt []]),(some .prt)⟩
 (.node (.node (.node .nil 23 ⟨.slice 3,1,24,(some [.list .int []]),(some .int)⟩
 .nil) 26 ⟨.slice 5,1,24,(some [.list .byte []]),(some .byte)⟩
 (.node .nil 32 ⟨.ptr,1,8,(some [.val (.pointer none)]),none⟩
 .nil)) 35 ⟨.slice 26,1,24,(some [.list .bytes []]),(some .bytes)⟩
 (.node (.node .nil 37 ⟨.slice 45,1,24,(some [.list .evt []]),(some .evt)⟩
 .nil) 39 ⟨.slice 53,1,24,(some [.list .fld []]),(some .fld)⟩
 (.node .nil 41 ⟨.struct [(0,9),(1,9),(2,3),(3,39),(4,3)],5,72,(some [.str [],.str [],.int .i64 0,.list .fld [],.int .i64 0]),none⟩
 .nil)))) 43 ⟨.struct [(0,9),(1,9),(2,9),(3,26)],4,72,(some [.str [],.str [],.str [],.nl []]),none⟩
 (.node (.node (.node (.node .nil 45 ⟨.struct [(0,3),(1,41),(6,26),(7,43),(11,3)],12,184,(some [.int .i64 0,.str [],.str [],.int .i64 0,.list .fld [],.int .i64 0,.list .byte [],.str [],.str [],.str [],.nl [],.int .i64 0]),none⟩
 .nil) 53 ⟨.struct [(0,9),(1,9)],2,32,(some [.str [],.str []]),none⟩
 (.node .nil 58 ⟨.ptr,1,8,(some [.val (.pointer none)]),none⟩
 .nil)) 60 ⟨.ptr,1,8,(some [.val (.pointer none)]),none⟩
 (.node (.node .nil 62 ⟨.struct [(0,58),(1,3),(2,60),(3,39),(4,3),(5,3),(6,3),(7,37)],8,96,(some [.val (.pointer none),.int .i64 0,.val (.pointer none),.list .fld [],.int .i64 0,.int .i64 0,.int .i64 0,.list .evt []]),none⟩
 .nil) 65 ⟨.int .u64,1,8,(some [.int .u64 0]),none⟩
 (.node .nil 70 ⟨.struct [(0,9),(1,9)],2,32,(some [.str [],.str []]),none⟩
 .nil))) 71 ⟨.slice 70,1,24,(some [.list .fld []]),(some .fld)⟩
 (.node (.node (.node .nil 73 ⟨.struct [(0,9),(1,71)],2,40,(some [.str [],.list .fld []]),none⟩
 .nil) 77 ⟨.struct [(0,26),(1,23),(2,3)],3,56,(some [.list .byte [],.list .int [],.int .i64 0]),none⟩
 (.node .nil 84 ⟨.other,1,8,(some [.val .nilFunc]),none⟩
 .nil)) 89 ⟨.other,1,8,(some [.val .nilFunc]),none⟩
 (.node (.node .nil 92 ⟨.struct [(0,26),(1,4),(2,3)],3,40,(some [.list .byte [],.bool false,.int .i64 0]),none⟩
 .nil) 98 ⟨.array 256 4,256,256,none,none⟩
 .nil)))) 102 ⟨.ptr,1,8,(some [.val (.pointer none)]),none⟩
 (.node (.node (.node (.node (.node .nil 103 ⟨.int .u32,1,4,(some [.int .u32 0]),none⟩
 .nil) 110 ⟨.ptr,1,8,(some [.val (.pointer none)]),none⟩
 (.node .nil 118 ⟨.slice 9,1,24,(some [.list .str []]),(some .str)⟩
 .nil)) 120 ⟨.struct [],0,0,(some []),none⟩
 (.node (.node .nil 121 ⟨.struct [],0,0,(some []),none⟩
 .nil) 123 ⟨.struct [(0,121),(0,103)],1,4,(some [.int .u32 0]),none⟩
 (.node .nil 125 ⟨.struct [(0,21),(1,103)],2,8,(some [.int .i32 0,.int .u32 0]),none⟩
 .nil))) 127 ⟨.struct [(0,120),(0,125)],2,8,(some [.int .i32 0,.int .u32 0]),none⟩
 (.node (.node (.node .nil 129 ⟨.struct [(0,120),(0,123),(1,127)],3,12,(some [.int .u32 0,.int .i32 0,.int .u32 0]),none⟩
 .nil) 131 ⟨.iface,1,16,(some [.val .nilIface]),none⟩
 (.node .nil 133 ⟨.struct [(0,129),(3,131),(4,118)],5,56,(some [.int .u32 0,.int .i32 0,.int .u32 0,.val .nilIface,.list .str []]),none⟩
 .nil)) 143 ⟨.ptr,1,8,(some [.val (.pointer none)]),none⟩
 (.node (.node .nil 146 ⟨.int .i64,1,8,(some [.int .i64 0]),none⟩
 .nil) 148 ⟨.ptr,1,8,(some [.val (.pointer none)]),none⟩
 (.node .nil 150 ⟨.struct [(0,9)],1,16,(some [.str []]),none⟩
 .nil)))) 154 ⟨.array 256 5,256,256,none,none⟩
 (.node (.node (.node (.node .nil 156 ⟨.struct [(0,5),(1,5)],2,2,(some [.int .u8 0,.int .u8 0]),none⟩
 .nil) 157 ⟨.array 16 156,32,32,(some [.int .u8 0,.int .u8 0,.int .u8 0,.int .u8 0,.int .u8 0,.int .u8 0,.int .u8 0,.int .u8 0,.int .u8 0,.int .u8 0,.int .u8 0,.int .u8 0,.int .u8 0,.int .u8 0,.int .u8 0,.int .u8 0,.int .u8 0,.int .u8 0,.int .u8 0,.int .u8 0,.int .u8 0,.int .u8 0,.int .u8 0,.int .u8 0,.int .u8 0,.int .u8 0,.int .u8 0,.int .u8 0,.int .u8 0,.int .u8 0,.int .u8 0,.int .u8 0]),none⟩
 (.node .nil 159 ⟨.ptr,1,8,(some [.val (.pointer none)]),none⟩
 .nil)) 161 ⟨.ptr,1,8,(some [.val (.pointer none)]),none⟩
 (.node (.node .nil 163 ⟨.ptr,1,8,(some [.val (.pointer none)]),none⟩
 .nil) 165 ⟨.ptr,1,8,(some [.val (.pointer none)]),none⟩
 (.node .nil 167 ⟨.array 256 5,256,256,none,none⟩
 .nil))) 168 ⟨.ptr,1,8,(some [.val (.pointer none)]),none⟩
 (.node (.node (.node .nil 169 ⟨.array 256 26,256,6144,none,none⟩
 .nil) 171 ⟨.struct [(0,169),(256,118)],257,6168,none,none⟩
 (.node .nil 172 ⟨.ptr,1,8,(some [.val (.pointer none)]),none⟩
 .nil)) 177 ⟨.ptr,1,8,(some [.val (.pointer none)]),none⟩
 (.node (.node .nil 193 ⟨.ptr,1,8,(some [.val (.pointer none)]),none⟩
 .nil) 195 ⟨.other,1,8,none,none⟩
 .nil)))))
def tab:Tab:=tabT.get
theorem Z7:tab.fits Tryz.prog:=Tab.zln (by kernel_rfl)
theorem mixed:Tryz.prog.follows .mixedOrders=true:=by kernel_rfl
theorem spH:type_of% (@spcG facts Tryz.prog tab Z7 mixed):= @spcG facts Tryz.prog tab Z7 mixed
theorem lpH {X:Ctx} {G:AOut→List HO→Prop} {I:Alg} (hI:I=alg):type_of% (@zdM facts Tryz.prog tab X G I hI Z7 mixed):= @zdM facts Tryz.prog tab X G I hI Z7 mixed
end Go.Proofs.YtjdbannldbgpeaaGreatDoor
namespace Go.Ab
open Go
end Go.Ab
namespace Go.Ab
open Go Go.Sep
variable {H:Type} {enc:TypeId × Value→H}
theorem retShaped {a:Assume} {C:Checked} {os:Os} {f:FuncId} {fn:Func} {s:ChangeSpec} {conds:List PathCond} {apart fresh handsOn again:Bool} {X:World→Array Value→Prop}
  (hX: ∀ (w w':World) (args:Array Value),w.heap=w'.heap→X w args→X w' args)
  (own:ownKnob C.prog.godebug=none) (started:os.Started) (noInit:C.prog.inits.idxOf? f=none) (hfn:C.prog.funcs[f]? =some fn)
  (witness: ∃ (w:World) (tape:Tape) (i:Input),w.os=os∧(w.forCall tape i).Shaped C.prog∧i.vars=[]∧Input.okWide C.prog (w.forCall tape i) .any w.heap.size f i∧
   ((s.pre enc C.prog fn conds apart (w.forCall tape i).memory i.args∧X (w.forCall tape i).memory i.args)∧sizedMet enc C.prog fn (OpenSpec.ofChange s) apart (w.forCall tape i).memory i.args)∧a.holds C.prog (lone (Frame.enter C.prog f i.args .normal) [] (w.forCall tape i)))
  (contract: ∀ (W:World) (base:Nat) (args:Array Value) (ds gs:List (DataW H)) (before:List MemPlace),
   (∀ (j:Nat) t v,fn.params[j]? =some t→args[j]? =some v→Value.okWide C.prog W .any base t v)→
   DataW.Whole enc C.prog fn.params.toList s.vars apart W args.toList ds gs before→
   conds.all (PathCond.test C.prog ⟨fn.params.toList,ds,s.plain.varTypes C.prog,gs⟩)=true→
   (DataW.weightsEach C.prog (fn.params.toList++s.plain.varTypes C.prog) (ds++gs)).all (· ≤reachBytes)=true→X W args→W.ShapedOpen C.prog→
   a.holds C.prog (lone (Frame.enter C.prog f args .normal) [] W)→
   Calls C.prog f args W fun e W'=>∃ v,e=.returned v∧s.post enc C.prog fn apart fresh handsOn again W args v W'):
  ReturnsInHanded a C os f .any (fun w args=>(s.pre enc C.prog fn conds apart w args∧X w args)∧sizedMet enc C.prog fn (OpenSpec.ofChange s) apart w args) (s.post enc C.prog fn apart fresh handsOn again):=by
 refine returnsInHanded_of_calls own started noInit witness ?_;intro w tape i _ hsh _ hok hpre hholds;obtain⟨_,_,_,fn',hfn',_,_,_,_,hval⟩:=hok;have e:fn'=fn:=Option.some.inj (hfn'.symm.trans hfn);subst e;obtain⟨⟨⟨ds,gs,before,hw,hc⟩,hx⟩,hz⟩:=hpre
 have hw':=DataW.Whole.of_heap (w':=w.forCall tape i) (by rfl) hw
 refine(contract (w.forCall tape i) w.heap.size i.args ds gs before hval hw' hc (hz.weights hw) (hX _ _ _ (by rfl) hx) hsh hholds).mono fun e W' ⟨v,he,hp⟩=> ?_
 subst he;exact ChangeSpec.post_blind hp
theorem cell_re {W w:World} (h: ∀ (k:Nat) (o:Obj),W.heap[k]? =some o→w.heap[k]? =some o) {a:Addr} (e: ∃ m,W.cell? a=some (.int .i64 m)): ∃ m,w.cell? a=some (.int .i64 m):=by
 obtain⟨m,e⟩:=e;refine⟨m,?_⟩;unfold World.cell? at e ⊢
 cases ho:W.heap[a.block]? with
 |none=>rw [ho] at e;simp at e
 |some o=>rw [h _ _ ho];rw [ho] at e;exact e
end Go.Ab
namespace Go.Proofs.YtjdbannldbgpeaaGreatDoor
open Go Go.Sep Go.Ab
set_option maxRecDepth 100000
def zW (m:Str):Str→Int→Int
 |[],i=>if m.isPrefixOf [] then i else -1
 |x::b,i=>if m.isPrefixOf (x::b) then i else zW m b (i+1)
theorem XV (m:Str): ∀ (b:Str) (i:Int),b.length<m.length→zW m b i= -1
 | [],i,h=>by
   cases m with
   |nil=>simp at h
   |cons y m=>simp [zW,List.isPrefixOf]
 | x ::b,i,h=>by
   have: ¬ m.isPrefixOf (x::b)=true:=fun hp=>by
    have:=(List.isPrefixOf_iff_prefix.1 hp).length_le;omega
   rw [zW,if_neg this]
   exact XV m b _ (by simp at h;omega)
end Go.Proofs.YtjdbannldbgpeaaGreatDoor
namespace Go.Proofs.YtjdbannldbgpeaaGreatDoor
set_option maxRecDepth 100000
open Go Go.Sep
theorem Tc (w:World):(callFunc 121 #[]).run Tryz.prog w=.ok (.value (.tuple #[])) w:=run_call_mark0 Tryz.func121 (by kernel_rfl) (by kernel_rfl) (by kernel_rfl) .disable (by kernel_rfl) w
theorem zax (w:World):(callFunc 123 #[]).run Tryz.prog w=.ok (.value (.tuple #[])) w:=run_call_mark0 Tryz.func123 (by kernel_rfl) (by kernel_rfl) (by kernel_rfl) .enable (by kernel_rfl) w
theorem ze8 (a:Addr) (w:World):(callFunc 124 #[.pointer (some a)]).run Tryz.prog w=.ok (.value (.tuple #[])) w:=run_call_marked Tryz.func124 (by kernel_rfl) (by kernel_rfl) (by kernel_rfl) .acquire (by kernel_rfl) a w
theorem ze7 (a:Addr) (w:World):(callFunc 126 #[.pointer (some a)]).run Tryz.prog w=.ok (.value (.tuple #[])) w:=run_call_marked Tryz.func126 (by kernel_rfl) (by kernel_rfl) (by kernel_rfl) .releaseMerge (by kernel_rfl) a w
theorem zjf (a:Addr) (x:Value) (u:FrameMode) (w:World) (hc:w.cell? a=some x) (hz:w.frozen? a=false):
  CallsD Tryz.prog 104 #[.pointer (some a),.bool true] u w fun e u' w'=>u'=u∧(e=.returned (.tuple #[])∧w'=w.drew.setCell a (.int .u32 1)):=by
 have hc':w.drew.cell? a=some x:=by go_simp
 have hz':w.drew.frozen? a=false:=by go_simp
 have hst:=run_call_store (P:=Tryz.prog) Tryz.func115 (by kernel_rfl) (by kernel_rfl) (by kernel_rfl) (by kernel_rfl) (k:=.u32) (y:=1) hc' hz'
 go_enter_d Tryz.func104,Tryz.ntmps104
 go_wp2
 go_region_calls
 all_goals(go_end0;exact⟨rfl,rfl⟩)
theorem zgL (a:Addr) (u:FrameMode) (w:World) (hc:w.cell? a=some (.int .i32 1)) (hz:w.frozen? a=false):
  CallsD Tryz.prog 103 #[.pointer (some a)] u w fun e u' w'=>u'=u∧(e=.returned (.tuple #[])∧w'=w.setCell a (.int .i32 0)):=by
 have hd:=Tc;have he:=zax;have hr:=ze7
 have hadd:=run_call_add (P:=Tryz.prog) Tryz.func127 (by kernel_rfl) (by kernel_rfl) (by kernel_rfl) .i32 (by kernel_rfl) (y:= -1) (s:=0) hc hz (by simp [go_sem];rfl)
 have hcv:=run_convert_to_unsafe (P:=Tryz.prog) (src:=191) (dst:=195) Tryz.underlying191 Tryz.underlying195 (by kernel_rfl) hc
 go_enter_d Tryz.func103,Tryz.ntmps103
 go_wp2
 go_end0
 go_wp2
 all_goals(try go_end0)
 all_goals exact⟨rfl,rfl⟩
theorem zkV (a:Addr) (w:World) (hc:w.cell? a=some (.int .i32 0)) (hz:w.frozen? a=false):
  Calls Tryz.prog 102 #[.pointer (some a)] w fun e w'=>e=.returned (.tuple #[])∧w'=w.setCell a (.int .i32 1):=by
 have hd:=Tc;have he:=zax;have ha:=ze8
 have hcas:=run_call_cas_hit (P:=Tryz.prog) Tryz.func122 (by kernel_rfl) (by kernel_rfl) (by kernel_rfl) .i32 (by kernel_rfl) (y:=1) hc hz
 have hc':(w.setCell a (.int .i32 1)).cell? a=some (.int .i32 1):=World.cell?_setCell_same w a _ hc
 have hcv:=run_convert_to_unsafe (P:=Tryz.prog) (src:=191) (dst:=195) Tryz.underlying191 Tryz.underlying195 (by kernel_rfl) hc'
 go_enter Tryz.func102,Tryz.ntmps102
 go_wp2
 first|go_end0|(simp only [Exit.inBlock,Exit.then];refine bodyPost_ret (results_none rfl _ _ _) rfl ?_)|refine bodyPost_ret (results_none rfl _ _ _) rfl ?_
 go_wp2
 all_goals(try go_end0)
 all_goals exact⟨rfl,rfl⟩
end Go.Proofs.YtjdbannldbgpeaaGreatDoor
namespace Go.Proofs.YtjdbannldbgpeaaGreatDoor
open Go
theorem sz_5:(Tryz.prog.info? 5).map (·.size)=some 1:=by kernel_rfl
theorem in_5:(Tryz.prog.info? 5).map (fun i=>(i.zero,i.size,i.bytes))=some (some (.int .u8 0),1,1):=by kernel_rfl
theorem sz_9:(Tryz.prog.info? 9).map (·.size)=some 1:=by kernel_rfl
theorem in_9:(Tryz.prog.info? 9).map (fun i=>(i.zero,i.size,i.bytes))=some (some (.string ⟨#[]⟩),1,16):=by kernel_rfl
theorem Zu:(Tryz.prog.info? 26).map (·.size)=some 1:=by kernel_rfl
theorem wW:(Tryz.prog.info? 118).map (·.size)=some 1:=by kernel_rfl
theorem zj2:(Tryz.prog.info? 131).map (·.size)=some 1:=by kernel_rfl
end Go.Proofs.YtjdbannldbgpeaaGreatDoor
namespace Go.Proofs.YtjdbannldbgpeaaGreatDoor
open Go Go.RowKit Go.Sep
set_option maxRecDepth 100000
theorem putS (a:Act) (d:Tmp) (v:Value):a.put (some d) v= { a with tmps:=a.tmps.setIfInBounds d v}:=rfl
theorem putN (a:Act) (v:Value):a.put none v=a:=rfl
theorem putL:type_of% (ja putS <| ja putN <| ja (@List.setIfInBounds_toArray Value) <| ja (@List.set_cons_succ Value) (@List.set_cons_zero Value)):=ja putS <| ja putN <| ja (@List.setIfInBounds_toArray Value) <| ja (@List.set_cons_succ Value) (@List.set_cons_zero Value)
set_option maxHeartbeats 4000000 in
theorem zjh (ao:Option Addr) (cap:Nat) (xs:List Value) (h1: ∀ v ∈ xs,v.oneCell'=true) (l:List Chunk) (w:World) (H:At w (rowC 9 1 (.slice ao 4 cap) 4 xs::l)):
  Calls Tryz.prog 66 #[.slice ao 4 cap] w fun e w'=>∃ b ao' cap',e=.returned (.pointer (some ⟨b,0,none⟩))∧
   At w' (objC b 133 [.int .u32 0,.int .i32 0,.int .u32 0,.nilIface,.slice ao' 4 cap']::rowC 9 1 (.slice ao' 4 cap') 4 xs::l):=by
 replace H:=H.nilRow 9 1
 go_enter Tryz.func66,Tryz.ntmps66
 go_wp2_with (first | ((with_reducible show wpList _ _ _ (⟨_,.call _,_,_,_,_⟩::_) _ _);refine xP Tryz.underlying118 Tryz.underlying118 (fun k h=>by cases h) in_9 rfl rfl rfl (by first|with_reducible exact H|with_reducible exact H.p1|with_reducible exact H.p2|with_reducible exact H.p3|with_reducible exact H.p4|with_reducible exact H.p5|with_reducible exact H.p6|exact H|exact H.p1|exact H.p2|exact H.p3|exact H.p4|exact H.p5|exact H.p6) (Rd.src (by first|with_reducible exact H.rd|with_reducible exact H.p1.rd|with_reducible exact H.p2.rd|with_reducible exact H.p3.rd|with_reducible exact H.p4.rd|with_reducible exact H.p5.rd|with_reducible exact H.p6.rd|exact H.rd|exact H.p1.rd|exact H.p2.rd|exact H.p3.rd|exact H.p4.rd|exact H.p5.rd|exact H.p6.rd)) (by first|assumption|simp [Value.oneCell']) (by omega) (by omega) rfl ?_;intro ao9 cap9 w9 hc9 H1;replace H:=H1;clear H1;simp only [Act.put,List.setIfInBounds_toArray,List.set_cons_succ,List.set_cons_zero])
                                       |((with_reducible show wpList _ _ _ (⟨_,.box _ _,_,_,_,_⟩::_) _ _);refine zku (T:=133) rfl [_,_,_,_,_] rfl H rfl ?_;intro b11 w11 H1;replace H:=H1;clear H1;simp only [Act.put,List.setIfInBounds_toArray,List.set_cons_succ,List.set_cons_zero]))
 go_ret
 exact⟨_,_,_,rfl,(At.sub (by repeat(first|with_reducible exact Sub.refl _|with_reducible exact Sub.nil _|with_reducible refine Sub.c0 ?_|with_reducible refine Sub.c1 ?_|with_reducible refine Sub.c2 ?_|with_reducible refine Sub.c3 ?_|with_reducible refine Sub.c4 ?_|with_reducible refine Sub.c5 ?_|with_reducible refine Sub.c6 ?_|refine Sub.c0 ?_|refine Sub.c1 ?_|refine Sub.c2 ?_|refine Sub.c3 ?_|refine Sub.c4 ?_|refine Sub.c5 ?_|refine Sub.c6 ?_|with_reducible refine Sub.drop ?_)) H)⟩
def nils:List Value:=List.replicate 256 (.slice none 0 0)
def bs0 (x:Value):List Value:=nils++[x]
theorem ZP (x:Value):(bs0 x).length=257:=by simp [bs0,nils]
theorem zil (x v:Value):(bs0 x).set 256 v=bs0 v:=by
 unfold bs0
 rw [List.set_append_right _ _ (by simp [nils])]
 simp [nils]
theorem zlD:(Tryz.prog.info? 171).map (fun i=>(i.zero.map (fun z=>z.cells),i.size))=some (some (bs0 (.slice none 0 0)).toArray,257):=by kernel_rfl
theorem QJ: ∃ i z,Tryz.prog.info? 171=some i∧i.zero=some z∧z.cells=(bs0 (.slice none 0 0)).toArray∧i.size=257:=by
 have h:=zlD
 cases hi:Tryz.prog.info? 171 with
 |none=>rw [hi] at h;cases h
 | some i=>
   rw [hi] at h;simp only [Option.map_some,jr,Prod.mk.injEq] at h
   cases hz:i.zero with
   |none=>rw [hz] at h;simp at h
   |some z=>rw [hz] at h;simp only [Option.map_some,jr] at h;exact⟨i,z,rfl,hz,h.1,h.2⟩
theorem zik (x:Value) (hx:x.cells= #[x]) (w:World):(Instr.build 171 #[(1,x)]).run Tryz.prog w=.ok (.agg (bs0 x).toArray) w:=by
 obtain⟨i,z,hi,hz,hc,hs⟩:=QJ;have hu:=Tryz.underlying171
 have h1:(Tryz.prog.info? 169).map (·.size)=some 256:=by kernel_rfl
 have h2:(Tryz.prog.info? 118).map (·.size)=some 1:=by kernel_rfl
 obtain⟨i1,hi1,hs1⟩: ∃ i,Tryz.prog.info? 169=some i∧i.size=256:=by
  cases h:Tryz.prog.info? 169 with
  |none=>rw [h] at h1;cases h1
  |some i=>rw [h] at h1;exact⟨i,rfl,by simpa using h1⟩
 obtain⟨i2,hi2,hs2⟩: ∃ i,Tryz.prog.info? 118=some i∧i.size=1:=by
  cases h:Tryz.prog.info? 118 with
  |none=>rw [h] at h2;cases h2
  |some i=>rw [h] at h2;exact⟨i,rfl,by simpa using h2⟩
 have hfill:Instr.fill ([(0,256),(256,1)][·]?) (bs0 (.slice none 0 0)).toArray [(1,x)]=some (bs0 x).toArray:=by
  unfold Instr.fill;simp only [List.getElem?_cons_succ,List.getElem?_cons_zero,hx,List.size_toArray,je,jf,ZP]
  rw [if_neg (by decide)]
  simp only [Instr.fill,jr]
  have:(Array.foldl (fun cs y=>match y with|(c,j)=>cs.setIfInBounds (256+j) c) (bs0 (.slice none 0 0)).toArray (#[x]:Array Value).zipIdx)=(bs0 (.slice none 0 0)).toArray.setIfInBounds 256 x:=by simp
  rw [this]
  simp [bs0,nils]
 simp only [Instr.build,zeroValue,typeInfo,sizeOf,run_underlying hu,Sem.run_bind,Sem.run_pure,Result.andThen_ok]
 simp [hi,hz,hc,hi1,hs1,hi2,hs2,hfill]
section
variable {P:Program} {w:World} {ops:Array Oper} {rest:List Oper} {a:Act} {Q:Exit→Act→World→Prop} {dst:Option Tmp} {ty:TypeId} {pos:String} {af:Array Edge} {gd:Option (Nat × Bool)}
theorem zfK {T E : TypeId} {x y : Operand} {l : List Chunk} (ht : P.underlying T =some (.slice E)) {z:Value} {bytes:Nat} (hinfo:(P.info? E).map (fun i=>(i.zero,i.size,i.bytes))=some (some z,1,bytes)) (hzc:z.cells= #[z]) (n c:Nat) {k1 k2:IntKind} {m1 m2:Int}
  (hx:a.eval x=.int k1 m1) (hy:a.eval y=.int k2 m2) (e1:m1=n) (e2:m2=c) (hnc:n≤c) (hb:bytes * c≤281474976710656) (hm:c≤maxLen) (H:At w l)
  (hw:Region.wanted ⟨dst,.makeSlice T x y,ty,pos,af,gd⟩ (yielded ops a.tmps)=true)
  (h: ∀ ao w',At w' (rowC E 1 (.slice ao n c) n (List.replicate n z)::l)→wpList P ops Q rest (a.put dst (.slice ao n c)) w'):wpList P ops Q (⟨dst,.makeSlice T x y,ty,pos,af,gd⟩::rest) a w:=by
 obtain⟨i,hi,hz⟩:=Option.map_eq_some_iff.1 hinfo;simp only [Prod.mk.injEq] at hz;obtain⟨hz0,hz1,hz2⟩:=hz;subst e1 e2
 have hr := run_make (P := P) w T E i z ht hi hz0 k1 k2 n c (by omega) (by omega) (by have:((i.bytes * c:Nat):Int)≤281474976710656:=by rw [hz2];omega
                                                                                      rwa [Int.natCast_mul] at this) (by unfold maxLen at hm;omega)
 rw [hz1,Nat.mul_one,hzc] at hr;simp only [jI] at hr
 have hA:At (w.alloc (.cells (madeCells #[z] c) E)) (rowC E 1 (.slice (some ⟨w.heap.size,0,none⟩) n c) n (List.replicate n z)::l):=
  H.new (A':=fun k=>k=w.heap.size) ⟨fun k=>⟨fun h=>by rw [h];rfl,fun h=>by cases h;rfl⟩,by simp,.inr ⟨w.heap.size,c,madeCells #[z] c,(0,0),rfl,heap_alloc_new w _,xA _,hnc,hm,by simp [size_madeCells],by rw [vU,Nat.mul_one,List.take_replicate,Nat.min_eq_left hnc]⟩⟩ (fun k h=>by omega) (vg w _)
 exact zf hw (by simp only [execOp,hx,hy,Sem.run_bind,hr,Result.andThen_ok,Sem.run_pure]) (h _ _ hA)
theorem zks {y:Operand} {x:Value} (hy:a.eval y=x) (hx:x.cells= #[x]) (hw:Region.wanted ⟨dst,.build 171 #[(1,y)],ty,pos,af,gd⟩ (yielded ops a.tmps)=true)
  (h:wpList Tryz.prog ops Q rest (a.put dst (.agg (bs0 x).toArray)) w):wpList Tryz.prog ops Q (⟨dst,.build 171 #[(1,y)],ty,pos,af,gd⟩::rest) a w:=by
 refine zf hw (v:=.agg (bs0 x).toArray) (w':=w) ?_ h;have:=zik x hx w;simp only [execOp,List.map_toArray,List.map_cons,List.map_nil,hy,Sem.run_bind,this,Result.andThen_ok,Sem.run_pure]
theorem zeJ {l:List Chunk} (H:At w l) (hw:Region.wanted ⟨dst,.alloc 171,ty,pos,af,gd⟩ (yielded ops a.tmps)=true)
  (h: ∀ b w',At w' (objC b 171 (bs0 (.slice none 0 0))::l)→wpList Tryz.prog ops Q rest (a.put dst (.pointer (some ⟨b,0,none⟩))) w'):wpList Tryz.prog ops Q (⟨dst,.alloc 171,ty,pos,af,gd⟩::rest) a w:=by
 obtain⟨i,z,hi,hz,hc,hs⟩:=QJ;exact zfM hi hz _ hc H hw h
theorem zeI {x y:Operand} {b:Nat} {v:Value} {l:List Chunk} (hx:a.eval x=.pointer (some ⟨b,0,none⟩)) (hy:a.eval y=.agg (bs0 v).toArray) (h1:v.oneCell'=true) (H:At w (objC b 171 (bs0 (.slice none 0 0))::l))
  (hw:Region.wanted ⟨dst,.store 171 x y,ty,pos,af,gd⟩ (yielded ops a.tmps)=true)
  (h: ∀ w',At w' (objC b 171 (bs0 v)::l)→wpList Tryz.prog ops Q rest (a.put dst undef) w'):wpList Tryz.prog ops Q (⟨dst,.store 171 x y,ty,pos,af,gd⟩::rest) a w:=by
 obtain⟨i,z,hi,hz,hc,hs⟩:=QJ
 have hst:=yA Tryz.prog b 0 171 (0,0) (bs0 v) 0 _ w H.obj (xA _) (by simp [ZP]) (by
  intro u hu
  rcases List.mem_append.1 hu with hu|hu
  · rw [List.eq_of_mem_replicate hu];rfl
  · rw [List.mem_singleton.1 hu];exact h1)
 have e:((bs0 (.slice none 0 0)).toArray.toList.take (0+0)++bs0 v++(bs0 (.slice none 0 0)).toArray.toList.drop (0+0+(bs0 v).length))=bs0 v:=by
  have hl:List.drop (bs0 v).length (bs0 (.slice none 0 0))=[]:=List.drop_eq_nil_of_le (by rw [ZP,ZP];exact jK _)
  simp [hl]
 rw [e] at hst;refine Rf hw (w':=w.setRow b (bs0 v).toArray) ?_ (h _ ?_)
 · have:(Instr.storeAt 171 (.pointer (some ⟨b,0,none⟩)) (.agg (bs0 v).toArray)).run Tryz.prog w=.ok () (w.setRow b (bs0 v).toArray):=by
    have hsz:(Value.agg (bs0 v).toArray).cells.size=257:=by show(bs0 v).toArray.size=257;simp [ZP]
    have hcl:(Value.agg (bs0 v).toArray).cells.toList=bs0 v:=rfl;simp only [Instr.storeAt,Instr.sureAddr,storeVar,Sem.run_bind,Sem.run_pure,Result.andThen_ok,sizeOf,typeInfo]
    simp [hi,hs,hsz,hcl,hst]
   simp only [execOp,hx,hy,Sem.run_bind,this,Result.andThen_ok,Sem.run_pure]
 · exact H.step fun A hA=>⟨A,⟨hA.1,setRow_heap w b _ _ _ _ hA.2⟩,fun _ h=>.inl h,(yU w b _).mono fun k hk e=>hk.2 ((hA.1 k).2 e)⟩
end
end Go.Proofs.YtjdbannldbgpeaaGreatDoor
namespace Go.Proofs
open Go.Shelf
def Tryz.zce:Go.Shelf.Ren:=⟨fun|138=>174|195=>175|218=>176|143=>177|219=>87|217=>79|225=>99|224=>42|267=>100|266=>91|314=>112|n=>n,fun|9=>9|3=>3|4=>4|5=>5|0=>0|46=>65|146=>104|51=>103|n=>n,fun|1=>0|n=>n⟩
theorem Tryz.lays138:Go.Proofs.Lays.n138 Tryz.prog Tryz.zce:= {
 mixed:=by kernel_rfl
 f138:=Tryz.func174.trans (congrArg some (by kernel_rfl))
 f143:=Tryz.func177.trans (congrArg some (by kernel_rfl))
 f195:=Tryz.func175.trans (congrArg some (by kernel_rfl))
 f217:=Tryz.func79.trans (congrArg some (by kernel_rfl))
 f218:=Tryz.func176.trans (congrArg some (by kernel_rfl))
 f219:=Tryz.func87.trans (congrArg some (by kernel_rfl))
 f224:=Tryz.func42.trans (congrArg some (by kernel_rfl))
 f225:=Tryz.func99.trans (congrArg some (by kernel_rfl))
 f266:=Tryz.func91.trans (congrArg some (by kernel_rfl))
 f267:=Tryz.func100.trans (congrArg some (by kernel_rfl))
 f314:=Tryz.func112.trans (congrArg some (by kernel_rfl))
 t0:=Tryz.underlying0
 a0:=Tryz.isAgg0
 z0:=Tryz.sizeOf0
 v0:=Tryz.zeroValue0
 t3:=Tryz.underlying3
 a3:=Tryz.isAgg3
 z3:=Tryz.sizeOf3
 v3:=Tryz.zeroValue3
 t4:=Tryz.underlying4
 a4:=Tryz.isAgg4
 z4:=Tryz.sizeOf4
 v4:=Tryz.zeroValue4
 t5:=Tryz.underlying5
 a5:=Tryz.isAgg5
 z5:=Tryz.sizeOf5
 v5:=Tryz.zeroValue5
 t9:=Tryz.underlying9
 a9:=Tryz.isAgg9
 z9:=Tryz.sizeOf9
 v9:=Tryz.zeroValue9
 t46:=Tryz.underlying65
 a46:=Tryz.isAgg65
 z46:=Tryz.sizeOf65
 v46:=Tryz.zeroValue65
 t51:=Tryz.underlying103
 a51:=Tryz.isAgg103
 z51:=Tryz.sizeOf103
 v51:=Tryz.zeroValue103
 t146:=Tryz.underlying104
 a146:=Tryz.isAgg104
 z146:=Tryz.sizeOf104
 v146:=Tryz.zeroValue104
 g1:=by kernel_rfl}
open Go.RowKit Go.Lib in
theorem Tryz.strings_Count_one (s:ByteArray) (c:UInt8) (w:World):
 Calls Tryz.prog 174 #[.string s,.string ⟨#[c]⟩] w fun e w'=>e=.returned (.int .i64 (Lib.countByte s.data.toList c))∧w'=w:=Any.strings_Count_one Tryz.lays138 s c w
end Go.Proofs
namespace Go.Proofs.YtjdbannldbgpeaaGreatDoor
open Go Go.RowKit Go.Sep
set_option maxRecDepth 100000
def escB (c:UInt8):List UInt8:=if c=34∨c=92 then [92,c] else [c]
def escS (s:List UInt8):List UInt8:=s.flatMap escB
theorem wu (a b:List UInt8):escS (a++b)=escS a++escS b:=List.flatMap_append
theorem QA: ∀ s:List UInt8,(escS s).length=s.length+s.count 34+s.count 92
 |[]=>rfl
 | c ::s=>by
   have ih:=QA s;have e:escS (c::s)=escB c++escS s:=rfl;rw [e,jg,ih,je,List.count_cons,List.count_cons];unfold escB
   by_cases h:c=34
   · subst h;simp;omega
   · by_cases h2:c=92
     · subst h2;simp;omega
     · rw [if_neg (by simp [h,h2])]
       simp [h,h2];omega
theorem zcw: ∀ s:List UInt8,s.count 34+s.count 92=0→escS s=s
 |[],_=>rfl
 | c ::s,h=>by
   rw [List.count_cons,List.count_cons] at h
   by_cases h1:c=34
   · subst h1;simp at h
   · by_cases h2:c=92
     · subst h2;simp at h
     · have e:escS (c::s)=escB c++escS s:=rfl
       rw [e,zcw s (by omega)]
       unfold escB
       rw [if_neg (by simp [h1,h2])];rfl
def tabC (x v1 v2:Value):List Value:=((bs0 x).set 34 v1).set 92 v2
theorem zfZ (x v1 v2:Value) (k:Nat) (h:k<256) (h1:k≠34) (h2:k≠92):(tabC x v1 v2)[k]? =some (.slice none 0 0):=by
 unfold tabC;rw [List.getElem?_set_ne (fun e=>h2 e.symm),List.getElem?_set_ne (fun e=>h1 e.symm)];unfold bs0
 rw [jw (by simpa [nils] using h)]
 unfold nils;rw [List.getElem?_replicate,if_pos h]
theorem QD (s:List UInt8) (c:UInt8) (w:World):Calls Tryz.prog 174 #[.string (S s),.string (S [c])] w fun e w'=>e=.returned (.int .i64 (s.count c:Nat))∧w'=w:=by
 have:=Tryz.strings_Count_one (S s) c w;have e:(S s).data.toList=s:=Xc s;rw [e] at this;exact this
section
variable {P:Program} {w:World} {ops:Array Oper} {rest:List Oper} {a:Act} {Q:Exit→Act→World→Prop} {dst:Option Tmp} {ty:TypeId} {pos:String} {af:Array Edge} {gd:Option (Nat × Bool)}
theorem Ry (w:World) (dT sT ty elem:TypeId) (g o dLen dCap:Nat) (a:Addr) (sLen sCap:Nat) (cur:Array Value) (t:TypeId) (fz:Nat × Nat) (cs:List Value)
  (hu:P.underlying dT=some (.slice elem)) (hs:(P.info? elem).map (·.size)=some 1)
  (hg:w.heap[g]? =some (.cells cur t fz)) (hf:Free fz cur.size) (hn:cs.length=Nat.min sLen dLen)
  (hsrc: ∀ j v,cs[j]? =some v→w.cell? (a.add j)=some v) (hfit:o+cs.length≤cur.size) (h1: ∀ v ∈ cs,v.oneCell'=true):
  (Builtin.copy_ #[dT,sT] ty #[.slice (some ⟨g,o,none⟩) dLen dCap,.slice (some a) sLen sCap]).run P w=
   .ok (goInt cs.length) (w.setRow g (cur.toList.take o++cs++cur.toList.drop (o+cs.length)).toArray):=by
 have hl:=run_loadCells_list (P:=P) w a cs hsrc
 have hst:=yA P g o t fz cs 0 cur w hg hf (by simpa using hfit) h1
 cases hq:P.info? elem with
 |none=>simp [hq] at hs
 | some i=>
   have hi:i.size=1:=by simpa [hq] using hs
   simp [Builtin.copy_,run_underlying hu,Builtin.lenOf,Builtin.firstCells,sizeOf,typeInfo,hq,hi,← hn,hl,hst]
theorem ZV {d s:Operand} {dT sT E:TypeId} {l:List Chunk} (ht:P.underlying dT=some (.slice E)) (hs:(P.info? E).map (·.size)=some 1) {ao:Option Addr} {n cap j m:Nat} {xs ys:List UInt8} {a2:Addr} {c2:Nat}
  (hd:a.eval d=sub (.slice ao n cap) 1 j n) (hx:a.eval s=.slice (some a2) m c2) (hr:Rd w 1 (.slice (some a2) m c2) m (bvs ys)) (hm:0<m) (hj:j+m≤n) (H:At w (rowC E 1 (.slice ao n cap) n (bvs xs)::l))
  (hw:Region.wanted ⟨dst,.call { callee:=.builtin .copy,args:= #[d,s],argTypes:= #[dT,sT]},ty,pos,af,gd⟩ (yielded ops a.tmps)=true)
  (h: ∀ w',At w' (rowC E 1 (.slice ao n cap) n (bvs (xs.take j++ys++xs.drop (j+m)))::l)→wpList P ops Q rest (a.put dst (.int .i64 (m:Nat))) w'):
  wpList P ops Q (⟨dst,.call { callee:=.builtin .copy,args:= #[d,s],argTypes:= #[dT,sT]},ty,pos,af,gd⟩::rest) a w:=by
 have hyl:ys.length=m:=by simpa using hr.zmb
 obtain⟨A0,hA0⟩:=H.head;obtain⟨hlen,hv⟩:=hA0.2
 have hxl:xs.length=n:=by simpa using hlen
 rcases hv with⟨_,h0⟩|⟨g,cap',cur,fz,e,hg,hfree,hnc,hcm,hcs,htk⟩
 · omega
 simp only [Value.slice.injEq] at e;obtain⟨rfl,_,rfl⟩:=e
 have hsub:sub (.slice (some ⟨g,0,none⟩) n cap) 1 j n=.slice (some ⟨g,j,none⟩) (n - j) (cap - j):=by
  unfold sub;simp only
  rw [if_neg (by omega)]
  simp [Addr.add]
  intro h;omega
 have hsz:(bvs ys).length=Nat.min m (n - j):=by rw [xH,hyl];exact(Nat.min_eq_left (by omega)).symm
 have hc:=Ry (P:=P) w dT sT ty E g j (n - j) (cap - j) a2 m c2 cur E fz (bvs ys) ht hs hg hfree hsz (fun i v hi=>by
  have hsp:=hr.spot (j:=i) (by have:=(jh.1 hi).1;simpa using this)
  obtain⟨a3,e3,hsp⟩:=hsp;cases e3;rw [qJ hsp]
  exact hr.cat hi) (by rw [xH,hyl];omega) (zlB ys)
 have hA:At (w.setRow g (cur.toList.take j++bvs ys++cur.toList.drop (j+(bvs ys).length)).toArray) (rowC E 1 (.slice (some ⟨g,0,none⟩) n cap) n (bvs (xs.take j++ys++xs.drop (j+m)))::l):=by
  have hcl:(cur.toList.take j++bvs ys++cur.toList.drop (j+(bvs ys).length)).length=cur.size:=by
   simp only [jg,jq,jB,Array.length_toList,xH,hyl];omega
  refine H.step fun A hA=>⟨A,⟨hA.1,?_,.inr ⟨g,cap,_,fz,rfl,setRow_heap w g cur _ E _ hg,?_,hnc,hcm,?_,?_⟩⟩,fun _ h=>.inl h,(yU w g _).mono fun k hk e=>hk.2 ((hA.1 k).2 (by simp [Value.ownBlock,e]))⟩
  · rw [xH];simp only [jg,jq,jB];omega
  · rw [List.size_toArray,hcl];exact hfree
  · rw [List.size_toArray,hcl];exact hcs
  · rw [Nat.mul_one] at htk ⊢
    have e1:cur.toList.take j=bvs (xs.take j):=by
     have:=congrArg (List.take j) htk
     rw [List.take_take,Nat.min_eq_left (by omega)] at this
     rw [this];simp [bvs,List.map_take]
    have e2:(cur.toList.drop (j+m)).take (n - (j+m))=bvs (xs.drop (j+m)):=by
     have:=congrArg (List.drop (j+m)) htk;rw [List.drop_take] at this;rw [this];simp [bvs,List.map_drop]
    simp only [xH,hyl];rw [e1,List.take_append,SN,SN]
    rw [jl (by rw [jg,xH,xH,jq,hyl];omega)]
    congr 1
    rw [← e2]
    congr 1
    rw [jg,xH,xH,jq,hyl];omega
 refine BigFrame.wpList_want hw fun K hK=> ?_;unfold Oper.wp execOp;rw [hsub] at hd;simp only [resolve,invoke,builtin,Sem.run_bind,Sem.run_pure,Result.andThen_ok,List.map_toArray,List.map_cons,List.map_nil,hd,hx,hc];have:=h _ hA
 rw [show(m:Int)=(((bvs ys).length:Nat):Int) by rw [xH,hyl]] at this
 exact hK _ _ this
theorem zG {T E:TypeId} {x y:Operand} {u:TypeId} (ht:P.underlying T=some (.slice E)) {b:Addr} {n cap:Nat} (hx:a.eval x=.slice (some b) n cap) (hy:a.eval y=.slice none 0 0):
  (execOp a.eval ⟨dst,.binOp .neq T x y u,ty,pos,af,gd⟩).run P w=.ok (.value (.bool true)) w:=by
 simp [execOp,hx,hy,eqGuard,run_neq_slice_nil w T E _ _ _ ht]
theorem zH {T E:TypeId} {x y:Operand} {u:TypeId} (ht:P.underlying T=some (.slice E)) {n cap:Nat} (hx:a.eval x=.slice none n cap) (hy:a.eval y=.slice none 0 0):
  (execOp a.eval ⟨dst,.binOp .neq T x y u,ty,pos,af,gd⟩).run P w=.ok (.value (.bool false)) w:=by
 simp [execOp,hx,hy,eqGuard,run_neq_slice_nil w T E _ _ _ ht]
theorem zY {T E:TypeId} {x lo:Operand} (ht:P.underlying T=some (.slice E)) (hs:(P.info? E).map (·.size)=some 1) {ao:Option Addr} {n cap j:Nat} {k:IntKind} {i:Int} (hnc:n≤cap) (hx:a.eval x=.slice ao n cap) (hl:a.eval lo=.int k i) (hi:i=j) (hj:j≤n):
  (execOp a.eval ⟨dst,.slice T x (some lo) none none,ty,pos,af,gd⟩).run P w=.ok (.value (sub (.slice ao n cap) 1 j n)) w:=by
 subst hi;simp only [execOp,hx,Option.map_none,Option.map_some,hl,Sem.run_bind,Vq ht hs ao n cap j n hnc (.inr ⟨k,rfl⟩) (.inl ⟨rfl,rfl⟩) hj (jK _),Result.andThen_ok,Sem.run_pure]
end
theorem ziW (p:List UInt8) (N:Nat) (y:UInt8) (h:p.length+2≤N):(p++List.replicate (N - p.length) 0).take p.length++[92,y]++(p++List.replicate (N - p.length) 0).drop (p.length+2)=(p++[92,y])++List.replicate (N - (p++[92,y]).length) 0:=by
 rw [List.take_left' rfl,List.drop_append,jE (by omega),List.nil_append,List.drop_replicate]
 congr 2
 simp only [jg,je,jf];omega
theorem zlQ (p:List UInt8) (N:Nat) {c:UInt8} (h:p.length+1≤N):(p++List.replicate (N - p.length) 0).set p.length c=(p++[c])++List.replicate (N - (p++[c]).length) 0:=by
 rw [List.set_append_right _ _ (jK _),Nat.sub_self,show N - p.length=(N - (p++[c]).length)+1 by simp only [jg,jm];omega,List.replicate_succ,List.set_cons_zero]
 simp
theorem zij (l:List UInt8) (i:Nat) (c:UInt8):(bvs l).set i (.int .u8 (c.toNat:Int))=bvs (l.set i c):=by
 simp [bvs,bv,List.map_set]
end Go.Proofs.YtjdbannldbgpeaaGreatDoor
namespace Go.Ab
open Go Go.Sep
variable [Facts]
def wfI (n:Int):Prop:= -9223372036854775808≤n∧n≤9223372036854775807
theorem zlK {n:Int} (h:(Lit.int .i64 n).wf=true):wfI n:=by
 simp only [Lit.wf,jJ,decide_eq_true_eq] at h
 have h1:IntKind.i64.min= -9223372036854775808:=by decide
 have h2:IntKind.i64.max=9223372036854775807:=by decide
 rw [h1,h2] at h;exact h
def wfS {α:Type} (s:List α):Prop:=s.length≤140737488355328
def ziN (f:Fld):Prop:=wfS f.name∧wfS f.value
def wfHd (h:Hd):Prop:=wfS h.method∧wfS h.target∧wfI h.minor∧(wfS h.fields∧∀ f ∈ h.fields,ziN f)∧wfI h.length
def zkw (p:Prt):Prop:=wfS p.name∧wfS p.file∧wfS p.type∧wfS p.bytes
def wfZ:(u:U)→u.den→Prop
 |.byte,_=>True
 |.int,n=>wfI n
 |.str,(s:Str)=>wfS s
 |.fld,f=>ziN f
 |.bytes,(b:Str)=>wfS b
 |.hd,h=>wfHd h
 |.prt,p=>zkw p
 |.evt,(e:Evt)=>wfI e.kind∧wfHd e.head∧wfS e.bytes∧zkw e.part∧wfI e.code
 |.upl,(x:Upl)=>wfI x.id∧wfI x.size∧wfS x.note∧wfS x.bytes∧wfI x.sent
 |.ent,(e:Ent)=>wfI e.kind∧wfI e.id∧wfI e.n∧wfS e.text
 |.stp,(e:Stp)=>wfI e.kind∧wfI e.conn∧wfI e.n∧wfS e.bytes
 |.ask,(a:Ask)=>wfHd a.h∧wfS a.body
 |.cal,(c:Cal)=>wfI c.conn∧wfS c.b
 |.lst,(e:Lst)=>wfI e.op∧wfI e.n∧wfS e.b
 |.sst,(e:Sst)=>wfI e.op∧wfI e.id∧wfI e.n∧wfS e.text
 |.rpl,(r:Rpl)=>wfI r.status∧(wfS r.fields∧∀ f ∈ r.fields,ziN f)∧wfS r.body
 |.prw,p=>zkw p
 |.med,(m:Med)=>wfS m.word∧(wfS m.params∧∀ f ∈ m.params,ziN f)
 |_,_=>True
abbrev Small {H:Type} (Pr:Program) (t:TypeId) (d:DataW H):Prop:=(d.weights Pr t).all (· ≤reachBytes)=true
section
variable {H:Type} {hsh:TypeId × Value→H} {Pr:Program} {w:World} {hF:Holds w} {base:Nat} {spare:Nat→Bool} {held:Bool}
def rZ (hsh:TypeId × Value→H) (Pr:Program) (w:World) (hF:Holds w) (base:Nat) (spare:Nat→Bool) (held:Bool) (t:TypeId) (Q:List P→Prop):Prop:=
 ∀ fuel cs y,DataW.trod hsh Pr w base spare held fuel t cs=some y→Small Pr t y.1→∃ ps,MPs (frzW w hF) ps cs∧Q ps
theorem rZ.mono {t:TypeId} {Q Q':List P→Prop} (h:rZ hsh Pr w hF base spare held t Q) (hq: ∀ ps,Q ps→Q' ps):rZ hsh Pr w hF base spare held t Q':=by
 intro fuel cs y hy hs;obtain⟨ps,h1,h2⟩:=h fuel cs y hy hs;exact⟨ps,h1,hq _ h2⟩
def QU (u:U) (ps:List P):Prop:=∃ x:u.den,ps=enc alg u x∧wfZ u x
def QL (u:U) (ps:List P):Prop:=∃ l:List u.den,ps=[.list u l]∧wfS l∧∀ x ∈ l,wfZ u x
theorem op_int {t:TypeId} (ht:Pr.underlying t=some (.int .i64)):rZ hsh Pr w hF base spare held t (QU .int):=by
 intro fuel cs y h _;obtain⟨n,rfl,hn⟩:=zgI ht fuel cs y h;exact⟨[.int .i64 n],⟨.int _ _,trivial⟩,n,rfl,zlK hn⟩
theorem op_byte {t:TypeId} (ht:Pr.underlying t=some (.int .u8)):rZ hsh Pr w hF base spare held t (QU .byte):=by
 intro fuel cs y h _;obtain⟨c,hc⟩:=ze3 ht fuel cs y h;exact⟨enc alg .byte c,zk8 hc,c,rfl,trivial⟩
theorem zdf {n:Nat} (h:n≤reachBytes):n≤140737488355328:=Nat.le_trans h (by decide)
theorem op_str {t:TypeId} (ht:Pr.underlying t=some .string):rZ hsh Pr w hF base spare held t (QU .str):=by
 intro fuel cs y h hs;obtain⟨s,rfl,hy,hl⟩:=DataW.trod_string ht h
 have e:Sep.S s.data.toList=s:=by cases s;rfl
 refine⟨[.str s.data.toList],⟨by rw [← e];exact .str _ (by simpa using hl),trivial⟩,s.data.toList,rfl,?_⟩
 rw [hy] at hs;simp only [Small,DataW.weights,List.all_cons,List.all_nil,Bool.and_true,decide_eq_true_eq] at hs;exact zdf hs
def elemsOf:DataW H→List (DataW H)
 |.slice es _=>es
 |_=>[]
theorem zbV {α:Type} {t e:TypeId} {size:Nat} {R:Sep.Rel α} (ht:Pr.underlying t=some (.slice e)) (hs:Pr.cellsOf e=size) {fuel:Nat} {cs:List Value} {y:DataW H × List MemPlace}
  (h:DataW.trod hsh Pr w base spare held fuel t cs=some y) (he: ∀ n ci z,z.1 ∈ elemsOf y.1→DataW.trod hsh Pr w base spare held n e ci=some z→∃ x,R w ci x):
  ∃ xs,RSl size R w cs xs∧xs.length=(elemsOf y.1).length:=by
 rcases DataW.trod_slice ht h with⟨rfl,rfl⟩|⟨a,len,cap,elems,rest,n,_,rfl,rfl,_,hl,hm,hlen,hel,_,_⟩
 · exact⟨[],⟨_,[],rfl,⟨none,0,rfl,jK _,jL _,fun _=>rfl,by simp,fun j u h=>by simp at h⟩,fun i x h=>by simp at h⟩,rfl⟩
 · subst hs
   have each: ∀ i,i<len→∃ ci:List Value,ci.length=Pr.cellsOf e∧(∀ j u,ci[j]? =some u→w.cell? ((a.add (i * Pr.cellsOf e)).add j)=some u)∧∃ x,R w ci x:=by
    intro i hi;have h1:=hel i hi
    rw [ji (by omega),Option.bind_eq_some_iff] at h1
    obtain⟨ci,hci,hy⟩:=h1;obtain⟨h2,h3⟩:=cells?_get hci;exact⟨ci,h2,h3,he n ci _ (List.mem_map_of_mem (List.getElem_mem _)) hy⟩
   have all: ∀ m,m≤len→∃ (vs:List Value) (xs:List α),xs.length=m∧vs.length=m * Pr.cellsOf e∧(∀ j u,vs[j]? =some u→w.cell? (a.add j)=some u)∧∀ i x,xs[i]? =some x→R w ((vs.drop (i * Pr.cellsOf e)).take (Pr.cellsOf e)) x:=by
    intro m
    induction m with
    |zero=>intro _;exact⟨[],[],rfl,by simp,fun j u h=>by simp at h,fun i x h=>by simp at h⟩
    | succ m ih=>
      intro hm'
      obtain⟨vs,xs,h1,h2,h3,h4⟩:=ih (by omega)
      obtain⟨ci,c1,c2,x,c3⟩:=each m (by omega)
      refine⟨vs++ci,xs++[x],by simp [h1],by simp [h2,c1,Nat.succ_mul],fun j u hj=> ?_,fun i z hi=> ?_⟩
      · rcases Nat.lt_or_ge j vs.length with hj1|hj1
        · rw [jw hj1] at hj;exact h3 j u hj
        · rw [jy hj1] at hj
          have h5:=c2 _ _ hj
          rw [Addr.add_add,h2,show m * Pr.cellsOf e+(j - m * Pr.cellsOf e)=j by omega] at h5
          exact h5
      · rcases Nat.lt_or_ge i xs.length with hi1|hi1
        · rw [jw hi1] at hi
          have h5:=h4 i z hi
          have h6:i * Pr.cellsOf e+Pr.cellsOf e≤vs.length:=by rw [h2,← Nat.succ_mul];exact Nat.mul_le_mul_right _ (by omega)
          rw [List.drop_append_of_le_length (by omega),List.take_append_of_le_length (by simp;omega)]
          exact h5
        · rw [jy hi1] at hi
          have hi2:i=m:=by
           have:=(jh.1 hi).1
           simp at this;omega
          subst hi2;rw [h1,Nat.sub_self] at hi
          simp at hi
          subst hi
          rw [← h2,List.drop_left,jl (by omega)]
          exact c3
   obtain⟨vs,xs,h1,h2,h3,h4⟩:=all len (jK _)
   refine⟨xs,⟨_,vs,rfl,⟨some a,cap,by rw [h1],by omega,hm,(fun h=>by cases h),by rw [h1];exact h2,fun j u hj=> ?_⟩,h4⟩,by simp [elemsOf,h1,hlen]⟩
   have hsp:a.spot=none:=by
    cases hv:vs with
    |nil=>rw [hv] at hj;simp at hj
    | cons u0 r=>
      have:=h3 0 u0 (by rw [hv];rfl)
      rw [show a.add 0=a by simp [Addr.add]] at this
      exact zkC this
   exact⟨⟨a,rfl,hsp⟩,by rw [← qJ hsp];exact h3 j u hj⟩
theorem weightsAll_mem {e:TypeId}: ∀ {es:List (DataW H)} {d:DataW H},d ∈ es→∀ n ∈ d.weights Pr e,n ∈ DataW.weightsAll Pr e es
 | x::es,d,hd,n,hn=>by
   simp only [DataW.weightsAll,List.mem_append]
   rcases List.mem_cons.1 hd with rfl|hd
   · exact .inl hn
   · exact .inr (weightsAll_mem hd n hn)
theorem zeT {t e:TypeId} (ht:Pr.underlying t=some (.slice e)) {d z:DataW H} (h:Small Pr t d) (hz:z ∈ elemsOf d):Small Pr e z:=by
 cases d<;>simp only [elemsOf,List.not_mem_nil] at hz
 refine List.all_eq_true.2 fun n hn=>List.all_eq_true.1 h n ?_;simp only [DataW.weights,ht,List.mem_cons,List.mem_append];exact .inr (.inl (weightsAll_mem hz n hn))
theorem zf3 {t e:TypeId} (ht:Pr.underlying t=some (.slice e)) (hb:Nat.blt 0 (Pr.bytesOf e)=true) {d:DataW H} (h:Small Pr t d):(elemsOf d).length≤140737488355328:=by
 cases d<;>simp only [elemsOf]<;>try exact jL _
 rename_i es ss
 have h1:=List.all_eq_true.1 h ((es.length+ss.length) * Pr.bytesOf e) (by simp [DataW.weights,ht])
 have hb:0<Pr.bytesOf e:=by simpa [Nat.blt_eq] using hb
 refine zdf (Nat.le_trans (Nat.le_trans (Nat.le_add_right _ ss.length) (Nat.le_mul_of_pos_right _ hb)) (by simpa using h1))
theorem op_list {t e:TypeId} {u:U} (ht:Pr.underlying t=some (.slice e)) (hc:Pr.cellsOf e=u.size) (hb:Nat.blt 0 (Pr.bytesOf e)=true) (he:rZ hsh Pr w hF base spare held e (QU u)):
  rZ hsh Pr w hF base spare held t (QL u):=by
 intro fuel cs y h hs
 obtain⟨l,hl,hlen⟩:=zbV (R:=fun _ cs (x:u.den)=>MPs (frzW w hF) (enc alg u x) cs∧wfZ u x) ht hc h (fun n ci z hz ht'=>by
  obtain⟨ps,h1,x,rfl,hx⟩:=he n ci z ht' (zeT ht hs hz)
  exact⟨x,h1,hx⟩)
 have hl':=hl;obtain⟨v,vs,rfl,_,hx⟩:=hl
 refine⟨[.list u l],⟨zk7 (fun _ _ h=>h.1) hl',trivial⟩,l,rfl,by unfold wfS;rw [hlen];exact zf3 ht hb hs,fun x hm=> ?_⟩
 obtain⟨i,hi⟩:=List.getElem?_of_mem hm;exact(hx i x hi).2
def QAll:List (List P→Prop)→List P→Prop
 |[],ps=>ps=[]
 |Q::Qs,ps=>∃ a b,ps=a++b∧Q a∧QAll Qs b
def lays (Pr:Program):Nat→List Field→Nat→Bool
 |o,[],n=>Nat.beq o n
 |o,f::fs,n=>Nat.beq f.offset o&&lays Pr (o+Pr.cellsOf f.type) fs n
def zbL (hsh:TypeId × Value→H) (Pr:Program) (w:World) (hF:Holds w) (base:Nat) (spare:Nat→Bool) (held:Bool):List Field→List (List P→Prop)→Prop
 |[],[]=>True
 |f::fs,Q::Qs=>rZ hsh Pr w hF base spare held f.type Q∧zbL hsh Pr w hF base spare held fs Qs
 |_,_=>False
theorem zbL.nil:zbL hsh Pr w hF base spare held [] []:=trivial
theorem zbL.cons {f:Field} {fs:List Field} {Q:List P→Prop} {Qs:List (List P→Prop)} (h:rZ hsh Pr w hF base spare held f.type Q) (k:zbL hsh Pr w hF base spare held fs Qs):zbL hsh Pr w hF base spare held (f::fs) (Q::Qs):=⟨h,k⟩
theorem MPs.append {S:Frz}: ∀ {a b:List P} {x y:List Value},MPs S a x→MPs S b y→MPs S (a++b) (x++y)
 |[],_,[],_,_,h=>h
 |_::_,_,_::_,_,h,k=>⟨h.1,MPs.append h.2 k⟩
theorem zaw {cs:List Value}: ∀ (fs:List Field) (Qs:List (List P→Prop)) (o:Nat),lays Pr o fs cs.length=true→zbL hsh Pr w hF base spare held fs Qs→
  (∀ f ∈ fs,∃ n z,DataW.trod hsh Pr w base spare held n f.type ((cs.drop f.offset).take (Pr.cellsOf f.type))=some z∧Small Pr f.type z.1)→∃ ps,MPs (frzW w hF) ps (cs.drop o)∧QAll Qs ps
 | [],[],o,hl,_,_=>by
   have:=jH hl
   exact⟨[],by rw [jE (by omega)];trivial,rfl⟩
 | f::fs,Q::Qs,o,hl,hq,hz=>by
   simp only [lays,jJ] at hl;have ho:=jH hl.1
   obtain⟨n,z,h1,h2⟩:=hz f (by simp)
   rw [ho] at h1;obtain⟨p1,m1,q1⟩:=hq.1 n _ z h1 h2
   obtain⟨p2,m2,q2⟩:=zaw fs Qs _ hl.2 hq.2 (fun g hg=>hz g (by simp [hg]))
   refine⟨p1++p2,?_,p1,p2,rfl,q1,q2⟩;have:=m1.append m2
   rwa [← List.drop_drop,List.take_append_drop] at this
 |[],_::_,_,_,h,_=>h.elim
 |_::_,[],_,_,h,_=>h.elim
theorem op_struct {t:TypeId} {fs:Array Field} {Qs:List (List P→Prop)} (ht:Pr.underlying t=some (.struct fs)) (hl:lays Pr 0 fs.toList (Pr.cellsOf t)=true) (hq:zbL hsh Pr w hF base spare held fs.toList Qs):
  rZ hsh Pr w hF base spare held t (QAll Qs):=by
 intro fuel cs y h hs;obtain⟨xs,n,_,rfl,hcl,hxl,hf⟩:=DataW.trod_struct ht h
 have:=zaw fs.toList Qs 0 (by rw [hcl];exact hl) hq (fun f hfm=>by
  obtain⟨i,hi⟩:=List.getElem?_of_mem hfm
  have hi':fs[i]? =some f:=by simpa using hi
  have hlt:i<xs.length:=by rw [hxl];exact(Array.getElem?_eq_some_iff.1 hi').1
  refine⟨n,xs[i],by rw [hf i f hi',ji hlt],List.all_eq_true.2 fun k hk=>List.all_eq_true.1 hs k ?_⟩
  simp only [DataW.weights,ht]
  exact DataW.weights_mem_each (j:=i) (t:=f.type) (by simp [hi']) (by simp [hlt]) k hk)
 simpa using this
theorem q_prw (ps:List P) (h:QAll [QU .str,QU .str,QU .str,QL .byte] ps):QU .prw ps:=by
 obtain⟨_,_,rfl,⟨a,rfl,ha⟩,_,_,rfl,⟨b,rfl,hb⟩,_,_,rfl,⟨c,rfl,hc⟩,_,_,rfl,⟨d,rfl,hd,_⟩,rfl⟩:=h;exact⟨(⟨a,b,c,d⟩:Prt),rfl,ha,hb,hc,hd⟩
theorem z_one {t:TypeId} {v:Value} {d:DataW H} {ps:List MemPlace} {Q:List P→Prop} (hr:v.oneCell'=true) (h:DataW.Trod hsh Pr w base spare held t v d ps) (hs:Small Pr t d) (ho:rZ hsh Pr w hF base spare held t Q): ∃ qs,MPs (frzW w hF) qs [v]∧Q qs:=by
 obtain⟨fuel,hf⟩:=h
 have hc:v.cells.toList=[v]:=by cases v<;>first|rfl|cases hr
 rw [hc] at hf;exact ho fuel _ _ hf hs
theorem small_nth {ts:List TypeId} {ds:List (DataW H)} (h:(DataW.weightsEach Pr ts ds).all (· ≤reachBytes)=true) {j:Nat} {t:TypeId} {d:DataW H} (ht:ts[j]? =some t) (hd:ds[j]? =some d):Small Pr t d:=
 List.all_eq_true.2 fun n hn=>List.all_eq_true.1 h n (DataW.weights_mem_each ht hd n hn)
end
end Go.Ab
namespace Go.Proofs
open Go.Shelf
def Tryz.zcc:Go.Shelf.Ren:=⟨fun|161=>119|231=>54|227=>56|233=>57|235=>59|228=>72|197=>73|151=>74|260=>84|152=>85|137=>70|119=>98|224=>42|225=>99|217=>79|266=>91|n=>n,fun|9=>9|4=>4|3=>3|5=>5|117=>99|116=>98|0=>0|124=>102|105=>115|21=>21|119=>154|46=>65|139=>157|138=>156|n=>n,fun|3=>1|4=>2|n=>n⟩
theorem Tryz.lays161:Go.Proofs.Lays.n161 Tryz.prog Tryz.zcc:= {
 mixed:=by kernel_rfl
 f119:=Tryz.func98.trans (congrArg some (by kernel_rfl))
 f137:=Tryz.func70.trans (congrArg some (by kernel_rfl))
 f151:=Tryz.func74.trans (congrArg some (by kernel_rfl))
 f152:=Tryz.func85.trans (congrArg some (by kernel_rfl))
 f161:=Tryz.func119.trans (congrArg some (by kernel_rfl))
 f197:=Tryz.func73.trans (congrArg some (by kernel_rfl))
 f217:=Tryz.func79.trans (congrArg some (by kernel_rfl))
 f224:=Tryz.func42.trans (congrArg some (by kernel_rfl))
 f225:=Tryz.func99.trans (congrArg some (by kernel_rfl))
 f227:=Tryz.func56.trans (congrArg some (by kernel_rfl))
 f228:=Tryz.func72.trans (congrArg some (by kernel_rfl))
 f231:=Tryz.func54.trans (congrArg some (by kernel_rfl))
 f233:=Tryz.func57.trans (congrArg some (by kernel_rfl))
 f235:=Tryz.func59.trans (congrArg some (by kernel_rfl))
 f260:=Tryz.func84.trans (congrArg some (by kernel_rfl))
 f266:=Tryz.func91.trans (congrArg some (by kernel_rfl))
 t0:=Tryz.underlying0
 a0:=Tryz.isAgg0
 z0:=Tryz.sizeOf0
 v0:=Tryz.zeroValue0
 t3:=Tryz.underlying3
 a3:=Tryz.isAgg3
 z3:=Tryz.sizeOf3
 v3:=Tryz.zeroValue3
 t4:=Tryz.underlying4
 a4:=Tryz.isAgg4
 z4:=Tryz.sizeOf4
 v4:=Tryz.zeroValue4
 t5:=Tryz.underlying5
 a5:=Tryz.isAgg5
 z5:=Tryz.sizeOf5
 v5:=Tryz.zeroValue5
 t9:=Tryz.underlying9
 a9:=Tryz.isAgg9
 z9:=Tryz.sizeOf9
 v9:=Tryz.zeroValue9
 t21:=Tryz.underlying21
 a21:=Tryz.isAgg21
 z21:=Tryz.sizeOf21
 v21:=Tryz.zeroValue21
 t46:=Tryz.underlying65
 a46:=Tryz.isAgg65
 z46:=Tryz.sizeOf65
 v46:=Tryz.zeroValue65
 t105:=Tryz.underlying115
 a105:=Tryz.isAgg115
 z105:=Tryz.sizeOf115
 v105:=Tryz.zeroValue115
 t116:=Tryz.underlying98
 a116:=Tryz.isAgg98
 z116:=Tryz.sizeOf98
 t117:=Tryz.underlying99
 a117:=Tryz.isAgg99
 z117:=Tryz.sizeOf99
 v117:=Tryz.zeroValue99
 t119:=Tryz.underlying154
 a119:=Tryz.isAgg154
 z119:=Tryz.sizeOf154
 t124:=Tryz.underlying102
 a124:=Tryz.isAgg102
 z124:=Tryz.sizeOf102
 v124:=Tryz.zeroValue102
 t138:=Tryz.underlying156
 a138:=Tryz.isAgg156
 z138:=Tryz.sizeOf156
 v138:=Tryz.zeroValue156
 t139:=Tryz.underlying157
 a139:=Tryz.isAgg157
 z139:=Tryz.sizeOf157
 v139:=Tryz.zeroValue157
 g3:=by kernel_rfl
 g4:=by kernel_rfl}
def Tryz.zcd:Go.Shelf.Ren:=⟨fun|160=>38|232=>55|231=>54|227=>56|234=>58|233=>57|236=>60|235=>59|228=>72|271=>75|151=>74|197=>73|120=>86|152=>85|260=>84|137=>70|119=>98|224=>42|225=>99|217=>79|266=>91|n=>n,fun|9=>9|4=>4|3=>3|5=>5|117=>99|116=>98|0=>0|124=>102|21=>21|105=>115|46=>65|119=>154|139=>157|138=>156|n=>n,fun|3=>1|4=>2|n=>n⟩
theorem Tryz.lays160:Go.Proofs.Lays.n160 Tryz.prog Tryz.zcd:= {
 mixed:=by kernel_rfl
 f119:=Tryz.func98.trans (congrArg some (by kernel_rfl))
 f120:=Tryz.func86.trans (congrArg some (by kernel_rfl))
 f137:=Tryz.func70.trans (congrArg some (by kernel_rfl))
 f151:=Tryz.func74.trans (congrArg some (by kernel_rfl))
 f152:=Tryz.func85.trans (congrArg some (by kernel_rfl))
 f160:=Tryz.func38.trans (congrArg some (by kernel_rfl))
 f197:=Tryz.func73.trans (congrArg some (by kernel_rfl))
 f217:=Tryz.func79.trans (congrArg some (by kernel_rfl))
 f224:=Tryz.func42.trans (congrArg some (by kernel_rfl))
 f225:=Tryz.func99.trans (congrArg some (by kernel_rfl))
 f227:=Tryz.func56.trans (congrArg some (by kernel_rfl))
 f228:=Tryz.func72.trans (congrArg some (by kernel_rfl))
 f231:=Tryz.func54.trans (congrArg some (by kernel_rfl))
 f232:=Tryz.func55.trans (congrArg some (by kernel_rfl))
 f233:=Tryz.func57.trans (congrArg some (by kernel_rfl))
 f234:=Tryz.func58.trans (congrArg some (by kernel_rfl))
 f235:=Tryz.func59.trans (congrArg some (by kernel_rfl))
 f236:=Tryz.func60.trans (congrArg some (by kernel_rfl))
 f260:=Tryz.func84.trans (congrArg some (by kernel_rfl))
 f266:=Tryz.func91.trans (congrArg some (by kernel_rfl))
 f271:=Tryz.func75.trans (congrArg some (by kernel_rfl))
 t0:=Tryz.underlying0
 a0:=Tryz.isAgg0
 z0:=Tryz.sizeOf0
 v0:=Tryz.zeroValue0
 t3:=Tryz.underlying3
 a3:=Tryz.isAgg3
 z3:=Tryz.sizeOf3
 v3:=Tryz.zeroValue3
 t4:=Tryz.underlying4
 a4:=Tryz.isAgg4
 z4:=Tryz.sizeOf4
 v4:=Tryz.zeroValue4
 t5:=Tryz.underlying5
 a5:=Tryz.isAgg5
 z5:=Tryz.sizeOf5
 v5:=Tryz.zeroValue5
 t9:=Tryz.underlying9
 a9:=Tryz.isAgg9
 z9:=Tryz.sizeOf9
 v9:=Tryz.zeroValue9
 t21:=Tryz.underlying21
 a21:=Tryz.isAgg21
 z21:=Tryz.sizeOf21
 v21:=Tryz.zeroValue21
 t46:=Tryz.underlying65
 a46:=Tryz.isAgg65
 z46:=Tryz.sizeOf65
 v46:=Tryz.zeroValue65
 t105:=Tryz.underlying115
 a105:=Tryz.isAgg115
 z105:=Tryz.sizeOf115
 v105:=Tryz.zeroValue115
 t116:=Tryz.underlying98
 a116:=Tryz.isAgg98
 z116:=Tryz.sizeOf98
 t117:=Tryz.underlying99
 a117:=Tryz.isAgg99
 z117:=Tryz.sizeOf99
 v117:=Tryz.zeroValue99
 t119:=Tryz.underlying154
 a119:=Tryz.isAgg154
 z119:=Tryz.sizeOf154
 t124:=Tryz.underlying102
 a124:=Tryz.isAgg102
 z124:=Tryz.sizeOf102
 v124:=Tryz.zeroValue102
 t138:=Tryz.underlying156
 a138:=Tryz.isAgg156
 z138:=Tryz.sizeOf156
 v138:=Tryz.zeroValue156
 t139:=Tryz.underlying157
 a139:=Tryz.isAgg157
 z139:=Tryz.sizeOf157
 v139:=Tryz.zeroValue157
 g3:=by kernel_rfl
 g4:=by kernel_rfl}
def Tryz.zcf:Go.Shelf.Ren:=⟨fun|137=>70|217=>79|266=>91|n=>n,fun|9=>9|5=>5|3=>3|n=>n,fun|n=>n⟩
theorem Tryz.lays137:Go.Proofs.Lays.n137 Tryz.prog Tryz.zcf:= {
 mixed:=by kernel_rfl
 f137:=Tryz.func70.trans (congrArg some (by kernel_rfl))
 f217:=Tryz.func79.trans (congrArg some (by kernel_rfl))
 f266:=Tryz.func91.trans (congrArg some (by kernel_rfl))
 t3:=Tryz.underlying3
 a3:=Tryz.isAgg3
 z3:=Tryz.sizeOf3
 v3:=Tryz.zeroValue3
 t5:=Tryz.underlying5
 a5:=Tryz.isAgg5
 z5:=Tryz.sizeOf5
 v5:=Tryz.zeroValue5
 t9:=Tryz.underlying9
 a9:=Tryz.isAgg9
 z9:=Tryz.sizeOf9
 v9:=Tryz.zeroValue9}
def Tryz.zcb:Go.Shelf.Ren:=⟨fun|219=>87|217=>79|225=>99|224=>42|267=>100|266=>91|314=>112|n=>n,fun|9=>9|3=>3|4=>4|5=>5|46=>65|146=>104|51=>103|n=>n,fun|1=>0|n=>n⟩
theorem Tryz.lays219:Go.Proofs.Lays.n219 Tryz.prog Tryz.zcb:= {
 mixed:=by kernel_rfl
 f217:=Tryz.func79.trans (congrArg some (by kernel_rfl))
 f219:=Tryz.func87.trans (congrArg some (by kernel_rfl))
 f224:=Tryz.func42.trans (congrArg some (by kernel_rfl))
 f225:=Tryz.func99.trans (congrArg some (by kernel_rfl))
 f266:=Tryz.func91.trans (congrArg some (by kernel_rfl))
 f267:=Tryz.func100.trans (congrArg some (by kernel_rfl))
 f314:=Tryz.func112.trans (congrArg some (by kernel_rfl))
 t3:=Tryz.underlying3
 a3:=Tryz.isAgg3
 z3:=Tryz.sizeOf3
 v3:=Tryz.zeroValue3
 t4:=Tryz.underlying4
 a4:=Tryz.isAgg4
 z4:=Tryz.sizeOf4
 v4:=Tryz.zeroValue4
 t5:=Tryz.underlying5
 a5:=Tryz.isAgg5
 z5:=Tryz.sizeOf5
 v5:=Tryz.zeroValue5
 t9:=Tryz.underlying9
 a9:=Tryz.isAgg9
 z9:=Tryz.sizeOf9
 v9:=Tryz.zeroValue9
 t46:=Tryz.underlying65
 a46:=Tryz.isAgg65
 z46:=Tryz.sizeOf65
 v46:=Tryz.zeroValue65
 t51:=Tryz.underlying103
 a51:=Tryz.isAgg103
 z51:=Tryz.sizeOf103
 v51:=Tryz.zeroValue103
 t146:=Tryz.underlying104
 a146:=Tryz.isAgg104
 z146:=Tryz.sizeOf104
 v146:=Tryz.zeroValue104
 g1:=by kernel_rfl}
open Go.RowKit in
theorem Tryz.strings_IndexByte (s:ByteArray) (c:Int) (w:World):
 Calls Tryz.prog 70 #[.string s,.int .u8 c] w fun e w'=>e=.returned (.int .i64 (Lib.indexByte s.data.toList c.toNat.toUInt8))∧w'=w:=Any.strings_IndexByte Tryz.lays137 s c w
open Go.RowKit Go.Lib in
theorem Tryz.stringslite_Index_one (s:ByteArray) (c:UInt8) (w:World):
 Calls Tryz.prog 87 #[.string s,.string ⟨#[c]⟩] w fun e w'=>e=.returned (.int .i64 (Lib.indexByte s.data.toList c))∧w'=w:=Any.stringslite_Index_one Tryz.lays219 s c w
theorem Tryz.strings_Trim_laid (s cutset:ByteArray) (w:World) (hs:s.size≤9223372036854775807) (hcs:cutset.size<4294967281) (hascii: ∀ (j:Nat) b,cutset.data.toList[j]? =some b→b.toNat<128):
 Calls Tryz.prog 38 #[.string s,.string cutset] w fun e w'=>e=.returned (.string ⟨(Lib.trimS s.data.toList cutset.data.toList).toArray⟩)∧Go.RowKit.Below w.heap.size w w':=Any.strings_Trim_laid Tryz.lays160 (by kernel_rfl) s cutset w hs hcs hascii
theorem Tryz.strings_TrimLeft_laid (s cutset:ByteArray) (w:World) (hcs:cutset.size<4294967281) (hascii: ∀ (j:Nat) b,cutset.data.toList[j]? =some b→b.toNat<128):
 Calls Tryz.prog 119 #[.string s,.string cutset] w fun e w'=>e=.returned (.string ⟨(Lib.trimLeftS s.data.toList cutset.data.toList).toArray⟩)∧Go.RowKit.Below w.heap.size w w':=Any.strings_TrimLeft_laid Tryz.lays161 (by kernel_rfl) s cutset w hcs hascii
end Go.Proofs
namespace Go.Ab
open Go Go.Sep
variable [Facts]
theorem Uy {w w':World} (h:RowKit.Below w.heap.size w w'):Keeps (fun k=>k<w.heap.size) w w':=⟨h.1,h.2,h.3,h.4,h.5⟩
theorem Spc.of_below {Pr:Program} {f:Nat} {args:List D} {hp:List HO} {d:D} (hf: ∃ fn,Pr.funcs[f]? =some fn∧(fn.name == "runtime.NumGoroutine")=false∧fn.body.isNone=false)
  (h: ∀ (S:Frz) (bs:List Value) (w:World) (vs:List Value),Facts.p w→MDs S bs args vs→∃ v,MD S bs d v∧Calls Pr f vs.toArray w fun e w'=>e=.returned v∧RowKit.Below w.heap.size w w'):Spc Pr f args hp (.ret d) hp:=by
 refine⟨hf,fun S K fr w vs hH hM hA=> ?_⟩;obtain⟨v,hv,hc⟩:=h S _ w vs (At.frz hA).facts hM;refine hc.mono fun e w' he=> ?_;obtain⟨he,hb⟩:=he;subst he;exact⟨S,K,Frz.le.refl S,Ext.refl _,hH,hA.keep (Uy hb),hv⟩
end Go.Ab
namespace Go.Proofs.YtjdbannldbgpeaaGreatDoor
open Go Go.Sep Go.Ab
set_option maxRecDepth 100000
theorem zcX (s cs:Str):(Lib.trimS s cs).length≤s.length:=by
 unfold Lib.trimS Lib.trimLeftS Lib.trimRightS;refine Nat.le_trans (List.dropWhile_sublist _).length_le ?_;rw [List.length_reverse]
 exact Nat.le_trans (List.dropWhile_sublist _).length_le (by rw [List.length_reverse];exact jK _)
theorem uP: ∀ (s:Str) (c:UInt8),-1≤Lib.indexByte s c∧Lib.indexByte s c<s.length
 |[],c=>by simp [Lib.indexByte]
 | b ::l,c=>by
   have:=uP l c;unfold Lib.indexByte;rw [je]
   split
   · omega
   · split
     · omega
     · omega
def Ri (I:Alg):KU
 |[.v (.one (.p (.str s))),.v (.one (.p (.str ([32,9]))))],[]=>(fun(s:Str)=>(some (.one ⟨I.hid (True),(.ret (.v (.one (.p (.str (I.hid (Lib.trimS s [32,9]))))))),[]⟩):Option CT)) s
 |_,_=>none
theorem zfR:zO Tryz.prog 38 (Ri alg):=by
 intro args hp r h;unfold Ri at h;split at h<;>cases h
 rename_i s;simp only [CT.Good,zI];intro _
 refine Spc.of_below ⟨_,Tryz.func38,by kernel_rfl,by kernel_rfl⟩ fun S bs w vs _ hM=> ?_
 obtain⟨v,r,rfl⟩: ∃ v r,vs=v::r:=by cases vs with|nil=>exact hM.elim|cons v r=>exact⟨v,r,rfl⟩
 obtain⟨h1,hM⟩:=hM
 obtain⟨v2,r2,rfl⟩: ∃ v r2,r=v::r2:=by cases r with|nil=>exact hM.elim|cons v r=>exact⟨v,r,rfl⟩
 obtain⟨h2,hM⟩:=hM
 obtain rfl:r2=[]:=by cases r2 with|nil=>rfl|cons v r=>exact hM.elim
 cases h1 with
 | str _ hl1=>
   cases h2 with
   | str _ hl2=>
     refine⟨.string (Sep.S (Lib.trimS s [32,9])),.str _ (Nat.le_trans (zcX _ _) hl1),?_⟩
     exact Tryz.strings_Trim_laid (Sep.S s) (Sep.S [32,9]) w (by have:=hl1;unfold maxLen at this;exact this) (by decide) (fun j b hb=>by
      have:=List.mem_of_getElem? hb
      rcases(by simpa [Sep.S] using this:b=32∨b=9) with rfl|rfl<;>decide)
def zkz:Know Tryz.prog:=⟨38,Ri,zfR⟩
def zky:Know Tryz.prog:=⟨38,fun I=>zT I (Ri I),zi zfR⟩
def uQ (I:Alg):KU
 |[.v (.one (.p (.str s))),.v (.one (.p (.int .u8 k)))],[]=>(fun(s:Str)=>(some (.one ⟨I.hid (True),(.ret (.v (.one (.p (.int .i64 (I.hid (Lib.indexByte s k.toNat.toUInt8))))))),[]⟩):Option CT)) s
 |_,_=>none
theorem XP:zO Tryz.prog 70 (uQ alg):=by
 intro args hp r h;unfold uQ at h;split at h<;>cases h
 rename_i s k;simp only [CT.Good,zI];intro _
 refine Spc.of_below ⟨_,Tryz.func70,by kernel_rfl,by kernel_rfl⟩ fun S bs w vs _ hM=> ?_
 obtain⟨v,r,rfl⟩: ∃ v r,vs=v::r:=by cases vs with|nil=>exact hM.elim|cons v r=>exact⟨v,r,rfl⟩
 obtain⟨h1,hM⟩:=hM
 obtain⟨v2,r2,rfl⟩: ∃ v r2,r=v::r2:=by cases r with|nil=>exact hM.elim|cons v r=>exact⟨v,r,rfl⟩
 obtain⟨h2,hM⟩:=hM
 obtain rfl:r2=[]:=by cases r2 with|nil=>rfl|cons v r=>exact hM.elim
 cases h1 with
 | str _ hl1=>
   cases h2 with
   | int _ _=>
     refine⟨.int .i64 (Lib.indexByte s k.toNat.toUInt8),.int _ _,?_⟩;refine(Tryz.strings_IndexByte (Sep.S s) k w).mono fun e w' h=> ?_;obtain⟨he,rfl⟩:=h;exact⟨he,RowKit.Below.refl _ _⟩
def zaV:Know Tryz.prog:=⟨70,uQ,XP⟩
def zaU:Know Tryz.prog:=⟨70,fun I=>zT I (uQ I),zi XP⟩
def YF (I:Alg):KU
 |[.v (.one (.p (.str s))),.v (.one (.p (.str ([c]))))],[]=>(fun(s:Str)=>(some (.one ⟨I.hid (True),(.ret (.v (.one (.p (.int .i64 (I.hid (Lib.indexByte s c))))))),[]⟩):Option CT)) s
 |_,_=>none
theorem zaW:zO Tryz.prog 87 (YF alg):=by
 intro args hp r h;unfold YF at h;split at h<;>cases h
 rename_i s c;simp only [CT.Good,zI];intro _
 refine Spc.of_below ⟨_,Tryz.func87,by kernel_rfl,by kernel_rfl⟩ fun S bs w vs _ hM=> ?_
 obtain⟨v,r,rfl⟩: ∃ v r,vs=v::r:=by cases vs with|nil=>exact hM.elim|cons v r=>exact⟨v,r,rfl⟩
 obtain⟨h1,hM⟩:=hM
 obtain⟨v2,r2,rfl⟩: ∃ v r2,r=v::r2:=by cases r with|nil=>exact hM.elim|cons v r=>exact⟨v,r,rfl⟩
 obtain⟨h2,hM⟩:=hM
 obtain rfl:r2=[]:=by cases r2 with|nil=>rfl|cons v r=>exact hM.elim
 cases h1 with
 | str _ hl1=>
   cases h2 with
   | str _ _=>
     refine⟨.int .i64 (Lib.indexByte s c),.int _ _,?_⟩;refine(Tryz.stringslite_Index_one (Sep.S s) c w).mono fun e w' h=> ?_;obtain⟨he,rfl⟩:=h;exact⟨he,RowKit.Below.refl _ _⟩
def zhd:Know Tryz.prog:=⟨87,YF,zaW⟩
def zhc:Know Tryz.prog:=⟨87,fun I=>zT I (YF I),zi zaW⟩
end Go.Proofs.YtjdbannldbgpeaaGreatDoor
namespace Go.Proofs.YtjdbannldbgpeaaGreatDoor
open Go Go.Sep Go.Ab
set_option maxRecDepth 100000
def lowK (k:Int):Int:=if 65≤k∧k≤90 then k+32 else k
def Ul (k:Int):Bool:=decide (48≤k∧k≤57)
def ZI (k:Int):Bool:=decide (97≤lowK k∧lowK k≤122)
def marks:Str:=[33,35,36,37,38,39,42,43,45,46,94,95,96,124,126]
def tokB (k:Int):Bool:=Ul k||(ZI k||decide (0≤Lib.indexByte marks k.toNat.toUInt8))
def qc (k:Int):Bool:=decide (k=9∨32≤k∧k≠127)
def hexK (k:Int):Int:=if Ul k then k - 48 else if ZI k&&decide (lowK k≤102) then lowK k - 97+10 else -1
theorem zmK (n:Int) (h:0≤n∧n≤255):IntKind.u8.wrap n=n:=by
 unfold IntKind.wrap
 simp only [show IntKind.u8.signed=false by decide,show IntKind.u8.bits=8 by decide,Bool.false_and,jd,if_false]
 omega
theorem wrap64 (n:Int) (h: -9223372036854775808≤n∧n≤9223372036854775807):IntKind.i64.wrap n=n:=by
 unfold IntKind.wrap
 simp only [show IntKind.i64.signed=true by decide,show IntKind.i64.bits=64 by decide]
 split<;>simp_all<;>omega
theorem zg0 {k:Int} (h:0≤k∧k≤255):0≤lowK k∧lowK k≤255:=by unfold lowK;split<;>omega
def WX (I:Alg):KU
 |[.v (.one (.p (.int .u8 k)))],[]=>some (.one ⟨I.hid (True),(.ret (.v (.one (.p (.bool (I.hid (Ul k))))))),[]⟩)
 |_,_=>none
theorem zev:zO Tryz.prog 68 (WX alg):=by
 intro args hp r h;unfold WX at h;split at h<;>cases h
 rename_i k;simp only [CT.Good,zI];intro _
 refine spH Tryz.func68 (by kernel_rfl) { keep:=some [0,2]} [] (by kernel_rfl) ?_
 intro I X hI hX
 refine orcL ?_;go_invoke;refine orcS (by kernel_rfl) ?_
 simp only [zJ,Nat.reduceAdd];subst hI;simp only [nrmA,nrmB];unfold Ul
 exact⟨fun h=>decide_eq_decide.2 (by omega),fun h=>(decide_eq_false (by omega)).symm⟩
def zeu:Know Tryz.prog:=⟨68,WX,zev⟩
def zet:Know Tryz.prog:=⟨68,fun I=>zT I (WX I),zi zev⟩
def WI (I:Alg):KU
 |[.v (.one (.p (.int .u8 k)))],[]=>some (.one ⟨I.hid (0≤k∧k≤255),(.ret (.v (.one (.p (.int .u8 (I.hid (lowK k))))))),[]⟩)
 |_,_=>none
theorem zdL:zO Tryz.prog 64 (WI alg):=by
 intro args hp r h;unfold WI at h;split at h<;>cases h
 rename_i k;simp only [CT.Good,zI];intro hneed
 refine spH Tryz.func64 (by kernel_rfl) { keep:=some [0,2]} [] (by kernel_rfl) ?_
 intro I X hI hX
 refine orcL ?_;go_invoke;refine orcS (by kernel_rfl) ?_
 simp only [zJ,Nat.reduceAdd];subst hI;simp only [nrmA,nrmB];unfold lowK
 (repeat' (first|refine ja ?_ ?_|intro _))<;>first|omega|exact jb|exact jc ‹False›|skip
def WH:Know Tryz.prog:=⟨64,WI,zdL⟩
def WG:Know Tryz.prog:=⟨64,fun I=>zT I (WI I),zi zdL⟩
def YD (I:Alg):KU
 |[.v (.one (.p (.int .u8 k)))],[]=>some (.one ⟨I.hid (0≤k∧k≤255),(.ret (.v (.one (.p (.bool (I.hid (ZI k))))))),[]⟩)
 |_,_=>none
theorem zaK:zO Tryz.prog 69 (YD alg):=by
 intro args hp r h;unfold YD at h;split at h<;>cases h
 rename_i k;simp only [CT.Good,zI];intro hneed
 refine spH Tryz.func69 (by kernel_rfl) { keep:=some [0,2]} [WH,WG] (by kernel_rfl) ?_
 intro I X hI hX
 refine orcL ?_;go_invoke;refine orcS (by kernel_rfl) ?_
 simp only [zJ,Nat.reduceAdd];subst hI;simp only [nrmA,nrmB];unfold ZI
 (repeat' (first|refine ja ?_ ?_|intro _))<;>first|omega|exact jb|exact jc ‹False›|skip
 all_goals first|exact decide_eq_decide.2 (by omega)|exact(decide_eq_false (by omega)).symm|exact(decide_eq_true (by omega)).symm|(rw [show(k == 127)=decide (k=127) from rfl,← decide_not];exact decide_eq_decide.2 (by omega))
def zaJ:Know Tryz.prog:=⟨69,YD,zaK⟩
def zaI:Know Tryz.prog:=⟨69,fun I=>zT I (YD I),zi zaK⟩
def Wh (I:Alg):KU
 |[.v (.one (.p (.int .u8 k)))],[]=>some (.one ⟨I.hid (0≤k∧k≤255),(.ret (.v (.one (.p (.bool (I.hid (tokB k))))))),[]⟩)
 |_,_=>none
theorem zc0:zO Tryz.prog 49 (Wh alg):=by
 intro args hp r h;unfold Wh at h;split at h<;>cases h
 rename_i k;simp only [CT.Good,zI];intro hneed
 refine spH Tryz.func49 (by kernel_rfl) { keep:=some [0,2]} [zaV,zaU,zeu,zet,zaJ,zaI] (by kernel_rfl) ?_
 intro I X hI hX
 refine orcL ?_;go_invoke;refine orcS (by kernel_rfl) ?_
 simp only [zJ,Nat.reduceAdd];subst hI;simp only [nrmA,nrmB];unfold tokB marks
 (repeat' (first|refine ja ?_ ?_|intro _))<;>first|omega|exact jb|exact jc ‹False›|skip
 all_goals simp [*]
def sQ:Know Tryz.prog:=⟨49,Wh,zc0⟩
def ZW:Know Tryz.prog:=⟨49,fun I=>zT I (Wh I),zi zc0⟩
def qL (I:Alg):KU
 |[.v (.one (.p (.int .u8 k)))],[]=>some (.one ⟨I.hid (True),(.ret (.v (.one (.p (.bool (I.hid (qc k))))))),[]⟩)
 |_,_=>none
theorem UM:zO Tryz.prog 37 (qL alg):=by
 intro args hp r h;unfold qL at h;split at h<;>cases h
 rename_i k;simp only [CT.Good,zI];intro _
 refine spH Tryz.func37 (by kernel_rfl) { keep:=some [0,2]} [] (by kernel_rfl) ?_
 intro I X hI hX
 refine orcL ?_;go_invoke;refine orcS (by kernel_rfl) ?_
 simp only [zJ,Nat.reduceAdd];subst hI;simp only [nrmA,nrmB];unfold qc
 (repeat' (first|refine ja ?_ ?_|intro _))<;>first|omega|exact jb|exact jc ‹False›|skip
 all_goals first|exact decide_eq_decide.2 (by omega)|exact(decide_eq_false (by omega)).symm|exact(decide_eq_true (by omega)).symm|(rw [show(k == 127)=decide (k=127) from rfl,← decide_not];exact decide_eq_decide.2 (by omega))
def vY:Know Tryz.prog:=⟨37,qL,UM⟩
def qK:Know Tryz.prog:=⟨37,fun I=>zT I (qL I),zi UM⟩
def zdY (I:Alg):KU
 |[.v (.one (.p (.int .u8 k)))],[]=>some (.one ⟨I.hid (0≤k∧k≤255),(.ret (.v (.one (.p (.int .i64 (I.hid (hexK k))))))),[]⟩)
 |_,_=>none
theorem zke:zO Tryz.prog 97 (zdY alg):=by
 intro args hp r h;unfold zdY at h;split at h<;>cases h
 rename_i k;simp only [CT.Good,zI];intro hneed
 refine spH Tryz.func97 (by kernel_rfl) { keep:=some [0,2]} [zeu,zet,WH,WG,zaJ,zaI] (by kernel_rfl) ?_
 intro I X hI hX
 refine orcL ?_;go_invoke;refine orcS (by kernel_rfl) ?_
 simp only [zJ,Nat.reduceAdd];subst hI;simp only [nrmA,nrmB]
 (repeat' (first|refine ja ?_ ?_|intro _))<;>first|omega|exact jb|exact jc ‹False›|skip
 all_goals first
  |(have:=of_decide_eq_true ‹Ul k=true›;omega)
  |(have:=of_decide_eq_true ‹Ul k=true›;unfold hexK;rw [if_pos ‹Ul k=true›,wrap64 _ (by omega)])
  |(have:=of_decide_eq_true ‹ZI k=true›;omega)
  |(have:=of_decide_eq_true ‹ZI k=true›;rw [wrap64 _ (by omega)];omega)
  |(have:=of_decide_eq_true ‹ZI k=true›;rw [wrap64 _ (by omega)];unfold hexK;simp [*])
  |(unfold hexK;simp [*])
def zkd:Know Tryz.prog:=⟨97,zdY,zke⟩
def zkc:Know Tryz.prog:=⟨97,fun I=>zT I (zdY I),zi zke⟩
end Go.Proofs.YtjdbannldbgpeaaGreatDoor
namespace Go.Proofs.YtjdbannldbgpeaaGreatDoor
open Go Go.Sep Go.Ab
set_option maxRecDepth 100000
def tokA (s:Str):Bool:=s.all fun c=>tokB (c.toNat:Int)
def yG (s:Str):Bool:=s.all fun c=>qc (c.toNat:Int)
theorem vW (c:UInt8):0≤(c.toNat:Int)∧(c.toNat:Int)≤255:=by have:=c.toNat_lt;omega
theorem zeE {p:UInt8→Bool} {s:Str} {i:Nat} (h:i<s.length):(s.drop i).all p=(p (s.getD i 0)&&(s.drop (i+1)).all p):=by
 rw [jD h,List.all_cons];simp [h]
def Y8 (I:Alg):KU
 |[.v (.one (.p (.str s))),.v (.one (.fn 49 []))],[]=>(fun(s:Str)=>(some (.one ⟨I.hid (s.length≤1000000),(.ret (.v (.one (.p (.bool (I.hid (tokA s))))))),[]⟩):Option CT)) s
 |_,_=>none
theorem zbJ:zO Tryz.prog 36 (Y8 alg):=by
 intro args hp r h;unfold Y8 at h;split at h<;>cases h
 rename_i s;simp only [CT.Good,zI];intro hneed;generalize hr:tokA s=r
 refine spH Tryz.func36 (by kernel_rfl) { keep:=some [0,1,4,5,7,8]} [sQ] (by kernel_rfl) ?_
 intro I X hI hX
 refine orcL ?_;go_invoke;refine orcS (by kernel_rfl) ?_
 simp only [zJ,Nat.reduceAdd]
 refine lpH hI [sQ] hX [0,1,7,8] (fun(i:Nat)=>i≤s.length∧tokA (s.drop i)=r) (fun(i:Nat)=>⟨[(0,.v (.one (.p (.str s)))),(1,.v (.one (.fn 49 []))),(7,.v (.one (.p (.int .i64 ((I.len (α:=UInt8) s)))))),(8,.v (.one (.p (.int .i64 i))))],[],18,none⟩) (fun(i:Nat)=>s.length - i) 0 (by kernel_rfl) (by kernel_rfl) ?_ ?_
 · exact⟨jL _,hr⟩
 rintro i ⟨h1,h2⟩ A hA
 refine orcL ?_;go_invoke;refine orcS (by kernel_rfl) ?_
 simp only [zJ,Nat.reduceAdd];subst hI;simp only [nrmA,nrmB];have hb:=vW (s.getD i 0);have hd:i<s.length→tokA (s.drop i)=(tokB (s.getD i 0).toNat&&tokA (s.drop (i+1))):=fun h=>zeE h;generalize s.getD i 0=x at *
 (repeat' (first|refine ja ?_ ?_|intro _))<;>first|omega|exact jb|exact jc ‹False›|skip
 all_goals first
  |(rw [← h2,hd (by omega)];simp [*];done)
  |(refine hA (i+1) ⟨by omega,?_⟩ (by omega);rw [← h2,hd (by omega)];simp [*];done)
  |(rw [← h2,jE (by omega)];rfl)
def Y7:Know Tryz.prog:=⟨36,Y8,zbJ⟩
def Y6:Know Tryz.prog:=⟨36,fun I=>zT I (Y8 I),zi zbJ⟩
def Zq (I:Alg):KU
 |[.v (.one (.p (.str s))),.v (.one (.fn 37 []))],[]=>(fun(s:Str)=>(some (.one ⟨I.hid (s.length≤1000000),(.ret (.v (.one (.p (.bool (I.hid (yG s))))))),[]⟩):Option CT)) s
 |_,_=>none
theorem S9:zO Tryz.prog 36 (Zq alg):=by
 intro args hp r h;unfold Zq at h;split at h<;>cases h
 rename_i s;simp only [CT.Good,zI];intro hneed;generalize hr:yG s=r
 refine spH Tryz.func36 (by kernel_rfl) { keep:=some [0,1,4,5,7,8]} [vY,Y7,Y6] (by kernel_rfl) ?_
 intro I X hI hX
 refine orcL ?_;go_invoke;refine orcS (by kernel_rfl) ?_
 simp only [zJ,Nat.reduceAdd]
 refine lpH hI [vY,Y7,Y6] hX [0,1,7,8] (fun(i:Nat)=>i≤s.length∧yG (s.drop i)=r) (fun(i:Nat)=>⟨[(0,.v (.one (.p (.str s)))),(1,.v (.one (.fn 37 []))),(7,.v (.one (.p (.int .i64 ((I.len (α:=UInt8) s)))))),(8,.v (.one (.p (.int .i64 i))))],[],18,none⟩) (fun(i:Nat)=>s.length - i) 0 (by kernel_rfl) (by kernel_rfl) ?_ ?_
 · exact⟨jL _,hr⟩
 rintro i ⟨h1,h2⟩ A hA
 refine orcL ?_;go_invoke;refine orcS (by kernel_rfl) ?_
 simp only [zJ,Nat.reduceAdd];subst hI;simp only [nrmA,nrmB];have hb:=vW (s.getD i 0);have hd:i<s.length→yG (s.drop i)=(qc (s.getD i 0).toNat&&yG (s.drop (i+1))):=fun h=>zeE h;generalize s.getD i 0=x at *
 (repeat' (first|refine ja ?_ ?_|intro _))<;>first|omega|exact jb|exact jc ‹False›|skip
 all_goals first
  |(rw [← h2,hd (by omega)];simp [*];done)
  |(refine hA (i+1) ⟨by omega,?_⟩ (by omega);rw [← h2,hd (by omega)];simp [*];done)
  |(rw [← h2,jE (by omega)];rfl)
def SY:Know Tryz.prog:=⟨36,Zq,S9⟩
def SX:Know Tryz.prog:=⟨36,fun I=>zT I (Zq I),zi S9⟩
def xk (s:Str):Bool:=decide (s≠[])&&tokA s
theorem zdT (s:Str) (hneed:s.length≤1000000):Spc Tryz.prog 27 [.v (.one (.p (.str s)))] [] (.ret (.v (.one (.p (.bool (xk s)))))) []:=by
 refine spH Tryz.func27 (by kernel_rfl) { keep:=some [0,2]} [sQ,ZW,Y7,Y6,SY,SX] (by kernel_rfl) ?_
 intro I X hI hX
 refine orcL ?_;go_invoke;refine orcS (by kernel_rfl) ?_
 simp only [zJ,Nat.reduceAdd];subst hI;simp only [nrmA,nrmB];unfold xk
 (repeat' (first|refine ja ?_ ?_|intro _))<;>first|omega|exact jb|exact jc ‹False›|skip
 all_goals simp [*]
def Zc (I:Alg):KU
 |[.v (.one (.p (.str s)))],[]=>(fun(s:Str)=>(some (.one ⟨I.hid (s.length≤1000000),(.ret (.v (.one (.p (.bool (I.hid (xk s))))))),[]⟩):Option CT)) s
 |_,_=>none
theorem TB:zO Tryz.prog 27 (Zc alg):=by
 intro args hp r h;unfold Zc at h
 split at h
 · cases h;exact fun hn=>zdT _ hn
 · cases h
def sG:Know Tryz.prog:=⟨27,Zc,TB⟩
def sF:Know Tryz.prog:=⟨27,fun I=>zT I (Zc I),zi TB⟩
def uN (I:Alg):KU
 |[.v (.one (.p (.str s)))],[]=>(fun(s:Str)=>(some (.one ⟨I.hid (s.length≤1000000),(.ret (.v (.one (.p (.bool (I.hid (yG s))))))),[]⟩):Option CT)) s
 |_,_=>none
theorem XO:zO Tryz.prog 22 (uN alg):=by
 intro args hp r h;unfold uN at h;split at h<;>cases h
 rename_i s;simp only [CT.Good,zI];intro hneed
 refine spH Tryz.func22 (by kernel_rfl) { keep:=some [0,2]} [vY,qK,Y7,Y6,SY,SX] (by kernel_rfl) ?_
 intro I X hI hX
 refine orcL ?_;go_invoke;refine orcS (by kernel_rfl) ?_
 simp only [zJ,Nat.reduceAdd];subst hI;simp only [nrmA,nrmB];exact hneed
def wG:Know Tryz.prog:=⟨22,uN,XO⟩
def wF:Know Tryz.prog:=⟨22,fun I=>zT I (uN I),zi XO⟩
theorem zm3 {p:Int→Prop} [∀ k,Decidable (p k)] (h: ∀ n:Fin 256,p (n.1:Int)) {k:Int} (hk:0≤k∧k≤255):p k:=by
 have:=h ⟨k.toNat,by omega⟩
 rwa [show((k.toNat:Nat):Int)=k by omega] at this
end Go.Proofs.YtjdbannldbgpeaaGreatDoor
namespace Go.Proofs.YtjdbannldbgpeaaGreatDoor
open Go Go.Sep Go.Ab
set_option maxRecDepth 100000
def lowC (x:UInt8):UInt8:=if 65≤x.toNat∧x.toNat≤90 then x+32 else x
def lowS (s:Str):Str:=s.map lowC
theorem wo (s:Str):(lowS s).length=s.length:=by simp [lowS]
theorem zfe (x:UInt8):((lowC x).toNat:Int)=lowK x.toNat:=by
 unfold lowC lowK;have:=x.toNat_lt
 split
 · rw [if_pos (by omega),UInt8.toNat_add]
   simp only [show(32:UInt8).toNat=32 from rfl];omega
 · rw [if_neg (by omega)]
theorem zk3 (x:UInt8):UInt8.ofNat (lowK x.toNat).toNat=lowC x:=by
 rw [← zfe,jI,UInt8.ofNat_toNat]
def bl (c:UInt8):Bool:=([32,9]:Str).contains c
def trL (s:Str):Str:=s.dropWhile bl
def trR (s:Str):Str:=(s.reverse.dropWhile bl).reverse
theorem zcY (s:Str):Lib.trimS s [32,9]=trL (trR s):=rfl
theorem X9 (c:UInt8) (l:Str):trL (c::l)=if bl c then trL l else c::l:=by unfold trL;rw [List.dropWhile_cons]
theorem zcZ (c:UInt8) (l:Str):trR (c::l)=if trR l=[]∧bl c=true then [] else c::trR l:=by
 unfold trR;rw [List.reverse_cons,List.dropWhile_append]
 cases hd:l.reverse.dropWhile bl with
 |nil=>cases hb:bl c<;>simp [hb,List.dropWhile]
 |cons y r=>simp
theorem zbQ: ∀ s:Str,trL (trR s)=trR (trL s)
 |[]=>rfl
 | c ::l=>by
   have ih:=zbQ l;rw [zcZ,X9]
   by_cases hb:bl c=true
   · rw [if_pos hb,← ih]
     by_cases h0:trR l=[]
     · rw [if_pos ⟨h0,hb⟩,h0]
     · rw [if_neg (fun h=>h0 h.1),X9,if_pos hb]
   · rw [if_neg hb,if_neg (fun h=>hb h.2),X9,if_neg hb,zcZ,if_neg (fun h=>hb h.2)]
def W9 (I:Alg):KU
 |[.v (.one (.p (.str s)))],[]=>(fun(s:Str)=>(some (.one ⟨I.hid (True),(.ret (.v (.one (.p (.str (I.hid (Lib.trimS s [32,9]))))))),[]⟩):Option CT)) s
 |_,_=>none
theorem zeB:zO Tryz.prog 23 (W9 alg):=by
 intro args hp r h;unfold W9 at h;split at h<;>cases h
 rename_i s;simp only [CT.Good,zI];intro _
 refine spH Tryz.func23 (by kernel_rfl) { keep:=some [0,2]} [zkz,zky] (by kernel_rfl) ?_
 intro I X hI hX
 refine orcL ?_;go_invoke;refine orcS (by kernel_rfl) ?_
 simp only [zJ,Nat.reduceAdd];subst hI;simp only [nrmA,nrmB]
 try trivial
def QI:Know Tryz.prog:=⟨23,W9,zeB⟩
def QH:Know Tryz.prog:=⟨23,fun I=>zT I (W9 I),zi zeB⟩
def Y3 (I:Alg):KU
 |[.v (.one (.p (.str s)))],[]=>(fun(s:Str)=>(some (.one ⟨I.hid (s.length≤1000000),(.ret (.v (.one (.p (.str (I.hid (lowS s))))))),[]⟩):Option CT)) s
 |_,_=>none
theorem zbA:zO Tryz.prog 45 (Y3 alg):=by
 intro args hp r h;unfold Y3 at h;split at h<;>cases h
 rename_i s;simp only [CT.Good,zI];intro hneed
 refine spH Tryz.func45 (by kernel_rfl) { keep:=some [0,2,3,4,5,8,9,10]} [WH,WG] (by kernel_rfl) ?_
 intro I X hI hX
 refine orcL ?_;go_invoke;refine orcS (by kernel_rfl) ?_
 simp only [zJ,Nat.reduceAdd]
 refine lpH hI [WH,WG] hX [0,3,8,9,10] (fun(g:Nat × Str)=>match g with|(i,b)=>i≤s.length∧b=lowS (s.take i)++s.drop i) (fun(g:Nat × Str)=>match g with|(i,b)=>⟨[(0,.v (.one (.p (.str s)))),(3,.v (.one (.row 0))),(8,.v (.one (.row 0))),(9,.v (.one (.p (.int .i64 ((I.len (α:=UInt8) s)))))),(10,.v (.one (.p (.int .i64 i))))],[.row .byte 5 b],23,none⟩) (fun(g:Nat × Str)=>match g with|(i,b)=>s.length - i) (0,s) (by kernel_rfl) (by kernel_rfl) ?_ ?_
 · exact⟨jL _,rfl⟩
 rintro⟨i,b⟩ ⟨h1,h2⟩ A hA;simp only at hA
 refine orcL ?_;go_invoke;refine orcS (by kernel_rfl) ?_
 simp only [zJ,Nat.reduceAdd];subst hI;simp only [nrmA,nrmB]
 have hlen:b.length=s.length:=by rw [h2,jg,wo,jq,jB];omega
 have hx:i<s.length→b.getD i 0=s.getD i 0:=fun h=>by
  rw [h2,jG,jG,jy (by rw [wo,jq];omega),wo,jq,jF]
  congr 2
  omega
 have hset:i<s.length→b.set i (lowC (s.getD i 0))=lowS (s.take (i+1))++s.drop (i+1):=fun h=>by
  have e:(lowS (s.take i)).length=i:=by rw [wo,jq];omega
  rw [h2,List.set_append_right _ _ (by omega),e,Nat.sub_self,jD h,List.set_cons_zero,jA h,show s.getD i 0=s[i] by simp [h]]
  unfold lowS;rw [List.map_append,jk];rfl
 have hby:=vW (s.getD i 0);have hlk:=zg0 hby;refine⟨fun c=> ?_,fun c=> ?_⟩
 · rw [hx (by omega),zk3,hset (by omega)]
   exact⟨by omega,by omega,by omega,by omega,by omega,by omega,by omega,hA (i+1,_) ⟨by simp only;omega,rfl⟩ (by simp only;omega)⟩
 · rw [h2,jE (by omega),jl (by omega),List.append_nil]
def xC:Know Tryz.prog:=⟨45,Y3,zbA⟩
def xB:Know Tryz.prog:=⟨45,fun I=>zT I (Y3 I),zi zbA⟩
end Go.Proofs.YtjdbannldbgpeaaGreatDoor
namespace Go.Proofs.YtjdbannldbgpeaaGreatDoor
open Go Go.Sep Go.Ab
set_option maxRecDepth 100000
theorem zfQ {p:UInt8→Bool} {s:Str} {i:Nat} (h:i≤(s.takeWhile p).length):(i<s.length∧p (s.getD i 0)=true)↔i<(s.takeWhile p).length:=by
 induction s generalizing i with
 |nil=>simp
 | cons c r ih=>
   by_cases hc:p c=true
   · simp only [List.takeWhile_cons,hc,if_true,je] at h ⊢
     cases i with
     |zero=>simp [hc]
     | succ i=>
       have:=ih (i:=i) (by omega)
       simp only [List.getD_cons_succ];constructor
       · rintro⟨h1,h2⟩;have:=this.1 ⟨by omega,h2⟩;omega
       · intro h1;have:=this.2 (by omega);exact⟨by omega,this.2⟩
   · simp only [List.takeWhile_cons,hc,jd,if_false,jf] at h ⊢
     have:i=0:=by omega
     subst this
     simp [hc]
theorem zkB (p:UInt8→Bool) (s:Str):s.take (s.takeWhile p).length=s.takeWhile p:=by
 induction s with
 |nil=>simp
 |cons c r ih=>by_cases hc:p c=true<;>simp [List.takeWhile_cons,hc,ih]
theorem drop_tw (p:UInt8→Bool) (s:Str):s.drop (s.takeWhile p).length=s.dropWhile p:=by
 induction s with
 |nil=>simp
 |cons c r ih=>by_cases hc:p c=true<;>simp [List.takeWhile_cons,List.dropWhile_cons,hc,ih]
theorem zlL (p:UInt8→Bool) (s:Str):(s.takeWhile p).length≤s.length:=(List.takeWhile_sublist p).length_le
theorem zmA (p:UInt8→Bool) (s:Str):(s.dropWhile p).length≤s.length:=(List.dropWhile_sublist p).length_le
def isTk (c:UInt8):Bool:=tokB (c.toNat:Int)
def tokS (s:Str):Str:=s.takeWhile isTk
def tokE (s:Str):Str:=s.dropWhile isTk
theorem vT (s:Str):(tokS s).length≤s.length:=zlL _ _
theorem wK (s:Str):(tokE s).length≤s.length:=zmA _ _
theorem zkA (s:Str):(tokS s).length+(tokE s).length=s.length:=by
 have:=congrArg List.length (List.takeWhile_append_dropWhile (p:=isTk) (l:=s));rw [jg] at this;exact this
def skS (s:Str):Str:=Lib.trimLeftS s [32,9]
theorem wz (s:Str):(skS s).length≤s.length:=by
 unfold skS Lib.trimLeftS;exact(List.dropWhile_sublist _).length_le
def yV (s:Str) (c:UInt8):Bool:=s.head? == some c
theorem TG {s:Str} {c:UInt8} (h:yV s c=true):0<s.length:=by
 cases s with
 |nil=>simp [yV] at h
 |cons a r=>simp
theorem TI {s:Str} {c:UInt8}:yV s c=true↔0<s.length∧s.getD 0 0=c:=by
 cases s with
 |nil=>simp [yV]
 |cons a r=>simp [yV]
theorem drop1 (s:Str):List.take (s.length - Int.toNat 1) (List.drop (Int.toNat 1) s)=s.drop 1:=by
 show List.take (s.length - 1) (List.drop 1 s)=s.drop 1
 exact jl (by simp)
def quoF:Str→Option (Str × Str)
 |[]=>none
 |[x]=>if x=34 then some ([],[]) else none
 |x::y::r=>if x=34 then some ([],y::r) else if x=92 then(quoF r).map (fun p=>(y::p.1,p.2)) else(quoF (y::r)).map (fun p=>(x::p.1,p.2))
def quoV (s:Str):Str:=match quoF s with|some p=>p.1|none=>[]
def quoR (s:Str):Str:=match quoF s with|some p=>p.2|none=>[]
theorem Wq: ∀ (s:Str) (p:Str × Str),quoF s=some p→p.1.length+p.2.length<s.length
 |[],p,h=>by simp [quoF] at h
 | [x],p,h=>by
   simp only [quoF] at h
   split at h
   · cases h;simp
   · cases h
 | x ::y::r,p,h=>by
   simp only [quoF] at h
   split at h
   · cases h;simp
   · split at h
     · rw [Option.map_eq_some_iff] at h
       obtain⟨q,hq,rfl⟩:=h;have:=Wq r q hq;simp only [je];omega
     · rw [Option.map_eq_some_iff] at h
       obtain⟨q,hq,rfl⟩:=h;have:=Wq (y::r) q hq;simp only [je] at this ⊢;omega
theorem zi1 (s:Str):(quoR s).length≤s.length:=by
 unfold quoR
 split
 · rename_i p h;have:=Wq _ _ h;omega
 · simp
theorem zi0 (s:Str):(quoV s).length≤s.length:=by
 unfold quoV
 split
 · rename_i p h;have:=Wq _ _ h;omega
 · simp
def parM (s:Str):Int × Fld × Str:=
 if tokS s=[] then(5,⟨[],[]⟩,tokE s)
 else if yV (tokE s) 61=false then(5,⟨[],[]⟩,tokE s)
 else if yV ((tokE s).drop 1) 34=true then
  if(quoF ((tokE s).drop 2)).isSome=true then(0,⟨lowS (tokS s),quoV ((tokE s).drop 2)⟩,quoR ((tokE s).drop 2)) else(14,⟨[],[]⟩,[])
 else if tokS ((tokE s).drop 1)=[] then(5,⟨[],[]⟩,tokE ((tokE s).drop 1))
 else(0,⟨lowS (tokS s),tokS ((tokE s).drop 1)⟩,tokE ((tokE s).drop 1))
theorem RH (s:Str):(parM s).2.2.length≤s.length∧(parM s).2.1.name.length≤s.length∧(parM s).2.1.value.length≤s.length:=by
 have h1:=wK s;have h2:=wK ((tokE s).drop 1);have h3:=zi1 ((tokE s).drop 2);have h4:=zi0 ((tokE s).drop 2);have h5:=vT s;have h6:=vT ((tokE s).drop 1);simp only [jB] at h2 h3 h4 h6;unfold parM
 repeat' split
 all_goals simp only [jf,wo];omega
def getP (l:List Fld) (n:Str):Str × Bool:=match l.find? (fun f=>f.name == n) with|some f=>(f.value,true)|none=>([],false)
def medL:Nat→Str→List Fld→Int × List Fld × Str
 |0,s,ps=>(5,ps,s)
 | n +1,s,ps=>
   if yV s 59=true then
    if(parM (skS (s.drop 1))).1≠0 then((parM (skS (s.drop 1))).1,ps,(parM (skS (s.drop 1))).2.2)
    else if(getP ps (parM (skS (s.drop 1))).2.1.name).2=true then(9,ps,(parM (skS (s.drop 1))).2.2)
    else if ps.length=8 then(8,ps,(parM (skS (s.drop 1))).2.2)
    else medL n (skS (parM (skS (s.drop 1))).2.2) (ps++[(parM (skS (s.drop 1))).2.1])
   else if s=[] then(0,ps,s) else(5,ps,s)
def medB (w:Str) (s:Str):Int × Med × Str:=((medL ((skS s).length+1) (skS s) []).1,⟨w,(medL ((skS s).length+1) (skS s) []).2.1⟩,(medL ((skS s).length+1) (skS s) []).2.2)
def medA (s:Str):Int × Med × Str:=
 if tokS s=[] then(5,⟨[],[]⟩,tokE s)
 else if yV (tokE s) 47=true then
  if tokS ((tokE s).drop 1)=[] then(5,⟨[],[]⟩,tokE ((tokE s).drop 1))
  else medB (lowS (tokS s)++([47]++lowS (tokS ((tokE s).drop 1)))) (tokE ((tokE s).drop 1))
 else medB (lowS (tokS s)) (tokE s)
def xu (s:Str):Int × Med × Str:=medA (skS s)
def wO (s:Str):Med × Int:=if yG s=false then(⟨[],[]⟩,3) else if(xu s).1=0 then((xu s).2.1,0) else(⟨[],[]⟩,(xu s).1)
theorem zas (s:Str):(parM s).1=0∨(parM s).1=5∨(parM s).1=14:=by
 unfold parM
 repeat' split
 all_goals simp
def ixP (l:List Fld) (n:Str):Int:=if l.findIdx (fun f=>f.name == n)<l.length then(l.findIdx (fun f=>f.name == n):Int) else -1
theorem zhm (l:List Fld) (n:Str):getP l n=if 0≤ixP l n then((l.getD (ixP l n).toNat ⟨[],[]⟩).value,true) else([],false):=by
 unfold getP ixP;rw [List.find?_eq_getElem?_findIdx]
 by_cases h:l.findIdx (fun f=>f.name == n)<l.length
 · rw [if_pos h,if_pos (by omega),ji h]
   simp [jG,h]
 · rw [if_neg h,if_neg (by omega),List.getElem?_eq_none (by omega)]
end Go.Proofs.YtjdbannldbgpeaaGreatDoor
namespace Go.Proofs.YtjdbannldbgpeaaGreatDoor
open Go Go.Sep Go.Ab
set_option maxRecDepth 100000
def cutB (s:Str) (c:UInt8):Str × Str × Bool:=
 if 0≤Lib.indexByte s c then(s.take (Lib.indexByte s c).toNat,s.drop ((Lib.indexByte s c).toNat+1),true) else(s,[],false)
def xM (s:Str):Fld × Int:=
 if(cutB s 58).2.2=false then(⟨[],[]⟩,5)
 else if xk (cutB s 58).1=false then(⟨[],[]⟩,6)
 else if 40<(cutB s 58).1.length then(⟨[],[]⟩,4)
 else if yG (cutB s 58).2.1=false then(⟨[],[]⟩,3)
 else(⟨(cutB s 58).1,Lib.trimS (cutB s 58).2.1 [32,9]⟩,0)
def textF (f:Fld):Str × Int:=
 if xk f.name=false then([],6)
 else if 40<f.name.length∨200<f.name.length+2+f.value.length then([],4)
 else if yG f.value=false∨¬ Lib.trimS f.value [32,9]=f.value then([],3)
 else(f.name++[58,32]++f.value,0)
theorem QC (s:Str) (c:UInt8):(cutB s c).1.length≤s.length∧(cutB s c).2.1.length≤s.length:=by
 unfold cutB
 split
 · simp only [jq,jB];omega
 · simp
def Wj (I:Alg):KU
 |[.v (.one (.p (.str s))),.v (.one (.p (.str ([c]))))],[]=>(fun(s:Str)=>(some (.one ⟨I.hid (s.length≤1000000),(.ret (.tup [.one (.p (.str (I.hid ((cutB s c).1)))),.one (.p (.str (I.hid ((cutB s c).2.1)))),.one (.p (.bool (I.hid ((cutB s c).2.2))))])),[]⟩):Option CT)) s
 |_,_=>none
theorem zc8:zO Tryz.prog 76 (Wj alg):=by
 intro args hp r h;unfold Wj at h;split at h<;>cases h
 rename_i s c;simp only [CT.Good,zI];intro hneed;generalize hr:cutB s c=r;obtain⟨a,b,d⟩:=r
 refine spH Tryz.func76 (by kernel_rfl) { keep:=some [0,1,4,5,6,7]} [zhd,zhc] (by kernel_rfl) ?_
 intro I X hI hX
 refine orcL ?_;go_invoke;refine orcS (by kernel_rfl) ?_
 simp only [zJ,Nat.reduceAdd];subst hI;simp only [nrmA,nrmB];have hx:=uP s c;simp only [je,jf];refine⟨fun h=> ?_,fun h=> ?_⟩
 · rw [cutB,if_pos h] at hr
   simp only [Prod.mk.injEq] at hr;obtain⟨rfl,rfl,rfl⟩:=hr
   refine⟨by omega,by omega,by omega,?_⟩
   rw [show(Lib.indexByte s c+((0+1:Nat):Int)).toNat=(Lib.indexByte s c).toNat+1 by omega]
   have e:List.take (s.length - ((Lib.indexByte s c).toNat+1)) (List.drop ((Lib.indexByte s c).toNat+1) s)=List.drop ((Lib.indexByte s c).toNat+1) s:=jl (by rw [jB];exact jK _)
   rw [e]
 · rw [cutB,if_neg h] at hr
   simp only [Prod.mk.injEq] at hr;obtain⟨rfl,rfl,rfl⟩:=hr;rfl
def ziR:Know Tryz.prog:=⟨76,Wj,zc8⟩
def ziQ:Know Tryz.prog:=⟨76,fun I=>zT I (Wj I),zi zc8⟩
def Rw (I:Alg):KU
 |[.v (.one (.p (.str s))),.v (.one (.p (.str ([c]))))],[]=>(fun(s:Str)=>(some (.one ⟨I.hid (s.length≤1000000),(.ret (.tup [.one (.p (.str (I.hid ((cutB s c).1)))),.one (.p (.str (I.hid ((cutB s c).2.1)))),.one (.p (.bool (I.hid ((cutB s c).2.2))))])),[]⟩):Option CT)) s
 |_,_=>none
theorem zgd:zO Tryz.prog 63 (Rw alg):=by
 intro args hp r h;unfold Rw at h;split at h<;>cases h
 rename_i s c;simp only [CT.Good,zI];intro hneed
 refine spH Tryz.func63 (by kernel_rfl) { keep:=some [0,1,4,5,6]} [ziR,ziQ] (by kernel_rfl) ?_
 intro I X hI hX
 refine orcL ?_;go_invoke;refine orcS (by kernel_rfl) ?_
 simp only [zJ,Nat.reduceAdd];subst hI;simp only [nrmA,nrmB];exact hneed
def zgc:Know Tryz.prog:=⟨63,Rw,zgd⟩
def zgb:Know Tryz.prog:=⟨63,fun I=>zT I (Rw I),zi zgd⟩
def Ws (I:Alg):KU
 |[.v (.one (.p (.str s)))],[]=>(fun(s:Str)=>(some (.one ⟨I.hid (s.length≤1000000),(.ret (.tup [.agg [.p (.str (I.hid ((xM s).1.name))),.p (.str (I.hid ((xM s).1.value)))],.one (.p (.int .i64 (I.hid ((xM s).2))))])),[]⟩):Option CT)) s
 |_,_=>none
theorem zdq:zO Tryz.prog 53 (Ws alg):=by
 intro args hp r h;unfold Ws at h;split at h<;>cases h
 rename_i s;simp only [CT.Good,zI];intro hneed;generalize hr:xM s=r;obtain⟨⟨a,b⟩,d⟩:=r
 refine spH Tryz.func53 (by kernel_rfl) { keep:=some [0,2,3,4,5,6]} [sG,sF,wG,wF,QI,QH,zgc,zgb] (by kernel_rfl) ?_
 intro I X hI hX
 refine orcL ?_;go_invoke;refine orcS (by kernel_rfl) ?_
 simp only [zJ,Nat.reduceAdd];subst hI;simp only [nrmA,nrmB];have hl:=QC s 58;unfold xM at hr
 (repeat' (first|refine ja ?_ ?_|intro _))<;>first|omega|exact jb|exact jc ‹False›|skip
 all_goals first
  |(rw [if_pos (by assumption)] at hr;cases hr;rfl)
  |(rw [if_neg (by simp [*]),if_pos (by assumption)] at hr;cases hr;rfl)
  |(rw [if_neg (by simp [*]),if_neg (by simp [*]),if_pos (by omega)] at hr;cases hr;rfl)
  |(rw [if_neg (by simp [*]),if_neg (by simp [*]),if_neg (by omega),if_pos (by assumption)] at hr;cases hr;rfl)
  |(rw [if_neg (by simp [*]),if_neg (by simp [*]),if_neg (by omega),if_neg (by simp [*])] at hr;cases hr;rfl)
def zdp:Know Tryz.prog:=⟨53,Ws,zdq⟩
def zdo:Know Tryz.prog:=⟨53,fun I=>zT I (Ws I),zi zdq⟩
def Rj (I:Alg):KU
 |[.v (.agg [.p (.str n),.p (.str v)])],[]=>(fun(n v:Str)=>(some (.one ⟨I.hid (n.length≤1000000∧v.length≤1000000),(.ret (.tup [.one (.p (.str (I.hid ((textF ⟨n,v⟩).1)))),.one (.p (.int .i64 (I.hid ((textF ⟨n,v⟩).2))))])),[]⟩):Option CT)) n v
 |_,_=>none
theorem zfV:zO Tryz.prog 16 (Rj alg):=by
 intro args hp r h;unfold Rj at h;split at h<;>cases h
 rename_i n v;simp only [CT.Good,zI];intro hneed;generalize hr:textF ⟨n,v⟩=r;obtain⟨a,d⟩:=r
 refine spH Tryz.func16 (by kernel_rfl) { keep:=some [0,1,2,3,4]} [sG,sF,wG,wF,QI,QH] (by kernel_rfl) ?_
 intro I X hI hX
 refine orcL ?_;go_invoke;refine orcS (by kernel_rfl) ?_
 simp only [zJ,Nat.reduceAdd];subst hI;simp only [nrmA,nrmB];simp only [jg,je,jf];unfold textF at hr;simp only at hr
 (repeat' (first|refine ja ?_ ?_|intro _))<;>first|omega|exact jb|exact jc ‹False›|skip
 all_goals first
  |(rw [if_pos (by assumption)] at hr;cases hr;rfl)
  |(rw [if_neg (by simp [*]),if_pos (by omega)] at hr;cases hr;rfl)
  |(rw [if_neg (by simp [*]),if_neg (by omega),if_pos (.inl (by assumption))] at hr;cases hr;rfl)
  |(rw [if_neg (by simp [*]),if_neg (by omega),if_pos (.inr (by assumption))] at hr;cases hr;rfl)
  |(rw [if_neg (by simp [*]),if_neg (by omega),if_neg (by simp [*])] at hr;cases hr;rfl)
def zbS:Know Tryz.prog:=⟨16,Rj,zfV⟩
def zbR:Know Tryz.prog:=⟨16,fun I=>zT I (Rj I),zi zfV⟩
end Go.Proofs.YtjdbannldbgpeaaGreatDoor
namespace Go.Proofs.YtjdbannldbgpeaaGreatDoor
open Go Go.Sep Go.Ab
set_option maxRecDepth 100000
def quoM (s:Str):Str:=if xk s=true then s else [34]++escS s++[34]
def zbM (w:Str):Bool:=xk (cutB w 47).1&&((!(cutB w 47).2.2||xk (cutB w 47).2.1)&&decide (lowS w=w))
def hasP (l:List Fld) (n:Str):Bool:=decide (0≤ixP l n)
def txtL:List Fld→List Fld→Str→Str × Int
 |_,[],a=>(a,0)
 | d,p::r,a=>
   if xk p.name=false∨lowS p.name≠p.name then([],6)
   else if hasP d p.name=true then([],9)
   else if yG p.value=false then([],3)
   else txtL (d++[p]) r (a++([59,32]++p.name++[61]++quoM p.value))
def Xd (w:Str) (l:List Fld):Str × Int:=if zbM w=false then([],5) else if 8<l.length then([],8) else txtL [] l w
theorem zcv: ∀ s:Str,(escS s).length≤2 * s.length
 |[]=>jK _
 | c::s=>by
   have ih:=zcv s;have e:escS (c::s)=escB c++escS s:=rfl
   have:(escB c).length≤2:=by unfold escB;split<;>simp
   rw [e,jg,je];omega
theorem RD (s:Str):(quoM s).length≤2 * s.length+2:=by
 have:=zcv s;unfold quoM
 split
 · omega
 · simp only [jg,je,jf];omega
theorem zkx {l:List Fld} {i:Nat} (h:i<l.length) (d:Fld) (a:Str):txtL (l.take i) (l.drop i) a=
  if xk (l.getD i d).name=false∨lowS (l.getD i d).name≠(l.getD i d).name then([],6)
  else if hasP (l.take i) (l.getD i d).name=true then([],9)
  else if yG (l.getD i d).value=false then([],3)
  else txtL (l.take (i+1)) (l.drop (i+1)) (a++([59,32]++(l.getD i d).name++[61]++quoM (l.getD i d).value)):=by
 rw [jD h,jA h,txtL,show l.getD i d=l[i] by simp [h]]
end Go.Proofs.YtjdbannldbgpeaaGreatDoor
namespace Go.Proofs.YtjdbannldbgpeaaGreatDoor
open Go Go.Sep Go.Ab
set_option maxRecDepth 100000
theorem zhh {k:Int} (hk:0≤k∧k≤255): -1≤hexK k∧hexK k≤15:=zm3 (p:=fun k=> -1≤hexK k∧hexK k≤15) (by decide+kernel) hk
end Go.Proofs.YtjdbannldbgpeaaGreatDoor
namespace Go.Proofs.YtjdbannldbgpeaaGreatDoor
open Go Go.Sep Go.Ab
set_option maxRecDepth 100000
def wH (s:Str):Bool:= !decide (70<s.length)&&(yG s&&(decide (Lib.trimS s [32,9]=s)&&decide (s≠[])))
def Yg (b:Str) (c:UInt8):Str:=
 if c=47∨c=92 then []
 else if c=9∨qc (c.toNat:Int)=false∨c=34∨c=58 then b++[95]
 else if c=46∧b=[] then b
 else b++[c]
def Xg (s:Str):Str:=if(s.foldl Yg []).take 40=[] then [102,105,108,101] else(s.foldl Yg []).take 40
theorem zga (s:Str) (i:Nat) (h:i<s.length):(s.take (i+1)).foldl Yg []=Yg ((s.take i).foldl Yg []) (s.getD i 0):=by
 rw [jA h,List.foldl_append]
 simp [h]
theorem ziT (s:Str): ∀ b:Str,(s.foldl Yg b).length≤b.length+s.length:=by
 induction s with
 |nil=>intro b;simp
 | cons c r ih=>
   intro b;have h:=ih (Yg b c)
   have h2:(Yg b c).length≤b.length+1:=by
    unfold Yg
    repeat' split
    all_goals simp
   rw [List.foldl_cons,je];omega
theorem zeM (c:UInt8) (k:Nat) (h:k<256):(c.toNat:Int)=(k:Int)↔c=UInt8.ofNat k:=by
 constructor
 · intro e
   rw [← UInt8.toNat_inj,UInt8.toNat_ofNat',Nat.mod_eq_of_lt h];omega
 · intro e
   rw [e,UInt8.toNat_ofNat',Nat.mod_eq_of_lt h]
theorem ziU (b:Str) (c:UInt8):Yg b c=if(c.toNat:Int)=47 then [] else if(c.toNat:Int)=92 then [] else if(c.toNat:Int)=9 then b++[95] else if qc (c.toNat:Int)=false then b++[95] else if(c.toNat:Int)=34 then b++[95] else if(c.toNat:Int)=58 then b++[95] else if(c.toNat:Int)=46 then(if(b.length:Int)=0 then b else b++[c]) else b++[c]:=by
 have h0:(b.length:Int)=0↔b=[]:=by rw [← List.length_eq_zero_iff];omega
 have e1:(c.toNat:Int)=47↔c=47:=zeM c 47 (by decide)
 have e2:(c.toNat:Int)=92↔c=92:=zeM c 92 (by decide)
 have e3:(c.toNat:Int)=9↔c=9:=zeM c 9 (by decide)
 have e4:(c.toNat:Int)=34↔c=34:=zeM c 34 (by decide)
 have e5:(c.toNat:Int)=58↔c=58:=zeM c 58 (by decide)
 have e6:(c.toNat:Int)=46↔c=46:=zeM c 46 (by decide)
 simp only [e1,e2,e3,e4,e5,e6,h0];unfold Yg;generalize qc (c.toNat:Int)=k;clear e1 e2 e3 e4 e5 e6 h0
 repeat' split
 all_goals simp_all
def WT (I:Alg):KU
 |[.v (.one (.p (.str s)))],[]=>(fun(s:Str)=>(some (.one ⟨I.hid (s.length≤1000000),(.ret (.v (.one (.p (.str (I.hid (Xg s))))))),[]⟩):Option CT)) s
 |_,_=>none
theorem zeh:zO Tryz.prog 25 (WT alg):=by
 intro args hp r h;unfold WT at h;split at h<;>cases h
 rename_i s;simp only [CT.Good,zI];intro hneed
 refine spH Tryz.func25 (by kernel_rfl) { nr:=[3],keep:=some [0,2,3,4,5,7,8]} [vY,qK] (by kernel_rfl) ?_
 intro I X hI hX
 refine orcL ?_;go_invoke;refine orcS (by kernel_rfl) ?_
 simp only [zJ,Nat.reduceAdd]
 refine lpH hI [vY,qK] hX [0,3,7,8] (fun(g:Nat × Str)=>match g with|(i,b)=>i≤s.length∧b=(s.take i).foldl Yg []) (fun(g:Nat × Str)=>match g with|(i,b)=>⟨[(0,.v (.one (.p (.str s)))),(3,.v (.one (.row 0))),(7,.v (.one (.p (.int .i64 ((I.len (α:=UInt8) s)))))),(8,.v (.one (.p (.int .i64 i))))],[.row .byte 5 b],63,none⟩) (fun(g:Nat × Str)=>match g with|(i,b)=>s.length - i) (0,[]) (by kernel_rfl) (by kernel_rfl) ?_ ?_
 · exact⟨jL _,rfl⟩
 rintro⟨i,b⟩ ⟨h1,h2⟩ A hA;simp only at hA h1 h2
 refine orcL ?_;go_invoke;refine orcS (by kernel_rfl) ?_
 simp only [zJ,Nat.reduceAdd];subst hI;simp only [nrmA,nrmB,nrlB,reduceCtorEq];have hs:=zga s i;have hbl:=ziT (s.take i) [];rw [← h2] at hs hbl;rw [jq,jf] at hbl
 have hA2:i<s.length→_:=fun h=>hA (i+1,Yg b (s.getD i 0)) ⟨by simp only;omega,(hs h).symm⟩ (by simp only;omega)
 have l0:=(s.getD i 0).toNat_lt;rw [ziU] at hA2
 have hend: ¬ i<s.length→s.foldl Yg []=b:=fun h=>by rw [h2,jl (by omega)]
 have hm: ¬ i<s.length→Xg s=if b.take 40=[] then [102,105,108,101] else b.take 40:=fun h=>by unfold Xg;rw [hend h]
 have hn:0<b.length→¬ b.take 40=[]:=fun h k=>by have:=congrArg List.length k;rw [jq,jf] at this;omega
 generalize s.getD i 0=c at *
 (repeat' (first|refine ja ?_ ?_|intro _))<;>first|omega|exact jb|exact jc ‹False›|skip
 all_goals first
  |omega
  |exact⟨by omega,by omega⟩
  |(simp only [jm];omega)
  |(rw [hm (by omega),if_neg (hn (by omega))];first|rfl|exact(jl (by omega)).symm)
  |(rw [hm (by omega),if_pos (by rw [List.eq_nil_of_length_eq_zero (show b.length=0 by omega)];rfl)])
  |(have h:=hA2 (by omega);(repeat(first|rw [if_pos (by first|omega|assumption)] at h|rw [if_neg (by first|omega|assumption|simpa using ‹_=true›)] at h));simp only [Int.natCast_add,Int.natCast_one] at h;exact h)
def zeg:Know Tryz.prog:=⟨25,WT,zeh⟩
def zef:Know Tryz.prog:=⟨25,fun I=>zT I (WT I),zi zeh⟩
def WW (I:Alg):KU
 |[.v (.one (.p (.str s)))],[]=>(fun(s:Str)=>(some (.one ⟨I.hid (s.length≤140737488355328),(.ret (.v (.one (.p (.bool (I.hid (wH s))))))),[]⟩):Option CT)) s
 |_,_=>none
theorem zem:zO Tryz.prog 13 (WW alg):=by
 intro args hp r h;unfold WW at h;split at h<;>cases h
 rename_i s;simp only [CT.Good,zI];intro hneed
 refine spH Tryz.func13 (by kernel_rfl) { keep:=some [0,2]} [wG,wF,QI,QH] (by kernel_rfl) ?_
 intro I X hI hX
 refine orcL ?_;go_invoke;refine orcS (by kernel_rfl) ?_
 simp only [zJ,Nat.reduceAdd];subst hI;simp only [nrmA,nrmB,nrlB,reduceCtorEq];unfold wH
 have h70:(70<s.length)↔((70:Int)<(s.length:Int)):=by omega
 simp only [h70]
 (repeat' (first|refine ja ?_ ?_|intro _))<;>first|omega|exact jb|exact jc ‹False›|skip
 all_goals first
  |omega
  |(rw [decide_eq_false (by omega),‹yG s=true›,decide_eq_true ‹Lib.trimS s _=s›];cases s<;>simp)
  |(simp_all;done)
def YT:Know Tryz.prog:=⟨13,WW,zem⟩
def YS:Know Tryz.prog:=⟨13,fun I=>zT I (WW I),zi zem⟩
end Go.Proofs.YtjdbannldbgpeaaGreatDoor
namespace Go.Proofs.YtjdbannldbgpeaaGreatDoor
open Go Go.Sep Go.Ab
set_option maxRecDepth 100000
theorem zbo (m:Str): ∀ (b:Str) (i:Int),zW m b i=if Lib.index b m= -1 then -1 else Lib.index b m+i
 | [],i=>by
   unfold zW Lib.index
   cases m with
   |nil=>simp [List.isPrefixOf]
   |cons c m=>simp [List.isPrefixOf]
 | x ::b,i=>by
   have ih:=zbo m b (i+1);have hg:=Lib.index_ge b m;unfold zW Lib.index
   by_cases h:m.isPrefixOf (x::b)=true
   · rw [if_pos h,if_pos h,if_neg (by decide)];omega
   · rw [if_neg h,if_neg h,ih]
     by_cases k:Lib.index b m= -1
     · simp [k]
     · have h2: ¬ Lib.index b m+1= -1:=by omega
       simp [k,h2];omega
theorem zjN (m b:Str):(0≤zW m b 0)↔Lib.contains b m=true:=by
 have hg:=Lib.index_ge b m;rw [zbo];unfold Lib.contains;rw [decide_eq_true_iff]
 split<;>omega
def fdW:Str:=[102,111,114,109,45,100,97,116,97]
def nmS:Str:=[110,97,109,101]
def fnS:Str:=[102,105,108,101,110,97,109,101]
def cdS:Str:=[67,111,110,116,101,110,116,45,68,105,115,112,111,115,105,116,105,111,110]
def ctS:Str:=[67,111,110,116,101,110,116,45,84,121,112,101]
def Xn (p:Prt):List Fld:=⟨nmS,p.name⟩::(if p.file=[] then [] else [⟨fnS,p.file⟩])
def uz (p:Prt):Str × Int:=Xd fdW (Xn p)
def xJ (p:Prt):List Fld × Int:=
 if p.file≠[]∧Xg p.file≠p.file then([],6)
 else if(uz p).2≠0 then([],(uz p).2)
 else(⟨cdS,(uz p).1⟩::(if p.type=[] then [] else [⟨ctS,p.type⟩]),0)
def wB:List Fld→Str→Str × Int
 |[],a=>(a,0)
 |f::r,a=>if(textF f).2≠0 then([],(textF f).2) else wB r (a++((textF f).1++[13,10]))
def Us (b:Str) (p:Prt):Bool:=Lib.contains ([13,10]++p.bytes) ([13,10]++([45,45]++b))
def wV (b:Str):List Prt→Str→Str × Int
 |[],a=>(a++([45,45]++b++[45,45,13,10]),0)
 | p::r,a=>
   if Us b p=true then([],15)
   else if(xJ p).2≠0 then([],(xJ p).2)
   else if(wB (xJ p).1 (a++([45,45]++b++[13,10]))).2≠0 then([],(wB (xJ p).1 (a++([45,45]++b++[13,10]))).2)
   else wV b r ((wB (xJ p).1 (a++([45,45]++b++[13,10]))).1++[13,10]++p.bytes++[13,10])
def xX (b:Str) (l:List Prt):Str × Int:=if wH b=false then([],5) else if 12<l.length then([],8) else wV b l []
theorem zfJ {b:Str} {l:List Prt} {i:Nat} (h:i<l.length) (d:Prt) (a:Str):wV b (l.drop i) a=
  if Us b (l.getD i d)=true then([],15)
  else if(xJ (l.getD i d)).2≠0 then([],(xJ (l.getD i d)).2)
  else if(wB (xJ (l.getD i d)).1 (a++([45,45]++b++[13,10]))).2≠0 then([],(wB (xJ (l.getD i d)).1 (a++([45,45]++b++[13,10]))).2)
  else wV b (l.drop (i+1)) ((wB (xJ (l.getD i d)).1 (a++([45,45]++b++[13,10]))).1++[13,10]++(l.getD i d).bytes++[13,10]):=by
 rw [jD h,wV,show l.getD i d=l[i] by simp [h]]
theorem zg7 {l:List Fld} {i:Nat} (h:i<l.length) (d:Fld) (a:Str):wB (l.drop i) a=
  if(textF (l.getD i d)).2≠0 then([],(textF (l.getD i d)).2) else wB (l.drop (i+1)) (a++((textF (l.getD i d)).1++[13,10])):=by
 rw [jD h,wB,show l.getD i d=l[i] by simp [h]]
theorem zfP (B:Nat): ∀ (l d:List Fld) (a:Str),(∀ f ∈ l,f.name.length≤B∧f.value.length≤B)→(txtL d l a).1.length≤a.length+l.length * (3 * B+5)
 |[],d,a,_=>by simp [txtL]
 | p ::r,d,a,h=>by
   have hp:=h p (List.mem_cons_self ..);have hq:=RD p.value;have ih:=zfP B r (d++[p]) (a++([59,32]++p.name++[61]++quoM p.value)) (fun f hf=>h f (List.mem_cons_of_mem _ hf));rw [txtL]
   split
   · exact jL _
   split
   · exact jL _
   split
   · exact jL _
   · have e:(r.length+1) * (3 * B+5)=r.length * (3 * B+5)+(3 * B+5):=Nat.succ_mul _ _
     simp only [jg,je,jf] at ih ⊢;omega
theorem zfW {B:Nat} {w:Str} {l:List Fld} (hl:l.length≤2) (h: ∀ f ∈ l,f.name.length≤B∧f.value.length≤B):(Xd w l).1.length≤w.length+2 * (3 * B+5):=by
 unfold Xd
 split
 · exact jL _
 split
 · exact jL _
 · have:=zfP B l [] w h
   have:l.length * (3 * B+5)≤2 * (3 * B+5):=Nat.mul_le_mul_right _ hl;omega
theorem zk1 {p:Prt} (hn:p.name.length≤10000) (hf:p.file.length≤10000):(Xn p).length≤2∧∀ f ∈ Xn p,f.name.length≤10000∧f.value.length≤10000:=by
 have e1:nmS.length=4:=rfl;have e2:fnS.length=8:=rfl;unfold Xn
 split
 · exact⟨by simp,fun f h=>by rw [List.mem_singleton.1 h];exact⟨by show nmS.length≤_;omega,hn⟩⟩
 · refine⟨by simp,fun f h=> ?_⟩
   rcases List.mem_cons.1 h with rfl|h
   · exact⟨by show nmS.length≤_;omega,hn⟩
   · rw [List.mem_singleton.1 h];exact⟨by show fnS.length≤_;omega,hf⟩
theorem zc3 (f:Fld):(textF f).1.length≤200:=by
 unfold textF
 split
 · exact jL _
 split
 · exact jL _
 split
 · exact jL _
 · rename_i h _
   simp only [jg,je,jf];omega
end Go.Proofs.YtjdbannldbgpeaaGreatDoor
namespace Go.Proofs.YtjdbannldbgpeaaGreatDoor
open Go Go.Sep Go.Ab
set_option maxRecDepth 100000
def sO (I:Alg):KU
 |[.v (.one (.p (.str s))),.v (.one (.p (.str ([32,9]))))],[]=>(fun(s:Str)=>(some (.one ⟨I.hid (True),(.ret (.v (.one (.p (.str (I.hid (skS s))))))),[]⟩):Option CT)) s
 |_,_=>none
theorem Vg:zO Tryz.prog 119 (sO alg):=by
 intro args hp r h;unfold sO at h;split at h<;>cases h
 rename_i s;simp only [CT.Good,zI];intro _
 refine Spc.of_below ⟨_,Tryz.func119,by kernel_rfl,by kernel_rfl⟩ fun S bs w vs _ hM=> ?_
 obtain⟨v,r,rfl⟩: ∃ v r,vs=v::r:=by cases vs with|nil=>exact hM.elim|cons v r=>exact⟨v,r,rfl⟩
 obtain⟨h1,hM⟩:=hM
 obtain⟨v2,r2,rfl⟩: ∃ v r2,r=v::r2:=by cases r with|nil=>exact hM.elim|cons v r=>exact⟨v,r,rfl⟩
 obtain⟨h2,hM⟩:=hM
 obtain rfl:r2=[]:=by cases r2 with|nil=>rfl|cons v r=>exact hM.elim
 cases h1 with
 | str _ hl1=>
   cases h2 with
   | str _ hl2=>
     refine⟨.string (Sep.S (skS s)),.str _ (Nat.le_trans (wz _) hl1),?_⟩
     exact Tryz.strings_TrimLeft_laid (Sep.S s) (Sep.S [32,9]) w (by decide) (fun j b hb=>by
      have:=List.mem_of_getElem? hb
      rcases(by simpa [Sep.S] using this:b=32∨b=9) with rfl|rfl<;>decide)
def zbP:Know Tryz.prog:=⟨119,sO,Vg⟩
def zbO:Know Tryz.prog:=⟨119,fun I=>zT I (sO I),zi Vg⟩
theorem zkT (b:Bool) (c:Int) (hneed:b=false):Spc Tryz.prog 111 [.v (.one (.p (.bool b))),.v (.one (.p (.int .i64 c)))] [] (.ret (.tup [])) []:=by
 refine spH Tryz.func111 (by kernel_rfl) { keep:=some [0,1]} [] (by kernel_rfl) ?_
 intro I X hI hX
 refine orcL ?_;go_invoke;refine orcS (by kernel_rfl) ?_
 simp only [zJ,Nat.reduceAdd];subst hI;simp only [nrmA,nrmB]
 (repeat' (first|refine ja ?_ ?_|intro _))<;>first|omega|exact jb|exact jc ‹False›|skip
 all_goals simp_all
theorem zkS (b:Bool) (c:Int) (hneed:b=true):Spc Tryz.prog 111 [.v (.one (.p (.bool b))),.v (.one (.p (.int .i64 c)))] [] (.pan (.ifc 146 false [.int .i64 c])) []:=by
 refine spH Tryz.func111 (by kernel_rfl) { keep:=some [0,1]} [] (by kernel_rfl) ?_
 intro I X hI hX
 refine orcL ?_;go_invoke;refine orcS (by kernel_rfl) ?_
 simp only [zJ,Nat.reduceAdd];subst hI;simp only [nrmA,nrmB]
 (repeat' (first|refine ja ?_ ?_|intro _))<;>first|omega|exact jb|exact jc ‹False›|skip
 all_goals simp_all
def WE (I:Alg):KU
 |[.v (.one (.p (.bool b))),.v (.one (.p (.int .i64 c)))],[]=>some (.br (I.hid (b)) (.one ⟨I.hid (b=true),(.pan (.ifc 146 false [.int .i64 c])),[]⟩) (.one ⟨I.hid (b=false),(.ret (.tup [])),[]⟩))
 |_,_=>none
theorem zdC:zO Tryz.prog 111 (WE alg):=by
 intro args hp r h;unfold WE at h
 split at h
 · cases h;exact⟨fun _ hn=>zkS _ _ hn,fun _ hn=>zkT _ _ hn⟩
 · cases h
def xO:Know Tryz.prog:=⟨111,WE,zdC⟩
def xN:Know Tryz.prog:=⟨111,fun I=>zT I (WE I),zi zdC⟩
def qY (I:Alg):KU
 |[.v (.one (.ptr 0 0))],[.pack [.obj 150 [.p (.str s)]]]=>(fun(s:Str)=>(some (.one ⟨I.hid (True),(.ret (.tup [])),[.pack [.obj 150 [.p (.str (I.hid (skS s)))]]]⟩):Option CT)) s
 |_,_=>none
theorem U9:zO Tryz.prog 107 (qY alg):=by
 intro args hp r h;unfold qY at h;split at h<;>cases h
 rename_i s;simp only [CT.Good,zI];intro _
 refine spH Tryz.func107 (by kernel_rfl) { keep:=some [0]} [zbP,zbO] (by kernel_rfl) ?_
 intro I X hI hX
 refine orcL ?_;go_invoke;refine orcS (by kernel_rfl) ?_
 simp only [zJ,Nat.reduceAdd];subst hI;simp only [nrmA,nrmB,nrlB,reduceCtorEq,HO.pack.injEq,HO.obj.injEq]
 try trivial
def qX:Know Tryz.prog:=⟨107,qY,U9⟩
def qW:Know Tryz.prog:=⟨107,fun I=>zT I (qY I),zi U9⟩
def WA (I:Alg):KU
 |[.v (.one (.ptr 0 0)),.v (.one (.p (.int .u8 k)))],[.pack [.obj 150 [.p (.str s)]]]=>(fun(s:Str)=>(some (.one ⟨I.hid (0≤k∧k≤255),(.ret (.v (.one (.p (.bool (I.hid (yV s (UInt8.ofNat k.toNat)))))))),[.pack [.obj 150 [(.p (.str (I.hid (if yV s (UInt8.ofNat k.toNat)=true then s.drop 1 else s))))]]]⟩):Option CT)) s
 |_,_=>none
theorem zdy:zO Tryz.prog 109 (WA alg):=by
 intro args hp r h;unfold WA at h;split at h<;>cases h
 rename_i k s;simp only [CT.Good,zI];intro hneed;generalize hr:yV s (UInt8.ofNat k.toNat)=r
 refine spH Tryz.func109 (by kernel_rfl) { keep:=some [0,1,4,5]} [] (by kernel_rfl) ?_
 intro I X hI hX
 refine orcL ?_;go_invoke;refine orcS (by kernel_rfl) ?_
 simp only [zJ,Nat.reduceAdd];subst hI;simp only [nrmA,nrmB,nrlB,reduceCtorEq,HO.pack.injEq,HO.obj.injEq]
 have hk:((UInt8.ofNat k.toNat).toNat:Int)=k:=by rw [UInt8.toNat_ofNat',Nat.mod_eq_of_lt (by omega)];omega
 have hk2: ∀ c:UInt8,(c.toNat:Int)=k↔c=UInt8.ofNat k.toNat:=fun c=>⟨fun h=>by rw [← h];simp,fun h=>by rw [h];exact hk⟩
 rw [drop1];have hs:s=[]↔s.length=0:=List.length_eq_zero_iff.symm;rw [hs]
 cases r with
 | true=>
   obtain⟨h1,h2⟩:=TI.1 hr;have hkk:=(hk2 _).2 h2;rw [hkk]
   (repeat' (first|refine ja ?_ ?_|intro _))<;>first|omega|exact jb|exact jc ‹False›|skip
   all_goals first|omega|(simp;done)|(simp_all;done)
 | false=>
   have h1:0<s.length→¬ ((s.getD 0 0).toNat:Int)=k:=fun h q=>by rw [TI.2 ⟨h,(hk2 _).1 q⟩] at hr;cases hr
   (repeat' (first|refine ja ?_ ?_|intro _))<;>first|omega|exact jb|exact jc ‹False›|skip
   all_goals first|omega|(simp;done)|(exfalso;exact h1 (by omega) ‹_›)|(have:=h1 (by omega);simp_all;done)|trace_state
def qV:Know Tryz.prog:=⟨109,WA,zdy⟩
def qU:Know Tryz.prog:=⟨109,fun I=>zT I (WA I),zi zdy⟩
theorem zlY (s:Str) (hneed:s.length≤1000000∧¬ tokS s=[]):Spc Tryz.prog 108 [.v (.one (.ptr 0 0))] [.pack [.obj 150 [.p (.str s)]]] (.ret (.v (.one (.p (.str ((tokS s))))))) [.pack [.obj 150 [.p (.str ((tokE s)))]]]:=by
 obtain⟨hl,hne⟩:=hneed
 refine spH Tryz.func108 (by kernel_rfl) { keep:=some [0,2,3,4]} [sQ,ZW,xO,xN] (by kernel_rfl) ?_
 intro I X hI hX
 refine orcL ?_;go_invoke;refine orcS (by kernel_rfl) ?_
 simp only [zJ,Nat.reduceAdd]
 refine lpH hI [sQ,ZW,xO,xN] hX [0,3] (fun(i:Nat)=>i≤(tokS s).length) (fun(i:Nat)=>⟨[(0,.v (.one (.ptr 0 0))),(3,.v (.one (.p (.int .i64 i))))],[.pack [.obj 150 [.p (.str s)]]],42,none⟩) (fun(i:Nat)=>s.length - i) 0 (by kernel_rfl) (by kernel_rfl) ?_ ?_
 · exact jL _
 rintro i h1 A hA
 refine orcL ?_;go_invoke;refine orcS (by kernel_rfl) ?_
 simp only [zJ,Nat.reduceAdd];subst hI;simp only [nrmA,nrmB,nrlB,reduceCtorEq,HO.pack.injEq,HO.obj.injEq];have hb:=vW (s.getD i 0);have hs:=zfQ (p:=isTk) (s:=s) h1;have hle:=vT s;have ht:=zkB isTk s;have hd:=drop_tw isTk s;unfold isTk at hs
 change _↔i<(tokS s).length at hs
 change s.take (tokS s).length=tokS s at ht
 change s.drop (tokS s).length=tokE s at hd
 have hlen:=zkA s
 have hend: ¬ i<(tokS s).length→i=(tokS s).length:=fun h=>by omega
 generalize s.getD i 0=x at *
 have hgo:i<(tokS s).length→A ⟨[(0,.v (.one (.ptr 0 0))),(3,.v (.one (.p (.int .i64 (((i:Int)+1))))))],[.pack [.obj 150 [.p (.str s)]]],42,none⟩:=fun h=>hA (i+1) (by omega) (by omega)
 by_cases hi:i<(tokS s).length
 · have hi2:=hs.2 hi
   clear hs hend ht hd hA
   (repeat' (first|refine ja ?_ ?_|intro _))<;>first|omega|exact jb|exact jc ‹False›|skip
   all_goals first
    |omega
    |exact hgo hi
    |(exfalso;simp_all;done)
 · have hx:i<s.length→tokB (x.toNat:Int)=true→False:=fun a b=>hi (hs.1 ⟨a,b⟩)
   have hi2:=hend hi;clear hs hend hA hgo;subst hi2;rw [ht]
   have hcut:List.take (s.length - (tokS s).length) (List.drop (tokS s).length s)=tokE s:=by rw [hd];exact jl (by omega)
   rw [hcut]
   (repeat' (first|refine ja ?_ ?_|intro _))<;>first|omega|exact jb|exact jc ‹False›|skip
   all_goals first
    |omega
    |(exfalso;exact hx (by omega) ‹_›)
    |(exfalso;exact hne ‹_›)
    |(simp [hne];done)
theorem zlX (s:Str) (hneed:s.length≤1000000∧tokS s=[]):Spc Tryz.prog 108 [.v (.one (.ptr 0 0))] [.pack [.obj 150 [.p (.str s)]]] (.pan (.ifc 146 false [.int .i64 5])) [.pack [.obj 150 [.p (.str ((tokE s)))]]]:=by
 obtain⟨hl,hne⟩:=hneed
 refine spH Tryz.func108 (by kernel_rfl) { keep:=some [0,2,3,4]} [sQ,ZW,xO,xN] (by kernel_rfl) ?_
 intro I X hI hX
 refine orcL ?_;go_invoke;refine orcS (by kernel_rfl) ?_
 simp only [zJ,Nat.reduceAdd]
 refine lpH hI [sQ,ZW,xO,xN] hX [0,3] (fun(i:Nat)=>i≤(tokS s).length) (fun(i:Nat)=>⟨[(0,.v (.one (.ptr 0 0))),(3,.v (.one (.p (.int .i64 i))))],[.pack [.obj 150 [.p (.str s)]]],42,none⟩) (fun(i:Nat)=>s.length - i) 0 (by kernel_rfl) (by kernel_rfl) ?_ ?_
 · exact jL _
 rintro i h1 A hA
 refine orcL ?_;go_invoke;refine orcS (by kernel_rfl) ?_
 simp only [zJ,Nat.reduceAdd];subst hI;simp only [nrmA,nrmB,nrlB,reduceCtorEq,HO.pack.injEq,HO.obj.injEq];have hb:=vW (s.getD i 0);have hs:=zfQ (p:=isTk) (s:=s) h1;have hd:=drop_tw isTk s;unfold isTk at hs
 change _↔i<(tokS s).length at hs
 change s.drop (tokS s).length=tokE s at hd
 rw [hne] at h1 hs hd;simp only [jf] at h1 hs hd
 have h0:i=0:=by omega
 subst h0;generalize s.getD 0 0=x at *
 have hx:0<s.length→tokB (x.toNat:Int)=true→False:=fun a b=>absurd (hs.1 ⟨a,b⟩) (by omega)
 have hcut:List.take (s.length - 0) (List.drop 0 s)=tokE s:=by rw [hd];exact jl (by have:=wK s;omega)
 clear hs hA;simp only [jI,List.take_zero,hcut] at *
 (repeat' (first|refine ja ?_ ?_|intro _))<;>first|omega|exact jb|exact jc ‹False›|skip
 all_goals first
  |omega
  |(exfalso;exact hx (by omega) ‹_›)
  |(exfalso;rename_i hq;exact hq rfl)
  |(simp;done)
def RI (I:Alg):KU
 |[.v (.one (.ptr 0 0))],[.pack [.obj 150 [.p (.str s)]]]=>(fun(s:Str)=>(some (.br (I.hid (decide (tokS s=[]))) (.one ⟨I.hid (s.length≤1000000∧tokS s=[]),(.pan (.ifc 146 false [.int .i64 5])),[.pack [.obj 150 [.p (.str (I.hid (tokE s)))]]]⟩) (.one ⟨I.hid (s.length≤1000000∧¬ tokS s=[]),(.ret (.v (.one (.p (.str (I.hid (tokS s))))))),[.pack [.obj 150 [.p (.str (I.hid (tokE s)))]]]⟩)):Option CT)) s
 |_,_=>none
theorem zgv:zO Tryz.prog 108 (RI alg):=by
 intro args hp r h;unfold RI at h
 split at h
 · cases h;exact⟨fun _ hn=>zlX _ hn,fun _ hn=>zlY _ hn⟩
 · cases h
def Xk:Know Tryz.prog:=⟨108,RI,zgv⟩
def Xj:Know Tryz.prog:=⟨108,fun I=>zT I (RI I),zi zgv⟩
theorem zl0 (s:Str) (hneed:s.length≤1000000∧(quoF s).isSome=true):Spc Tryz.prog 120 [.v (.one (.ptr 0 0))] [.pack [.obj 150 [.p (.str s)]]] (.ret (.v (.one (.p (.str ((quoV s))))))) [.pack [.obj 150 [.p (.str ((quoR s)))]]]:=by
 obtain⟨hl,hne⟩:=hneed
 refine spH Tryz.func120 (by kernel_rfl) { nr:=[3],keep:=some [0,2,3,4]} [xO,xN] (by kernel_rfl) ?_
 intro I X hI hX
 refine orcL ?_;go_invoke;refine orcS (by kernel_rfl) ?_
 simp only [zJ,Nat.reduceAdd]
 refine lpH hI [xO,xN] hX [0,3] (fun(g:Str × Str)=>match g with|(b,t)=>b.length+t.length≤s.length∧quoF s=(quoF t).map (fun p=>(b++p.1,p.2))) (fun(g:Str × Str)=>match g with|(b,t)=>⟨[(0,.v (.one (.ptr 0 0))),(3,.v (.one (.row 1)))],[.pack [.obj 150 [.p (.str t)]],.row .byte 5 b],53,none⟩) (fun(g:Str × Str)=>match g with|(b,t)=>t.length) ([],s) (by kernel_rfl) (by kernel_rfl) ?_ ?_
 · exact⟨by simp,by simp⟩
 rintro⟨b,t⟩ ⟨h1,h2⟩ A hA
 refine orcL ?_;go_invoke;refine orcS (by kernel_rfl) ?_
 simp only [zJ,Nat.reduceAdd];subst hI;simp only [nrmA,nrmB,nrlB,reduceCtorEq,HO.pack.injEq,HO.obj.injEq];have hb:=vW (t.getD 0 0);rw [drop1];have hq: ∀ r:Str × Str,quoF s=some r→True:=fun _ _=>trivial
 cases t with
 | nil=>
   simp only [quoF,Option.map_none] at h2
   (repeat' (first|refine ja ?_ ?_|intro _))<;>first|omega|exact jb|exact jc ‹False›|skip
   all_goals first
    |omega
    |(simp_all;done)
 |cons x t=>
 cases t with
 | nil=>
   simp only [quoF] at h2;have h34:((x.toNat:Int)=34)↔x=34:=tH x 34;have h92:((x.toNat:Int)=92)↔x=92:=tH x 92;simp only [List.getD_cons_zero,h34,h92,List.drop_succ_cons,List.drop_zero,je,jf] at *
   have hgo: ¬ x=34→A ⟨[(0,.v (.one (.ptr 0 0))),(3,.v (.one (.row 1)))],[.pack [.obj 150 [.p (.str ([]))]],.row .byte 5 ((b++[x]))],53,none⟩:=fun h=>hA (b++[x],[]) ⟨by simp;omega,by rw [h2,if_neg h];rfl⟩ (by simp)
   have hv:x=34→quoV s=b∧quoR s=[]:=fun h=>by unfold quoV quoR;rw [h2,if_pos h];simp
   clear hA
   (repeat' (first|refine ja ?_ ?_|intro _))<;>first|omega|exact jb|exact jc ‹False›|skip
   all_goals first
    |omega
    |exact(hv ‹_›).1.symm
    |exact(hv ‹_›).2.symm
    |exact hgo ‹_›
    |(simp_all;done)
 | cons y t=>
   simp only [quoF] at h2;have h34:((x.toNat:Int)=34)↔x=34:=tH x 34;have h92:((x.toNat:Int)=92)↔x=92:=tH x 92;have hy:=vW y
   have hyt:List.take (t.length+1 - Int.toNat 1) (List.drop (Int.toNat 1) (y::t))=t:=by simpa using drop1 (y::t)
   simp only [List.getD_cons_zero,h34,h92,List.drop_succ_cons,List.drop_zero,je] at *
   have hgoY: ¬ x=34→x=92→A ⟨[(0,.v (.one (.ptr 0 0))),(3,.v (.one (.row 1)))],[.pack [.obj 150 [.p (.str t)]],.row .byte 5 ((b++[y]))],53,none⟩:=fun h k=>hA (b++[y],t) ⟨by simp;omega,by rw [h2,if_neg h,if_pos k,Option.map_map];congr 1;funext p;simp⟩ (by simp;omega)
   have hgoX: ¬ x=34→¬ x=92→A ⟨[(0,.v (.one (.ptr 0 0))),(3,.v (.one (.row 1)))],[.pack [.obj 150 [.p (.str ((y::t)))]],.row .byte 5 ((b++[x]))],53,none⟩:=fun h k=>hA (b++[x],y::t) ⟨by simp;omega,by rw [h2,if_neg h,if_neg k,Option.map_map];congr 1;funext p;simp⟩ (by simp)
   have hv:x=34→quoV s=b∧quoR s=y::t:=fun h=>by unfold quoV quoR;rw [h2,if_pos h];simp
   clear hA;simp only [jf,Nat.zero_add]
   first|rw [hyt]|skip
   (repeat' (first|refine ja ?_ ?_|intro _))<;>first|omega|exact jb|exact jc ‹False›|skip
   all_goals first
    |omega
    |exact(hv ‹_›).1.symm
    |exact(hv ‹_›).2.symm
    |exact hgoX ‹_› ‹_›
    |exact hgoY ‹_› ‹_›
    |(simp_all;done)
theorem zlZ (s:Str) (hneed:s.length≤1000000∧(quoF s).isSome=false):Spc Tryz.prog 120 [.v (.one (.ptr 0 0))] [.pack [.obj 150 [.p (.str s)]]] (.pan (.ifc 146 false [.int .i64 14])) [.pack [.obj 150 [.p (.str ([]))]]]:=by
 obtain⟨hl,hne⟩:=hneed
 refine spH Tryz.func120 (by kernel_rfl) { nr:=[3],keep:=some [0,2,3,4]} [xO,xN] (by kernel_rfl) ?_
 intro I X hI hX
 refine orcL ?_;go_invoke;refine orcS (by kernel_rfl) ?_
 simp only [zJ,Nat.reduceAdd]
 refine lpH hI [xO,xN] hX [0,3] (fun(g:Str × Str)=>match g with|(b,t)=>b.length+t.length≤s.length∧quoF s=(quoF t).map (fun p=>(b++p.1,p.2))) (fun(g:Str × Str)=>match g with|(b,t)=>⟨[(0,.v (.one (.ptr 0 0))),(3,.v (.one (.row 1)))],[.pack [.obj 150 [.p (.str t)]],.row .byte 5 b],53,none⟩) (fun(g:Str × Str)=>match g with|(b,t)=>t.length) ([],s) (by kernel_rfl) (by kernel_rfl) ?_ ?_
 · exact⟨by simp,by simp⟩
 rintro⟨b,t⟩ ⟨h1,h2⟩ A hA
 refine orcL ?_;go_invoke;refine orcS (by kernel_rfl) ?_
 simp only [zJ,Nat.reduceAdd];subst hI;simp only [nrmA,nrmB,nrlB,reduceCtorEq,HO.pack.injEq,HO.obj.injEq];have hb:=vW (t.getD 0 0);rw [drop1];have hq: ∀ r:Str × Str,quoF s=some r→True:=fun _ _=>trivial
 cases t with
 | nil=>
   simp only [quoF,Option.map_none] at h2
   (repeat' (first|refine ja ?_ ?_|intro _))<;>first|omega|exact jb|exact jc ‹False›|skip
   all_goals first
    |omega
    |(simp_all;done)
 |cons x t=>
 cases t with
 | nil=>
   simp only [quoF] at h2;have h34:((x.toNat:Int)=34)↔x=34:=tH x 34;have h92:((x.toNat:Int)=92)↔x=92:=tH x 92;simp only [List.getD_cons_zero,h34,h92,List.drop_succ_cons,List.drop_zero,je,jf] at *
   have hgo: ¬ x=34→A ⟨[(0,.v (.one (.ptr 0 0))),(3,.v (.one (.row 1)))],[.pack [.obj 150 [.p (.str ([]))]],.row .byte 5 ((b++[x]))],53,none⟩:=fun h=>hA (b++[x],[]) ⟨by simp;omega,by rw [h2,if_neg h];rfl⟩ (by simp)
   have hv:x=34→quoV s=b∧quoR s=[]:=fun h=>by unfold quoV quoR;rw [h2,if_pos h];simp
   clear hA
   (repeat' (first|refine ja ?_ ?_|intro _))<;>first|omega|exact jb|exact jc ‹False›|skip
   all_goals first
    |omega
    |exact(hv ‹_›).1.symm
    |exact(hv ‹_›).2.symm
    |exact hgo ‹_›
    |(simp_all;done)
 | cons y t=>
   simp only [quoF] at h2;have h34:((x.toNat:Int)=34)↔x=34:=tH x 34;have h92:((x.toNat:Int)=92)↔x=92:=tH x 92;have hy:=vW y
   have hyt:List.take (t.length+1 - Int.toNat 1) (List.drop (Int.toNat 1) (y::t))=t:=by simpa using drop1 (y::t)
   simp only [List.getD_cons_zero,h34,h92,List.drop_succ_cons,List.drop_zero,je] at *
   have hgoY: ¬ x=34→x=92→A ⟨[(0,.v (.one (.ptr 0 0))),(3,.v (.one (.row 1)))],[.pack [.obj 150 [.p (.str t)]],.row .byte 5 ((b++[y]))],53,none⟩:=fun h k=>hA (b++[y],t) ⟨by simp;omega,by rw [h2,if_neg h,if_pos k,Option.map_map];congr 1;funext p;simp⟩ (by simp;omega)
   have hgoX: ¬ x=34→¬ x=92→A ⟨[(0,.v (.one (.ptr 0 0))),(3,.v (.one (.row 1)))],[.pack [.obj 150 [.p (.str ((y::t)))]],.row .byte 5 ((b++[x]))],53,none⟩:=fun h k=>hA (b++[x],y::t) ⟨by simp;omega,by rw [h2,if_neg h,if_neg k,Option.map_map];congr 1;funext p;simp⟩ (by simp)
   have hv:x=34→quoV s=b∧quoR s=y::t:=fun h=>by unfold quoV quoR;rw [h2,if_pos h];simp
   clear hA;simp only [jf,Nat.zero_add]
   first|rw [hyt]|skip
   (repeat' (first|refine ja ?_ ?_|intro _))<;>first|omega|exact jb|exact jc ‹False›|skip
   all_goals first
    |omega
    |exact(hv ‹_›).1.symm
    |exact(hv ‹_›).2.symm
    |exact hgoX ‹_› ‹_›
    |exact hgoY ‹_› ‹_›
    |(simp_all;done)
def RJ (I:Alg):KU
 |[.v (.one (.ptr 0 0))],[.pack [.obj 150 [.p (.str s)]]]=>(fun(s:Str)=>(some (.br (I.hid ((quoF s).isSome)) (.one ⟨I.hid (s.length≤1000000∧(quoF s).isSome=true),(.ret (.v (.one (.p (.str (I.hid (quoV s))))))),[.pack [.obj 150 [.p (.str (I.hid (quoR s)))]]]⟩) (.one ⟨I.hid (s.length≤1000000∧(quoF s).isSome=false),(.pan (.ifc 146 false [.int .i64 14])),[.pack [.obj 150 [.p (.str (I.hid ([])))]]]⟩)):Option CT)) s
 |_,_=>none
theorem zgy:zO Tryz.prog 120 (RJ alg):=by
 intro args hp r h;unfold RJ at h
 split at h
 · cases h;exact⟨fun _ hn=>zl0 _ hn,fun _ hn=>zlZ _ hn⟩
 · cases h
def zgx:Know Tryz.prog:=⟨120,RJ,zgy⟩
def zgw:Know Tryz.prog:=⟨120,fun I=>zT I (RJ I),zi zgy⟩
theorem zl2 (s:Str) (hneed:s.length≤1000000∧(parM s).1=0):Spc Tryz.prog 110 [.v (.one (.ptr 0 0))] [.pack [.obj 150 [.p (.str s)]]] (.ret (.v (.agg [.p (.str ((parM s).2.1.name)),.p (.str ((parM s).2.1.value))]))) [.pack [.obj 150 [.p (.str ((parM s).2.2))]]]:=by
 obtain⟨hl,hc⟩:=hneed;generalize hr:parM s=r at hc;obtain⟨c,⟨n,v⟩,z⟩:=r;simp only at hc;subst hc
 refine spH Tryz.func110 (by kernel_rfl) { keep:=some [0,2,3]} [xC,xB,xO,xN,qV,qU,Xk,Xj,zgx,zgw] (by kernel_rfl) ?_
 intro I X hI hX
 refine orcL ?_;go_invoke;refine orcS (by kernel_rfl) ?_
 simp only [zJ,Nat.reduceAdd];subst hI;simp only [nrmA,nrmB,nrlB,reduceCtorEq,HO.pack.injEq,HO.obj.injEq];unfold parM at hr;have hl1:=vT s;have hl2:=wK s;simp only [show UInt8.ofNat (Int.toNat 61)=61 from rfl,show UInt8.ofNat (Int.toNat 34)=34 from rfl] at *
 (repeat' (first|refine ja ?_ ?_|intro _))<;>first|omega|exact jb|exact jc ‹False›|skip
 all_goals first
  |omega
  |(simp_all;done)
  |(simp_all;omega)
theorem zl1 (s:Str) (hneed:s.length≤1000000∧¬ (parM s).1=0):Spc Tryz.prog 110 [.v (.one (.ptr 0 0))] [.pack [.obj 150 [.p (.str s)]]] (.pan (.ifc 146 false [.int .i64 ((parM s).1)])) [.pack [.obj 150 [.p (.str ((parM s).2.2))]]]:=by
 obtain⟨hl,hc⟩:=hneed;generalize hr:parM s=r at hc;obtain⟨c,⟨n,v⟩,z⟩:=r;simp only at hc
 refine spH Tryz.func110 (by kernel_rfl) { keep:=some [0,2,3]} [xC,xB,xO,xN,qV,qU,Xk,Xj,zgx,zgw] (by kernel_rfl) ?_
 intro I X hI hX
 refine orcL ?_;go_invoke;refine orcS (by kernel_rfl) ?_
 simp only [zJ,Nat.reduceAdd];subst hI;simp only [nrmA,nrmB,nrlB,reduceCtorEq,HO.pack.injEq,HO.obj.injEq];unfold parM at hr;have hl1:=vT s;have hl2:=wK s;simp only [show UInt8.ofNat (Int.toNat 61)=61 from rfl,show UInt8.ofNat (Int.toNat 34)=34 from rfl] at *
 (repeat' (first|refine ja ?_ ?_|intro _))<;>first|omega|exact jb|exact jc ‹False›|skip
 all_goals first
  |omega
  |(simp_all;done)
  |(simp_all;omega)
  |(by_cases hq:tokS (List.drop 1 (tokE s))=[]<;>simp_all;done)
def RS (I:Alg):KU
 |[.v (.one (.ptr 0 0))],[.pack [.obj 150 [.p (.str s)]]]=>(fun(s:Str)=>(some (.br (I.hid (decide ((parM s).1=0))) (.one ⟨I.hid (s.length≤1000000∧(parM s).1=0),(.ret (.v (.agg [.p (.str (I.hid ((parM s).2.1.name))),.p (.str (I.hid ((parM s).2.1.value)))]))),[.pack [.obj 150 [.p (.str (I.hid ((parM s).2.2)))]]]⟩) (.one ⟨I.hid (s.length≤1000000∧¬ (parM s).1=0),(.pan (.ifc 146 false [.int .i64 (I.hid ((parM s).1))])),[.pack [.obj 150 [.p (.str (I.hid ((parM s).2.2)))]]]⟩)):Option CT)) s
 |_,_=>none
theorem zgB:zO Tryz.prog 110 (RS alg):=by
 intro args hp r h;unfold RS at h
 split at h
 · cases h;exact⟨fun _ hn=>zl2 _ hn,fun _ hn=>zl1 _ hn⟩
 · cases h
def RQ:Know Tryz.prog:=⟨110,RS,zgB⟩
def RN:Know Tryz.prog:=⟨110,fun I=>zT I (RS I),zi zgB⟩
end Go.Proofs.YtjdbannldbgpeaaGreatDoor
namespace Go.Proofs.YtjdbannldbgpeaaGreatDoor
open Go Go.Sep Go.Ab
set_option maxRecDepth 100000
def WC (I:Alg):KU
 |[.v (.agg [.p (.str a),.p (.str b)]),.v (.one (.ptr 0 0))],[.pack [.obj 9 [.p (.str n)]]]=>(fun(a b n:Str)=>(some (.one ⟨I.hid (True),(.ret (.v (.one (.p (.bool (I.hid (a == n))))))),[.pack [.obj 9 [.p (.str n)]]]⟩):Option CT)) a b n
 |_,_=>none
theorem zdB:zO Tryz.prog 95 (WC alg):=by
 intro args hp r h;unfold WC at h;split at h<;>cases h
 rename_i a b n;simp only [CT.Good,zI];intro _
 refine spH Tryz.func95 (by kernel_rfl) { keep:=some [0,1,2,3]} [] (by kernel_rfl) ?_
 intro I X hI hX
 refine orcL ?_;go_invoke;refine orcS (by kernel_rfl) ?_
 simp only [zJ,Nat.reduceAdd];subst hI;simp only [nrmA,nrmB,nrlB,reduceCtorEq,HO.pack.injEq,HO.obj.injEq]
 try trivial
def Qa:Know Tryz.prog:=⟨95,WC,zdB⟩
def zi9:Know Tryz.prog:=⟨95,fun I=>zT I (WC I),zi zdB⟩
def zdz (I:Alg):KU
 |[.v (.one (.p (.list .fld l))),.v (.one (.fn 95 [.ptr 0 0]))],[.pack [.obj 9 [.p (.str n)]]]=>(fun(l:List Fld) (n:Str)=>(some (.one ⟨I.hid (l.length≤1000000),(.ret (.v (.one (.p (.int .i64 (I.hid (ixP l n))))))),[.pack [.obj 9 [.p (.str n)]]]⟩):Option CT)) l n
 |_,_=>none
set_option maxHeartbeats 1000000 in
theorem zj6:zO Tryz.prog 65 (zdz alg):=by
 intro args hp r h;unfold zdz at h;split at h<;>cases h
 rename_i l n
 revert l;intro(l:List Fld)
 simp only [CT.Good,zI];intro hneed
 refine spH Tryz.func65 (by kernel_rfl) { keep:=some [0,1,4,5,7,8]} [Qa] (by kernel_rfl) ?_
 intro I X hI hX
 refine orcL ?_;go_invoke;refine orcS (by kernel_rfl) ?_
 simp only [zJ,Nat.reduceAdd]
 refine lpH hI [Qa] hX [0,1,7,8] (fun(i:Nat)=>i≤l.length∧i≤l.findIdx (fun f=>f.name == n)) (fun(i:Nat)=>⟨[(0,.v (.one (.p (.list .fld l)))),(1,.v (.one (.fn 95 [.ptr 0 0]))),(7,.v (.one (.p (.int .i64 ((I.len (α:=Fld) l)))))),(8,.v (.one (.p (.int .i64 i))))],[.pack [.obj 9 [.p (.str n)]]],19,none⟩) (fun(i:Nat)=>l.length - i) 0 (by kernel_rfl) (by kernel_rfl) ?_ ?_
 · exact⟨jL _,jL _⟩
 rintro i ⟨h1,h2⟩ A hA
 refine orcL ?_;go_invoke;refine orcS (by kernel_rfl) ?_
 simp only [zJ,Nat.reduceAdd];subst hI;simp only [nrmA,nrmB,nrlB,reduceCtorEq,HO.pack.injEq,HO.obj.injEq];have hfl:l.findIdx (fun f=>f.name == n)≤l.length:=List.findIdx_le_length
 have hyes:i<l.length→(l.getD i ⟨[],[]⟩).name=n→ixP l n=i:=fun h hid=>by
  have h0:l.findIdx (fun f=>f.name == n)≤i:=by
   refine Nat.le_of_not_lt fun hlt=> ?_;have:=List.not_of_lt_findIdx hlt;rw [jG,ji h] at hid;simp only [Option.getD_some] at hid;rw [hid] at this;simp at this
  unfold ixP
  rw [if_pos (by omega)];omega
 have hno:i<l.length→¬ (l.getD i ⟨[],[]⟩).name=n→i+1≤l.findIdx (fun f=>f.name == n):=fun h hid=>by
  refine Nat.lt_of_le_of_ne h2 fun e=>hid ?_
  have hlt:l.findIdx (fun f=>f.name == n)<l.length:=by omega
  have:=List.findIdx_getElem (xs:=l) (p:=fun f=>f.name == n) (w:=hlt)
  have h9:l.getD i ⟨[],[]⟩=l[l.findIdx (fun f=>f.name == n)]:=by simp [e,jG,hlt]
  rw [h9];simpa using this
 have hend: ¬ i<l.length→ixP l n= -1:=fun h=>by unfold ixP;rw [if_neg (by omega)]
 generalize l.getD i ⟨[],[]⟩=x at *
 (repeat' (first|refine ja ?_ ?_|intro _))<;>first|omega|exact jb|exact jc ‹False›|skip
 all_goals first
  |omega
  |(exact(hyes (by omega) ‹_›).symm)
  |(exact hA (i+1) ⟨by omega,hno (by omega) ‹_›⟩ (by omega))
  |(exact(hend (by omega)).symm)
def zl6:Know Tryz.prog:=⟨65,zdz,zj6⟩
def zl5:Know Tryz.prog:=⟨65,fun I=>zT I (zdz I),zi zj6⟩
theorem zmm (l:List Fld) (n:Str): -1≤ixP l n∧ixP l n<l.length:=by unfold ixP;split<;>omega
def RZ (I:Alg):KU
 |[.v (.agg [.p (.str w),.p (.list .fld l)]),.v (.one (.p (.str n)))],[]=>(fun(w:Str) (l:List Fld) (n:Str)=>(some (.one ⟨I.hid (l.length≤1000000),(.ret (.tup [.one (.p (.str (I.hid ((getP l n).1)))),.one (.p (.bool (I.hid ((getP l n).2))))])),[]⟩):Option CT)) w l n
 |_,_=>none
theorem zgE:zO Tryz.prog 82 (RZ alg):=by
 intro args hp r h;unfold RZ at h;split at h<;>cases h
 rename_i w l n
 revert l;intro(l:List Fld)
 simp only [CT.Good,zI];intro hneed;rw [zhm];have hx:=zmm l n
 refine spH Tryz.func82 (by kernel_rfl) { keep:=some [0,1,2,3,4,5,6]} [Qa,zi9,zl6,zl5] (by kernel_rfl) ?_
 intro I X hI hX
 refine orcL ?_;go_invoke;refine orcS (by kernel_rfl) ?_
 simp only [zJ,Nat.reduceAdd];subst hI;simp only [nrmA,nrmB]
 (repeat' (first|refine ja ?_ ?_|intro _))<;>first|omega|exact jb|exact jc ‹False›|skip
 all_goals first
  |omega
  |(rw [if_pos (by omega)])
  |(rw [if_neg (by omega)])
def VD:Know Tryz.prog:=⟨82,RZ,zgE⟩
def VB:Know Tryz.prog:=⟨82,fun I=>zT I (RZ I),zi zgE⟩
def cfgM:Cfg:= { sl:=[⟨73,1,.fld,some 70⟩]}
set_option maxHeartbeats 4000000 in
theorem zl4 (s:Str) (hneed:s.length≤1000000∧(xu s).1=0):Spc Tryz.prog 94 [.v (.one (.ptr 0 0))] [.pack [.obj 150 [.p (.str s)]]] (.ret (.v (.agg [.p (.str ((xu s).2.1.word)),.p (.list .fld ((xu s).2.1.params))]))) [.pack [.obj 150 [.p (.str ((xu s).2.2))]]]:=by
 obtain⟨hl,hc⟩:=hneed;generalize hr:xu s=r at hc;obtain⟨c,⟨w,ps⟩,z⟩:=r;simp only at hc;subst hc
 refine spH Tryz.func94 (by kernel_rfl) { cfgM with lend:=[82],keep:=some [0,2,3,4,6]} [xC,xB,xO,xN,qX,qW,qV,qU,Xk,Xj,RQ,RN,VD,VB] (by kernel_rfl) ?_
 intro I X hI hX
 refine orcL ?_;go_invoke;refine orcS (by kernel_rfl) ?_
 simp only [zJ,Nat.reduceAdd]
 have hh: ∀ {α:Type} (x:α),I.hid x=x:=by subst hI;intros;rfl
 have key : ∀ (w0 t0:Str),t0.length≤1000000→((medL (t0.length+1) t0 []).1,(⟨w0,(medL (t0.length+1) t0 []).2.1⟩:Med),(medL (t0.length+1) t0 []).2.2)=(0,⟨w,ps⟩,z)→Ok Tryz.prog X (fun o h=>o=AOut.ret (D.v (V0.agg [C.p (P.str w),C.p (P.list U.fld ps)]))∧h=[HO.pack [HO.obj 150 [C.p (P.str z)]]]) (leaf I tab { cfgM with lend:=[82],keep:=some [0,2,3,4,6]} [⟨rY Tryz.f94,finK I tab { cfgM with lend:=[82],keep:=some [0,2,3,4,6]} 1 Tryz.f94⟩] 0 [1,1,1,1,0,1,0] ⟨[(3,.v (.one (.ptr 2 0))),(2,.v (.one (.ptr 1 0))),(0,.v (.one (.ptr 0 0)))],[.pack [.obj 150 [.p (.str t0)]],.obj 73 [.p (.str ([])),.nilS],.obj 73 [.p (.str w0),.nilS]],60,none⟩):=by
  intro w0 t0 ht0 hm;simp only [Prod.mk.injEq,Med.mk.injEq] at hm;obtain⟨hm1,⟨rfl,hm2⟩,hm3⟩:=hm
  refine lpH hI [xC,xB,xO,xN,qX,qW,qV,qU,Xk,Xj,RQ,RN,VD,VB] hX [0,2,3] (fun(g:Str × List Fld)=>match g with|(t,l)=>t.length≤1000000∧l.length≤8∧∃ n,t.length<n∧medL n t l=(0,ps,z)) (fun(g:Str × List Fld)=>match g with|(t,l)=>⟨[(0,.v (.one (.ptr 0 0))),(2,.v (.one (.ptr 1 0))),(3,.v (.one (.ptr 2 0)))],[.pack [.obj 150 [.p (.str t)]],.pack [.obj 73 [.p (.str ([])),.row 1],.row .fld 70 ([])],.pack [.obj 73 [.p (.str w0),.row 1],.row .fld 70 l]],60,none⟩) (fun(g:Str × List Fld)=>match g with|(t,l)=>t.length) (t0,[]) (by kernel_rfl) (by kernel_rfl) ?_ ?_
  · exact⟨ht0,by simp,t0.length+1,by omega,by rw [← hm1,← hm2,← hm3]⟩
  rintro⟨t,l⟩ ⟨ht,hl8,n,hn,hm⟩ A hA;clear hm1 hm2 hm3 hr;simp only at hA
  refine orcL ?_;go_invoke;refine orcS (by kernel_rfl) ?_
  simp only [zJ,Nat.reduceAdd]
  cases n with
  |zero=>omega
  |succ n=>
  simp only [medL] at hm;have hgo:=hA (skS (parM (skS (t.drop 1))).2.2,l++[(parM (skS (t.drop 1))).2.1]);have hpl:=RH (skS (t.drop 1));have hpc:=zas (skS (t.drop 1));have hsl:=wz (t.drop 1);have hsr:=wz (parM (skS (t.drop 1))).2.2;rw [jB] at hsl;clear hA;simp only [hh,show UInt8.ofNat (Int.toNat 59)=59 from rfl];subst hI
  by_cases h59:yV t 59=true
  · have hpos:=TG h59
    simp only [h59,if_true] at hm ⊢
    have hgo2:(parM (skS (t.drop 1))).1=0→(getP l (parM (skS (t.drop 1))).2.1.name).2=false→¬ l.length=8→_:=fun h1 h2 h3=>hgo ⟨by simp only;omega,by simp only [jg,je,jf];omega,n,by simp only;omega,by
     rw [if_neg (fun h=>h h1),if_neg (by rw [h2];exact Bool.false_ne_true),if_neg h3] at hm;exact hm⟩ (by simp only;omega)
    clear hgo;simp only at hgo2;generalize parM (skS (t.drop 1))=p at *;obtain⟨pc,⟨pn,pv⟩,pr⟩:=p;simp only at hgo2 hm hpl hpc hsl hsr ⊢;simp only [nrmA,nrmB,nrlB,reduceCtorEq,je,jf]
    (repeat' (first|refine ja ?_ ?_|intro _))<;>first|omega|exact jb|exact jc ‹False›|skip
    all_goals first
     |omega
     |assumption
     | (by_cases hpz:pc=0
        · exact hpz
        · rw [if_pos hpz] at hm;simp only [Prod.mk.injEq] at hm;exact hm.1)
     |exact hgo2 ‹_› ‹_› (by omega)
     |(exfalso;rw [if_neg (fun h=>h ‹pc=0›),if_neg (by rw [‹(getP l pn).2=false›];exact Bool.false_ne_true),if_pos (by omega)] at hm;simp_all;done)
     |(rw [if_neg (fun h=>h ‹pc=0›),if_neg (by rw [‹(getP l pn).2=false›];exact Bool.false_ne_true),if_pos (by omega)] at hm;simp_all;done)
     |(exfalso;simp_all;done)
     |(simp_all;done)
  · have h59:yV t 59=false:=by simpa using h59
    simp only [h59,jd,if_false] at hm ⊢;simp only [nrmA,nrmB,nrlB,reduceCtorEq,je,jf]
    (repeat' (first|refine ja ?_ ?_|intro _))<;>first|omega|exact jb|exact jc ‹False›|skip
    all_goals first
     |omega
     |(exfalso;simp_all;done)
     |(simp_all;done)
     |(by_cases hte:t=[]<;>simp_all;done)
 have hl1:=wz s;have hl2:=wK (skS s);have hl3:=vT (skS s);simp only [hh,show UInt8.ofNat (Int.toNat 47)=47 from rfl,decide_eq_true_eq,decide_eq_false_iff_not];unfold xu medA at hr;generalize skS s=t at *;have hl4:=vT ((tokE t).drop 1);have hl5:=wK ((tokE t).drop 1);rw [jB] at hl4 hl5
 (repeat' (first|refine ja ?_ ?_|intro _))
 all_goals try first|trivial|assumption|omega|(exfalso;simp_all;done)|(subst hI;(try(simp only [nrmA,nrmB,nrlB,reduceCtorEq,je,jf,wo]))<;>first|omega|(simp_all [wo];done)|(simp_all [wo];omega))
 all_goals(have happ: ∀ a b:Str,I.app (α:=UInt8) a b=a++b:=by subst hI;intros;rfl)
 all_goals try simp only [happ]
 all_goals first
  | (rename_i q1 q2 q3
     rw [if_neg q1,if_pos q2] at hr;simp only [q2,if_true] at q3 ⊢;rw [if_neg q3] at hr;have hsk:=wz (tokE ((tokE t).drop 1))
     exact key _ _ (by omega) hr)
  | (rename_i q1 q2
     rw [if_neg q1,if_neg (by simp [q2])] at hr
     simp only [q2,jd,if_false] at ⊢
     have hsk:=wz (tokE t)
     exact key _ _ (by omega) hr)
set_option maxHeartbeats 4000000 in
theorem zl3 (s:Str) (hneed:s.length≤1000000∧¬ (xu s).1=0):Spc Tryz.prog 94 [.v (.one (.ptr 0 0))] [.pack [.obj 150 [.p (.str s)]]] (.pan (.ifc 146 false [.int .i64 ((xu s).1)])) [.pack [.obj 150 [.p (.str ((xu s).2.2))]]]:=by
 obtain⟨hl,hc⟩:=hneed;generalize hr:xu s=r at hc;obtain⟨c,⟨w,ps⟩,z⟩:=r;simp only at hc
 refine spH Tryz.func94 (by kernel_rfl) { cfgM with lend:=[82],keep:=some [0,2,3,4,6]} [xC,xB,xO,xN,qX,qW,qV,qU,Xk,Xj,RQ,RN,VD,VB] (by kernel_rfl) ?_
 intro I X hI hX
 refine orcL ?_;go_invoke;refine orcS (by kernel_rfl) ?_
 simp only [zJ,Nat.reduceAdd]
 have hh: ∀ {α:Type} (x:α),I.hid x=x:=by subst hI;intros;rfl
 have key : ∀ (w0 t0:Str),t0.length≤1000000→((medL (t0.length+1) t0 []).1,(⟨w0,(medL (t0.length+1) t0 []).2.1⟩:Med),(medL (t0.length+1) t0 []).2.2)=(c,⟨w,ps⟩,z)→Ok Tryz.prog X (fun o h=>o=AOut.pan (C.ifc 146 false [P.int IntKind.i64 c])∧h=[HO.pack [HO.obj 150 [C.p (P.str z)]]]) (leaf I tab { cfgM with lend:=[82],keep:=some [0,2,3,4,6]} [⟨rY Tryz.f94,finK I tab { cfgM with lend:=[82],keep:=some [0,2,3,4,6]} 1 Tryz.f94⟩] 0 [1,1,1,1,0,1,0] ⟨[(3,.v (.one (.ptr 2 0))),(2,.v (.one (.ptr 1 0))),(0,.v (.one (.ptr 0 0)))],[.pack [.obj 150 [.p (.str t0)]],.obj 73 [.p (.str ([])),.nilS],.obj 73 [.p (.str w0),.nilS]],60,none⟩):=by
  intro w0 t0 ht0 hm;simp only [Prod.mk.injEq,Med.mk.injEq] at hm;obtain⟨hm1,⟨rfl,hm2⟩,hm3⟩:=hm
  refine lpH hI [xC,xB,xO,xN,qX,qW,qV,qU,Xk,Xj,RQ,RN,VD,VB] hX [0,2,3] (fun(g:Str × List Fld)=>match g with|(t,l)=>t.length≤1000000∧l.length≤8∧∃ n,t.length<n∧medL n t l=(c,ps,z)) (fun(g:Str × List Fld)=>match g with|(t,l)=>⟨[(0,.v (.one (.ptr 0 0))),(2,.v (.one (.ptr 1 0))),(3,.v (.one (.ptr 2 0)))],[.pack [.obj 150 [.p (.str t)]],.pack [.obj 73 [.p (.str ([])),.row 1],.row .fld 70 ([])],.pack [.obj 73 [.p (.str w0),.row 1],.row .fld 70 l]],60,none⟩) (fun(g:Str × List Fld)=>match g with|(t,l)=>t.length) (t0,[]) (by kernel_rfl) (by kernel_rfl) ?_ ?_
  · exact⟨ht0,by simp,t0.length+1,by omega,by rw [← hm1,← hm2,← hm3]⟩
  rintro⟨t,l⟩ ⟨ht,hl8,n,hn,hm⟩ A hA;clear hm1 hm2 hm3 hr;simp only at hA
  refine orcL ?_;go_invoke;refine orcS (by kernel_rfl) ?_
  simp only [zJ,Nat.reduceAdd]
  cases n with
  |zero=>omega
  |succ n=>
  simp only [medL] at hm;have hgo:=hA (skS (parM (skS (t.drop 1))).2.2,l++[(parM (skS (t.drop 1))).2.1]);have hpl:=RH (skS (t.drop 1));have hpc:=zas (skS (t.drop 1));have hsl:=wz (t.drop 1);have hsr:=wz (parM (skS (t.drop 1))).2.2;rw [jB] at hsl;clear hA;simp only [hh,show UInt8.ofNat (Int.toNat 59)=59 from rfl];subst hI
  by_cases h59:yV t 59=true
  · have hpos:=TG h59
    simp only [h59,if_true] at hm ⊢
    have hgo2:(parM (skS (t.drop 1))).1=0→(getP l (parM (skS (t.drop 1))).2.1.name).2=false→¬ l.length=8→_:=fun h1 h2 h3=>hgo ⟨by simp only;omega,by simp only [jg,je,jf];omega,n,by simp only;omega,by
     rw [if_neg (fun h=>h h1),if_neg (by rw [h2];exact Bool.false_ne_true),if_neg h3] at hm;exact hm⟩ (by simp only;omega)
    clear hgo;simp only at hgo2;generalize parM (skS (t.drop 1))=p at *;obtain⟨pc,⟨pn,pv⟩,pr⟩:=p;simp only at hgo2 hm hpl hpc hsl hsr ⊢;simp only [nrmA,nrmB,nrlB,reduceCtorEq,je,jf]
    (repeat' (first|refine ja ?_ ?_|intro _))<;>first|omega|exact jb|exact jc ‹False›|skip
    all_goals first
     |omega
     |assumption
     | (by_cases hpz:pc=0
        · exact hpz
        · rw [if_pos hpz] at hm;simp only [Prod.mk.injEq] at hm;exact hm.1)
     |exact hgo2 ‹_› ‹_› (by omega)
     |(exfalso;rw [if_neg (fun h=>h ‹pc=0›),if_neg (by rw [‹(getP l pn).2=false›];exact Bool.false_ne_true),if_pos (by omega)] at hm;simp_all;done)
     |(rw [if_neg (fun h=>h ‹pc=0›),if_neg (by rw [‹(getP l pn).2=false›];exact Bool.false_ne_true),if_pos (by omega)] at hm;simp_all;done)
     |(exfalso;simp_all;done)
     |(simp_all;done)
  · have h59:yV t 59=false:=by simpa using h59
    simp only [h59,jd,if_false] at hm ⊢;simp only [nrmA,nrmB,nrlB,reduceCtorEq,je,jf]
    (repeat' (first|refine ja ?_ ?_|intro _))<;>first|omega|exact jb|exact jc ‹False›|skip
    all_goals first
     |omega
     |(exfalso;simp_all;done)
     |(simp_all;done)
     |(by_cases hte:t=[]<;>simp_all;done)
 have hl1:=wz s;have hl2:=wK (skS s);have hl3:=vT (skS s);simp only [hh,show UInt8.ofNat (Int.toNat 47)=47 from rfl,decide_eq_true_eq,decide_eq_false_iff_not];unfold xu medA at hr;generalize skS s=t at *;have hl4:=vT ((tokE t).drop 1);have hl5:=wK ((tokE t).drop 1);rw [jB] at hl4 hl5
 (repeat' (first|refine ja ?_ ?_|intro _))
 all_goals try first|trivial|assumption|omega|(exfalso;simp_all;done)|(subst hI;(try(simp only [nrmA,nrmB,nrlB,reduceCtorEq,je,jf,wo]))<;>first|omega|(simp_all [wo];done)|(simp_all [wo];omega))
 all_goals(have happ: ∀ a b:Str,I.app (α:=UInt8) a b=a++b:=by subst hI;intros;rfl)
 all_goals try simp only [happ]
 all_goals first
  | (rename_i q1 q2 q3
     rw [if_neg q1,if_pos q2] at hr;simp only [q2,if_true] at q3 ⊢;rw [if_neg q3] at hr;have hsk:=wz (tokE ((tokE t).drop 1))
     exact key _ _ (by omega) hr)
  | (rename_i q1 q2
     rw [if_neg q1,if_neg (by simp [q2])] at hr
     simp only [q2,jd,if_false] at ⊢
     have hsk:=wz (tokE t)
     exact key _ _ (by omega) hr)
def RU (I:Alg):KU
 |[.v (.one (.ptr 0 0))],[.pack [.obj 150 [.p (.str s)]]]=>(fun(s:Str)=>(some (.br (I.hid (decide ((xu s).1=0))) (.one ⟨I.hid (s.length≤1000000∧(xu s).1=0),(.ret (.v (.agg [.p (.str (I.hid ((xu s).2.1.word))),.p (.list .fld (I.hid ((xu s).2.1.params)))]))),[.pack [.obj 150 [.p (.str (I.hid ((xu s).2.2)))]]]⟩) (.one ⟨I.hid (s.length≤1000000∧¬ (xu s).1=0),(.pan (.ifc 146 false [.int .i64 (I.hid ((xu s).1))])),[.pack [.obj 150 [.p (.str (I.hid ((xu s).2.2)))]]]⟩)):Option CT)) s
 |_,_=>none
theorem zgC:zO Tryz.prog 94 (RU alg):=by
 intro args hp r h;unfold RU at h
 split at h
 · cases h;exact⟨fun _ hn=>zl4 _ hn,fun _ hn=>zl3 _ hn⟩
 · cases h
def zkP:Know Tryz.prog:=⟨94,RU,zgC⟩
def zkO:Know Tryz.prog:=⟨94,fun I=>zT I (RU I),zi zgC⟩
end Go.Proofs.YtjdbannldbgpeaaGreatDoor
namespace Go.Proofs.YtjdbannldbgpeaaGreatDoor
open Go Go.Sep Go.Ab
set_option maxRecDepth 100000
theorem zl8 (w:Str) (l:List Fld) (n:Int) (s:Str):SpcD Tryz.prog 93 [.ptr 0 0,.ptr 1 0] .ret [.obj 73 [.p (.str w),.p (.list .fld l)],.obj 3 [.p (.int .i64 n)],.pack [.obj 150 [.p (.str s)]]] .ret [.obj 73 [.p (.str w),.p (.list .fld l)],.obj 3 [.p (.int .i64 n)],.obj 150 [.p (.str s)]]:=by
 refine UQ Z7 mixed Tryz.func93 (by kernel_rfl) { flat:=true} [] (rest:=_) rfl (by kernel_rfl) ?_
 intro I X hI hX
 refine orcL ?_;go_invoke;refine orcS (by kernel_rfl) ?_
 simp only [zJ,Nat.reduceAdd]
 try trivial
theorem zl7 (w:Str) (n k:Int) (s:Str):SpcD Tryz.prog 93 [.ptr 0 0,.ptr 1 0] (.pan (.ifc 146 false [.int .i64 k])) [.obj 73 [.p (.str w),.nilS],.obj 3 [.p (.int .i64 n)],.pack [.obj 150 [.p (.str s)]]] .ret [.obj 73 [.p (.str []),.nilS],.obj 3 [.p (.int .i64 k)],.obj 150 [.p (.str s)]]:=by
 refine UQ Z7 mixed Tryz.func93 (by kernel_rfl) { flat:=true} [] (rest:=_) rfl (by kernel_rfl) ?_
 intro I X hI hX
 refine orcL ?_;go_invoke;refine orcS (by kernel_rfl) ?_
 simp only [zJ,Nat.reduceAdd]
 try trivial
def zmR:Door Tryz.prog where
 g:=93
 c :=fun _ m caps hp=>match m,caps,hp with
   |.ret,[.ptr 0 0,.ptr 1 0],[.obj 73 [.p (.str w),.p (.list .fld l)],.obj 3 [.p (.int .i64 n)],.pack [.obj 150 [.p (.str s)]]]=>some (True,.ret,[.obj 73 [.p (.str w),.p (.list .fld l)],.obj 3 [.p (.int .i64 n)],.obj 150 [.p (.str s)]])
   |.pan (.ifc 146 false [.int .i64 k]),[.ptr 0 0,.ptr 1 0],[.obj 73 [.p (.str w),.nilS],.obj 3 [.p (.int .i64 n)],.pack [.obj 150 [.p (.str s)]]]=>some (True,.ret,[.obj 73 [.p (.str []),.nilS],.obj 3 [.p (.int .i64 k)],.obj 150 [.p (.str s)]])
   |_,_,_=>none
 ok:=by
  intro m caps hp p m' hp' h _
  split at h
  · cases h;exact zl8 _ _ _ _
  · cases h;exact zl7 _ _ _ _
  · cases h
def Yw (I:Alg):KU
 |[.v (.one (.p (.str s)))],[]=>(fun(s:Str)=>(some (.one ⟨I.hid (s.length≤1000000),(.ret (.tup [.agg [.p (.str (I.hid ((wO s).1.word))),.p (.list .fld (I.hid ((wO s).1.params)))],.one (.p (.int .i64 (I.hid ((wO s).2))))])),[]⟩):Option CT)) s
 |_,_=>none
theorem zav:zO Tryz.prog 81 (Yw alg):=by
 intro args hp r h;unfold Yw at h;split at h<;>cases h
 rename_i s;simp only [CT.Good,zI];intro hneed;generalize hr:wO s=r;obtain⟨⟨w,ps⟩,c⟩:=r;unfold wO at hr
 refine zmN Z7 mixed Tryz.func81 (by kernel_rfl) { cfgM with keep:=some [0,2,3,4]} [wG,wF,zkP,zkO] zmR (by kernel_rfl) ?_
 intro I X hI hX
 refine orcL ?_;go_invoke;refine orcS (by kernel_rfl) ?_
 simp only [zJ,Nat.reduceAdd];subst hI;simp only [nrmA,nrmB,nrlB,reduceCtorEq,V0.agg.injEq]
 (repeat' (first|refine ja ?_ ?_|intro _))<;>first|omega|exact jb|exact jc ‹False›|skip
 all_goals first|(simp_all;done)|trace_state
def zgA:Know Tryz.prog:=⟨81,Yw,zav⟩
def zgz:Know Tryz.prog:=⟨81,fun I=>zT I (Yw I),zi zav⟩
end Go.Proofs.YtjdbannldbgpeaaGreatDoor
namespace Go.Proofs.YtjdbannldbgpeaaGreatDoor
open Go Go.Sep Go.Ab
set_option maxRecDepth 100000
def medS (n:Nat) (l:List Fld) (x:Int × Fld × Str):Int × List Fld × Str:=
 if x.1≠0 then(x.1,l,x.2.2) else if(getP l x.2.1.name).2=true then(9,l,x.2.2) else if l.length=8 then(8,l,x.2.2) else medL n (skS x.2.2) (l++[x.2.1])
theorem zgW (n:Nat) (s:Str) (l:List Fld):medL (n+1) s l=if yV s 59=true then medS n l (parM (skS (s.drop 1))) else if s=[] then(0,l,s) else(5,l,s):=rfl
theorem drop_nil (s:Str) (i:Int) (h0:0≤i) (h1:i≤s.length):s.drop i.toNat=[]↔i=s.length:=by
 rw [← List.length_eq_zero_iff,jB];omega
theorem zkK {x:UInt8} (r:Str) (h:x=34):quoF (x::r)=some ([],r):=by
 subst h;cases r<;>simp [quoF]
theorem zkJ {x:UInt8} (y:UInt8) (r:Str) (h:x=92):quoF (x::y::r)=(quoF r).map (fun p=>(y::p.1,p.2)):=by
 subst h;simp [quoF]
theorem zlU {x:UInt8} (r:Str) (h: ¬ x=34) (k: ¬ x=92):quoF (x::r)=(quoF r).map (fun p=>(x::p.1,p.2)):=by
 cases r<;>simp [quoF,h,k]
end Go.Proofs.YtjdbannldbgpeaaGreatDoor
namespace Go.Proofs.YtjdbannldbgpeaaGreatDoor
open Go Go.Sep Go.Ab
set_option maxRecDepth 100000
theorem YE (c:UInt8) (t:Str): ∀ s:Str,(∀ x ∈ s,x≠c)→Lib.indexByte (s++c::t) c=s.length
 |[],_=>by simp [Lib.indexByte]
 | b::l,h=>by
   have ih:=YE c t l (fun x hx=>h x (List.mem_cons_of_mem _ hx))
   have hb:(b == c)=false:=by simpa using h b (List.mem_cons_self ..)
   simp only [List.cons_append,Lib.indexByte,hb,ih,je]
   rw [if_neg (by simp),if_neg (by try simp;try omega)]
   try omega
theorem zc1 {s:Str} (h:tokA s=true) {x:UInt8} (hx:x ∈ s):tokB (x.toNat:Int)=true:=List.all_eq_true.1 h x hx
theorem zfT {s:Str} (h:tokA s=true): ∀ x ∈ s,x≠58:=fun x hx e=>by
 have:=zc1 h hx;subst e
 revert this
 decide+kernel
theorem yI {s:Str} (h:xk s=true):s≠[]∧tokA s=true:=by
 unfold xk at h
 simpa using h
theorem zid {n v:Str} (h:tokA n=true):cutB (n++[58,32]++v) 58=(n,32::v,true):=by
 have e:n++[58,32]++v=n++58::32::v:=by simp
 have hi:=YE 58 (32::v) n (zfT h);rw [e];unfold cutB
 rw [hi,if_pos (by omega)]
 simp
theorem zfS (v:Str):trL (32::v)=trL v:=by rw [X9,if_pos (by decide)]
theorem zeN (v:Str):Lib.trimS (32::v) [32,9]=Lib.trimS v [32,9]:=by
 rw [zcY,zcY,zbQ,zbQ,zfS]
theorem zeW (v:Str):yG (32::v)=yG v:=by
 have h:yG (32::v)=(qc ((32:UInt8).toNat:Int)&&yG v):=by unfold yG;rw [List.all_cons]
 rw [h,show qc ((32:UInt8).toNat:Int)=true by decide+kernel,Bool.true_and]
structure Fit (f:Fld):Prop where
 tok:xk f.name=true
 len:f.name.length≤40
 seen:yG f.value=true
 trim:Lib.trimS f.value [32,9]=f.value
theorem zc2 {f:Fld} (h:(textF f).2=0):Fit f∧f.name.length+2+f.value.length≤200∧(textF f).1=f.name++[58,32]++f.value:=by
 unfold textF at h ⊢
 split at h
 · cases h
 · split at h
   · cases h
   · split at h
     · cases h
     · rename_i h1 h2 h3
       rw [if_neg h1,if_neg h2,if_neg h3];simp only [not_or,Bool.not_eq_false,Decidable.not_not] at h1 h3
       exact⟨⟨h1,by omega,h3.1,h3.2⟩,by omega,rfl⟩
theorem zhM {f:Fld} (h:Fit f):xM (f.name++[58,32]++f.value)=(f,0):=by
 obtain⟨h1,h2,h3,h4⟩:=h;unfold xM;rw [zid (yI h1).2];simp only [zeW,zeN]
 rw [if_neg (by simp),if_neg (by simp [h1]),if_neg (by omega),if_neg (by simp [h3]),h4]
theorem zeO {f:Fld} (h:(textF f).2=0):xM (textF f).1=(f,0)∧(textF f).1.length≤200:=by
 obtain⟨h1,h2,h3⟩:=zc2 h;rw [h3]
 exact⟨zhM h1,by simp;omega⟩
theorem zgq (s:Str):(xM s).1.name.length≤s.length∧(xM s).1.value.length≤s.length:=by
 have h:=QC s 58;have ht:=zcX (cutB s 58).2.1 [32,9];unfold xM
 repeat' split
 all_goals simp only [jf]
 all_goals omega
end Go.Proofs.YtjdbannldbgpeaaGreatDoor
namespace Go.Proofs.YtjdbannldbgpeaaGreatDoor
open Go Go.Sep Go.Ab
set_option maxRecDepth 100000
theorem VQ {c:UInt8} (h:isTk c=true):qc (c.toNat:Int)=true∧c≠32∧c≠9∧c≠59∧c≠61∧c≠47∧c≠34:=by
 have key: ∀ n:Fin 256,tokB ((n.1:Nat):Int)=true→qc ((n.1:Nat):Int)=true∧n.1≠32∧n.1≠9∧n.1≠59∧n.1≠61∧n.1≠47∧n.1≠34:=by decide+kernel
 have:=key ⟨c.toNat,c.toNat_lt⟩ h;obtain⟨h0,h1,h2,h3,h4,h5,h6⟩:=this
 exact⟨h0,fun e=>h1 (by rw [e];rfl),fun e=>h2 (by rw [e];rfl),fun e=>h3 (by rw [e];rfl),fun e=>h4 (by rw [e];rfl),fun e=>h5 (by rw [e];rfl),fun e=>h6 (by rw [e];rfl)⟩
theorem Vh {x:Str} (h:tokA x=true): ∀ c ∈ x,isTk c=true:=fun c m=>zc1 h m
theorem ZX {x:Str} (h:tokA x=true):yG x=true:=List.all_eq_true.2 fun c m=>(VQ (Vh h c m)).1
theorem ZY {x r:Str} (h:tokA x=true) (k: ∀ c,r.head?=some c→isTk c=false):tokS (x++r)=x∧tokE (x++r)=r:=by
 unfold tokS tokE;constructor
 · rw [List.takeWhile_append_of_pos (Vh h)]
   cases r with
   |nil=>simp
   |cons c r=>rw [List.takeWhile_cons_of_neg (by rw [k c rfl];decide),List.append_nil]
 · rw [List.dropWhile_append_of_pos (Vh h)]
   cases r with
   |nil=>rfl
   |cons c r=>rw [List.dropWhile_cons_of_neg (by rw [k c rfl];decide)]
theorem zbW {x r:Str} (h:x≠[]) (k:tokA x=true):skS (x++r)=x++r:=by
 cases x with
 |nil=>exact absurd rfl h
 | cons c x=>
   have hc:=VQ (Vh k c (List.mem_cons_self ..));unfold skS Lib.trimLeftS;rw [List.cons_append,List.dropWhile_cons_of_neg]
   simp [hc.2.1,hc.2.2.1]
theorem zkD {c:UInt8} {r:Str} (h:c≠32) (k:c≠9):skS (c::r)=c::r:=by
 unfold skS Lib.trimLeftS;rw [List.dropWhile_cons_of_neg]
 simp [h,k]
theorem zlO (r:Str):skS (32::r)=skS r:=by
 unfold skS Lib.trimLeftS
 rw [List.dropWhile_cons_of_pos (by decide)]
theorem zdj: ∀ (v r:Str),quoF (escS v++34::r)=some (v,r)
 |[],r=>zkK r rfl
 | c ::v,r=>by
   have ih:=zdj v r;have e:escS (c::v)=escB c++escS v:=rfl;rw [e];unfold escB
   by_cases h:c=34∨c=92
   · rw [if_pos h]
     show quoF (92::c::(escS v++34::r))=_
     rw [zkJ c _ rfl,ih];rfl
   · rw [if_neg h]
     show quoF (c::(escS v++34::r))=_
     rw [zlU _ (fun e=>h (.inl e)) (fun e=>h (.inr e)),ih];rfl
def Bhd (r:Str):Prop:=r=[]∨∃ t,r=59::t
theorem Bhd.no {r:Str} (h:Bhd r): ∀ c,r.head?=some c→isTk c=false:=by
 rcases h with rfl|⟨t,rfl⟩
 · intro c e;cases e
 · intro c e;cases e;decide
structure zlJ (p:Fld):Prop where
 tk:xk p.name=true
 lo:lowS p.name=p.name
 se:yG p.value=true
theorem zgs {p:Fld} (h:zlJ p) {r:Str} (k:Bhd r):parM (p.name++[61]++quoM p.value++r)=(0,p,r):=by
 obtain⟨hn,ht⟩:=yI h.tk
 have e0:p.name++[61]++quoM p.value++r=p.name++(61::(quoM p.value++r)):=by simp
 obtain⟨a1,a2⟩:=ZY (r:=61::(quoM p.value++r)) ht (fun c e=>by cases e;decide)
 unfold parM
 rw [e0,a1,a2,if_neg hn,if_neg (by simp [yV])]
 by_cases hv:xk p.value=true
 · obtain⟨hv0,hvt⟩:=yI hv
   have eq:quoM p.value=p.value:=by unfold quoM;rw [if_pos hv]
   obtain⟨b1,b2⟩:=ZY (r:=r) hvt k.no
   have hh:yV ((61::(quoM p.value++r)).drop 1) 34=false:=by
    rw [eq]
    show yV (p.value++r) 34=false
    cases hx:p.value with
    |nil=>exact absurd hx hv0
    | cons c x=>
      have:=(VQ (Vh hvt c (by rw [hx];exact List.mem_cons_self ..))).2.2.2.2.2.2
      simp [yV,this]
   rw [if_neg (by rw [hh];decide),eq]
   show(if tokS (p.value++r)=[] then _ else _)=_
   rw [b1,if_neg hv0]
   show((0:Int),(⟨lowS p.name,tokS (p.value++r)⟩:Fld),tokE (p.value++r))=_
   rw [b1,b2,h.lo]
 · have eq:quoM p.value=[34]++escS p.value++[34]:=by unfold quoM;rw [if_neg hv]
   have hh:yV ((61::(quoM p.value++r)).drop 1) 34=true:=by rw [eq];simp [yV]
   have hd:(61::(quoM p.value++r)).drop 2=escS p.value++34::r:=by rw [eq];simp
   have hq:=zdj p.value r
   rw [if_pos hh,hd,if_pos (by rw [hq];rfl)]
   unfold quoV quoR;rw [hq,h.lo]
def uH:List Fld→Str
 |[]=>[]
 |p::r=>[59,32]++p.name++[61]++quoM p.value++uH r
theorem zfY (l:List Fld):Bhd (uH l):=by
 cases l with
 |nil=>exact .inl rfl
 |cons p r=>exact .inr ⟨_,rfl⟩
theorem zc9 (l:List Fld):skS (uH l)=uH l:=by
 cases l with
 |nil=>rfl
 |cons p r=>exact zkD (by decide) (by decide)
theorem zfX (p:Fld) (r:List Fld):(uH r).length<(uH (p::r)).length:=by
 simp only [uH,jg,je,jf];omega
theorem zbN: ∀ (l d:List Fld) (a:Str),(txtL d l a).2=0→(txtL d l a).1=a++uH l∧(∀ p ∈ l,zlJ p)
 |[],d,a,_=>⟨by simp [txtL,uH],fun p h=>by cases h⟩
 | p :: r,d,a,h=>by
   rw [txtL] at h ⊢
   by_cases h1:xk p.name=false∨lowS p.name≠p.name
   · rw [if_pos h1] at h;exact absurd (show(6:Int)=0 from h) (by decide)
   · rw [if_neg h1] at h ⊢
     by_cases h2:hasP d p.name=true
     · rw [if_pos h2] at h;exact absurd (show(9:Int)=0 from h) (by decide)
     · rw [if_neg h2] at h ⊢
       by_cases h3:yG p.value=false
       · rw [if_pos h3] at h;exact absurd (show(3:Int)=0 from h) (by decide)
       · rw [if_neg h3] at h ⊢
         obtain⟨g1,g2⟩:=zbN r _ _ h
         refine⟨by rw [g1];simp [uH],fun q hq=> ?_⟩
         rcases List.mem_cons.1 hq with rfl|hq
         · exact⟨by simpa using fun e=>h1 (.inl e),Classical.not_not.1 fun e=>h1 (.inr e),by simpa using h3⟩
         · exact g2 q hq
theorem zjw (l:List Fld) (n:Str):(getP l n).2=hasP l n:=by
 rw [zhm];unfold hasP
 split
 · rename_i h;rw [decide_eq_true h]
 · rename_i h;rw [decide_eq_false h]
theorem zaA: ∀ (l d:List Fld) (a:Str) (n:Nat),(txtL d l a).2=0→d.length+l.length≤8→(uH l).length<n→medL n (uH l) d=(0,d++l,[])
 |l,d,a,0,_,_,hn=>absurd hn (Nat.not_lt_zero _)
 | [],d,a,n+1,_,_,_=>by
   show medL (n+1) [] d=_
   rw [zgW,if_neg (by simp [yV]),if_pos rfl,List.append_nil]
 | p ::r,d,a,n+1,h,hd,hn=>by
   have hgp:=(zbN (p::r) d a h).2 p (List.mem_cons_self ..);have hlt:=zfX p r;rw [txtL] at h
   by_cases h1:xk p.name=false∨lowS p.name≠p.name
   · rw [if_pos h1] at h;exact absurd (show(6:Int)=0 from h) (by decide)
   rw [if_neg h1] at h
   by_cases h2:hasP d p.name=true
   · rw [if_pos h2] at h;exact absurd (show(9:Int)=0 from h) (by decide)
   rw [if_neg h2] at h
   by_cases h3:yG p.value=false
   · rw [if_pos h3] at h;exact absurd (show(3:Int)=0 from h) (by decide)
   rw [if_neg h3] at h;obtain⟨hn0,hnt⟩:=yI hgp.tk
   have e1:(uH (p::r)).drop 1=32::(p.name++([61]++quoM p.value++uH r)):=by simp [uH]
   have e2:skS ((uH (p::r)).drop 1)=p.name++[61]++quoM p.value++uH r:=by
    rw [e1,zlO,zbW hn0 hnt];simp
   have hh:yV (uH (p::r)) 59=true:=by simp [uH,yV]
   rw [medL,if_pos hh,e2,zgs hgp (zfY r)];simp only [je] at hd
   rw [if_neg (fun h=>h rfl),if_neg (by rw [zjw];exact h2),if_neg (by omega),zc9,zaA r (d++[p]) _ n h (by simp;omega) (by omega)]
   simp
theorem zic {w:Str} (h:(cutB w 47).2.2=true):w=(cutB w 47).1++47::(cutB w 47).2.1:=by
 unfold cutB at h ⊢
 split
 · rename_i h0
   have hl:=(uP w 47).2
   have hg : w.getD (Lib.indexByte w 47).toNat 0=47:=by
    have: ∀ (s:Str),0≤Lib.indexByte s 47→s.getD (Lib.indexByte s 47).toNat 0=47:=by
     intro s
     induction s with
     |nil=>intro h;simp [Lib.indexByte] at h
     | cons x s ih=>
       intro h;rw [Lib.indexByte] at h ⊢
       by_cases hx:(x == 47)=true
       · rw [if_pos hx];simpa using hx
       · rw [if_neg hx] at h ⊢
         by_cases h3:Lib.indexByte s 47= -1
         · simp [h3] at h
         · have hb:=(uP s 47).1
           simp only [h3,beq_iff_eq,if_false] at h ⊢
           rw [show(Lib.indexByte s 47+1).toNat=(Lib.indexByte s 47).toNat+1 by omega,List.getD_cons_succ]
           exact ih (by omega)
    exact this w h0
   have:=jD (l:=w) (i:=(Lib.indexByte w 47).toNat) (by omega)
   have hlt:(Lib.indexByte w 47).toNat<w.length:=by omega
   have e47:w[(Lib.indexByte w 47).toNat]'hlt=47:=by
    have h9:=hg
    rwa [jG,ji hlt,Option.getD_some] at h9
   rw [e47] at this;simp only;rw [← this,List.take_append_drop]
 · rename_i h0;rw [if_neg h0] at h;cases h
def zeH (w:Str):Prop:=(xk w=true∧lowS w=w)∨∃ a b,w=a++47::b∧xk a=true∧xk b=true∧lowS a=a∧lowS b=b
theorem zjl (a b:Str):lowS (a++b)=lowS a++lowS b:=by simp [lowS]
theorem zkv {w:Str} (h:zbM w=true):zeH w:=by
 unfold zbM at h;rw [jJ,jJ,decide_eq_true_iff] at h;obtain⟨h1,h2,h3⟩:=h
 by_cases hc:(cutB w 47).2.2=true
 · rw [hc] at h2
   have hw:=zic hc;simp only [Bool.not_true,Bool.false_or] at h2;refine .inr ⟨_,_,hw,h1,h2,?_⟩;rw [hw,zjl] at h3
   have:=List.append_inj h3 (by rw [wo])
   refine⟨this.1,?_⟩;have h5:=this.2;rw [show lowS (47::(cutB w 47).2.1)=47::lowS (cutB w 47).2.1 from rfl] at h5;exact(List.cons.inj h5).2
 · have e:(cutB w 47).1=w:=by
    unfold cutB at hc ⊢
    split
    · rename_i h0;rw [if_pos h0] at hc;exact absurd rfl hc
    · rfl
   rw [e] at h1;exact .inl ⟨h1,h3⟩
theorem ziS {w:Str} (h:zeH w) (r:Str):skS (w++r)=w++r∧w≠[]:=by
 rcases h with⟨h1,_⟩|⟨a,b,rfl,h1,_⟩
 · obtain⟨h0,ht⟩:=yI h1;exact⟨zbW h0 ht,h0⟩
 · obtain⟨h0,ht⟩:=yI h1
   rw [jk]
   exact⟨zbW h0 ht,by simp⟩
theorem zgY {w:Str} (h:zeH w) {r:Str} (k:Bhd r):medA (w++r)=medB w r:=by
 rcases h with⟨h1,h2⟩|⟨a,b,rfl,h1,h2,h3,h4⟩
 · obtain⟨h0,ht⟩:=yI h1
   obtain⟨a1,a2⟩:=ZY ht k.no
   have hh:yV r 47=false:=by
    rcases k with rfl|⟨t,rfl⟩
    · rfl
    · simp [yV]
   unfold medA
   rw [a1,a2,if_neg h0,if_neg (by rw [hh];decide),h2]
 · obtain⟨ha0,hat⟩:=yI h1
   obtain⟨hb0,hbt⟩:=yI h2
   obtain⟨a1,a2⟩:=ZY (r:=47::(b++r)) hat (fun c e=>by cases e;decide)
   obtain⟨b1,b2⟩:=ZY hbt k.no
   have e:a++47::b++r=a++47::(b++r):=by simp
   unfold medA
   rw [e,a1,a2,if_neg ha0,if_pos (by simp [yV])]
   show(if tokS (b++r)=[] then _ else medB (lowS a++([47]++lowS (tokS (b++r)))) (tokE (b++r)))=_
   rw [b1,if_neg hb0,b2,h3,h4];rfl
theorem xY (a b:Str):yG (a++b)=(yG a&&yG b):=List.all_append
theorem zer: ∀ {v:Str},yG v=true→yG (escS v)=true
 |[],_=>rfl
 | c ::v,h=>by
   have h':qc (c.toNat:Int)=true∧yG v=true:=by simpa [yG] using h
   have e:escS (c::v)=escB c++escS v:=rfl;rw [e,xY,zer h'.2,Bool.and_true];unfold escB
   split
   · rename_i hc
     have:qc ((92:UInt8).toNat:Int)=true:=by decide
     show(qc ((92:UInt8).toNat:Int)&&(qc (c.toNat:Int)&&true))=true
     rw [this,h'.1];rfl
   · simp [yG,h'.1]
theorem ziZ {v:Str} (h:yG v=true):yG (quoM v)=true:=by
 unfold quoM
 split
 · exact h
 · rw [xY,xY,zer h];decide
theorem Q8: ∀ {l:List Fld},(∀ p ∈ l,zlJ p)→yG (uH l)=true
 |[],_=>rfl
 | p::r,h=>by
   have hp:=h p (List.mem_cons_self ..);have e:uH (p::r)=[59,32]++p.name++[61]++quoM p.value++uH r:=rfl;rw [e,xY,xY,xY,xY,ZX (yI hp.tk).2,ziZ hp.se,Q8 fun q hq=>h q (List.mem_cons_of_mem _ hq)];decide
theorem zfN {w:Str} (h:zeH w):yG w=true:=by
 rcases h with⟨h1,_⟩|⟨a,b,rfl,h1,h2,_⟩
 · exact ZX (yI h1).2
 · rw [xY,show yG (47::b)=(yG [47]&&yG b) from xY [47] b,ZX (yI h1).2,ZX (yI h2).2];decide
theorem zfU {w:Str} {l:List Fld} (h:(Xd w l).2=0):wO (Xd w l).1=(⟨w,l⟩,0):=by
 unfold Xd at h ⊢
 by_cases h1:zbM w=false
 · rw [if_pos h1] at h;exact absurd (show(5:Int)=0 from h) (by decide)
 rw [if_neg h1] at h ⊢
 by_cases h2:8<l.length
 · rw [if_pos h2] at h;exact absurd (show(8:Int)=0 from h) (by decide)
 rw [if_neg h2] at h ⊢
 have hw:=zkv (w:=w) (by simpa using h1)
 obtain⟨g1,g2⟩:=zbN l [] w h;rw [g1];unfold wO xu
 rw [if_neg (by rw [xY,zfN hw,Q8 g2];decide),(ziS hw _).1,zgY hw (zfY l)]
 unfold medB
 rw [zc9,zaA l [] w _ h (by simp;omega) (Nat.lt_succ_self _)]
 rfl
end Go.Proofs.YtjdbannldbgpeaaGreatDoor
namespace Go.Proofs.YtjdbannldbgpeaaGreatDoor
open Go Go.Sep Go.Ab
def hd0:Hd:=⟨[],[],0,[],0⟩
def prt0:Prt:=⟨[],[],[],[]⟩
def evB (b:Str):Evt:=⟨2,hd0,b,prt0,0⟩
def evE:Evt:=⟨3,hd0,[],prt0,0⟩
def evF (c:Int):Evt:=⟨4,hd0,[],prt0,c⟩
def wI (out:List Evt) (e:Evt):List Evt:=
 match out.getLast? with
 |some x=>if e.kind=2∧x.kind=2 then out.dropLast++[evB (x.bytes++e.bytes)] else out++[e]
 |none=>out++[e]
def zV (l:List Evt):List Evt:=l.foldl wI []
theorem yj (z:List Evt) (x e:Evt):wI (z++[x]) e=if e.kind=2∧x.kind=2 then z++[evB (x.bytes++e.bytes)] else z++[x]++[e]:=by
 unfold wI
 simp
theorem uo (e:Evt):wI [] e=[e]:=rfl
theorem zfj (X a:List Evt) (e:Evt):(wI X e).foldl wI a=wI (X.foldl wI a) e:=by
 rcases List.eq_nil_or_concat X with rfl|⟨Y,x,rfl⟩
 · rfl
 · rw [List.concat_eq_append,yj]
   split
   · rename_i h
     obtain⟨he,hx⟩:=h;simp only [List.foldl_append,List.foldl_cons,List.foldl_nil];generalize Y.foldl wI a=Z
     rcases List.eq_nil_or_concat Z with rfl|⟨W,z,rfl⟩
     · rw [uo,uo]
       have:=yj [] x e;simp only [List.nil_append] at this;rw [this,if_pos ⟨he,hx⟩]
     · rw [List.concat_eq_append,yj,yj]
       by_cases hz:z.kind=2
       · rw [if_pos ⟨rfl,hz⟩,if_pos ⟨hx,hz⟩,yj,if_pos ⟨he,rfl⟩]
         simp [evB]
       · rw [if_neg (fun h=>hz h.2),if_neg (fun h=>hz h.2),yj,if_pos ⟨he,hx⟩]
   · simp only [List.foldl_append,List.foldl_cons,List.foldl_nil]
theorem join_join (b a:List Evt):(zV b).foldl wI a=b.foldl wI a:=by
 unfold zV
 suffices ∀ (l c:List Evt),(l.foldl wI c).foldl wI a=l.foldl wI (c.foldl wI a) by simpa using this b []
 intro l
 induction l with
 |nil=>intro c;rfl
 |cons e r ih=>intro c;rw [List.foldl_cons,ih,zfj];rfl
theorem zaN (a b:List Evt):zV (a++zV b)=zV (a++b):=by
 unfold zV;rw [List.foldl_append,List.foldl_append];exact join_join b _
theorem TA (a b:List Evt):zV (zV a++b)=zV (a++b):=by
 have h:zV (zV a)=zV a:=zaN [] a;unfold zV at *;rw [List.foldl_append,List.foldl_append,h]
end Go.Proofs.YtjdbannldbgpeaaGreatDoor
namespace Go.Proofs.YtjdbannldbgpeaaGreatDoor
open Go Go.Sep Go.Ab
def ln0:Ln:=⟨[],false,0⟩
def zf9 (c:UInt8):Bool:=qc (c.toNat:Int)
def lnF (s:Ln) (c:UInt8):Ln × Str × Bool × Int:=
 if s.code≠0 then(s,[],false,s.code)
 else if s.cr then(if c=10 then(⟨[],false,0⟩,s.b,true,0) else(⟨s.b,s.cr,2⟩,[],false,2))
 else if c=10 then(⟨s.b,s.cr,2⟩,[],false,2)
 else if c=13 then(⟨s.b,true,s.code⟩,[],false,0)
 else if zf9 c=false then(⟨s.b,s.cr,3⟩,[],false,3)
 else if s.b.length=200 then(⟨s.b,s.cr,4⟩,[],false,4)
 else(⟨s.b++[c],s.cr,s.code⟩,[],false,0)
def lnB (s:Ln):Bool:=decide (0<s.b.length)||s.cr
def wE (pre:Str):Str→Str × Int × Bool × Int
 |[]=>([],0,false,0)
 | c ::r=>
   if c=13 then
    match r with
    |[]=>([],0,false,0)
    |d::_=>if d=10 then(pre,(pre.length:Int)+2,true,0) else([],(pre.length:Int)+2,false,2)
   else if c=10 then([],(pre.length:Int)+1,false,2)
   else if zf9 c=false then([],(pre.length:Int)+1,false,3)
   else if pre.length=200 then([],(pre.length:Int)+1,false,4)
   else wE (pre++[c]) r
def zdR (b:Str):Str × Int × Bool × Int:=wE [] b
inductive LnR where
 |more (s:Ln)
 |line (t rest:Str)
 |bad (e:Int) (rest:Str)
def ve (s:Ln):Str→LnR
 |[]=>.more s
 |c::r=>if(lnF s c).2.2.1=true then .line (lnF s c).2.1 r else if(lnF s c).2.2.2≠0 then .bad (lnF s c).2.2.2 r else ve (lnF s c).1 r
def LnIs (pre r:Str):LnR→Prop
 |.more s=>wE pre r=([],0,false,0)∧s.code=0∧(lnB s=true↔r≠[]∨pre≠[])
 |.line t rest=>∃ n:Nat,wE pre r=(t,((pre.length+n:Nat):Int),true,0)∧n≤r.length∧0<n∧rest=r.drop n
 |.bad e rest=>∃ n:Nat,wE pre r=([],((pre.length+n:Nat):Int),false,e)∧e≠0∧n≤r.length∧0<n∧rest=r.drop n
theorem zg3: ∀ (r pre:Str),LnIs pre r (ve ⟨pre,false,0⟩ r)
 |[],pre=>⟨rfl,rfl,by cases pre<;>simp [lnB]⟩
 | c :: r,pre=>by
   by_cases h10:c=10
   · subst h10
     have e:ve ⟨pre,false,0⟩ (10::r)=.bad 2 r:=by simp [ve,lnF]
     rw [e]
     exact⟨1,by simp [wE],by decide,by simp,by decide,rfl⟩
   by_cases h13:c=13
   · subst h13
     cases r with
     | nil=>
       have e:ve ⟨pre,false,0⟩ [13]=.more ⟨pre,true,0⟩:=by simp [ve,lnF]
       rw [e]
       exact⟨by simp [wE],rfl,by simp [lnB]⟩
     | cons d r=>
       by_cases hd:d=10
       · subst hd
         have e:ve ⟨pre,false,0⟩ (13::10::r)=.line pre r:=by simp [ve,lnF]
         rw [e]
         exact⟨2,by simp [wE],by simp,by decide,by simp⟩
       · have e:ve ⟨pre,false,0⟩ (13::d::r)=.bad 2 r:=by simp [ve,lnF,hd]
         rw [e]
         exact⟨2,by simp [wE,hd],by decide,by simp,by decide,by simp⟩
   by_cases hs:zf9 c=false
   · have e:ve ⟨pre,false,0⟩ (c::r)=.bad 3 r:=by simp [ve,lnF,h10,h13,hs]
     rw [e]
     exact⟨1,by simp [wE.eq_def,h10,h13,hs],by decide,by simp,by decide,rfl⟩
   by_cases hl:pre.length=200
   · have e:ve ⟨pre,false,0⟩ (c::r)=.bad 4 r:=by simp [ve,lnF,h10,h13,hs,hl]
     rw [e]
     exact⟨1,by rw [wE.eq_def];simp [h10,h13,hs,hl],by decide,by simp,by decide,rfl⟩
   have ih:=zg3 r (pre++[c])
   have e1:lnF ⟨pre,false,0⟩ c=(⟨pre++[c],false,0⟩,[],false,0):=by simp [lnF,h10,h13,hs,hl]
   have e2:wE pre (c::r)=wE (pre++[c]) r:=by rw [wE.eq_def];simp [h10,h13,hs,hl]
   have e3:ve ⟨pre,false,0⟩ (c::r)=ve ⟨pre++[c],false,0⟩ r:=by rw [ve,e1];simp
   rw [e3];generalize ve ⟨pre++[c],false,0⟩ r=x at ih
   cases x with
   | more s=>
     obtain⟨h1,h2,h3⟩:=ih
     exact⟨by rw [e2,h1],h2,by rw [h3];simp⟩
   | line t rest=>
     obtain⟨n,h1,h2,h3,h4⟩:=ih
     exact⟨n+1,by rw [e2,h1];simp;omega,by simp;omega,by omega,by rw [h4];simp⟩
   | bad e rest=>
     obtain⟨n,h1,h2,h3,h4,h5⟩:=ih
     exact⟨n+1,by rw [e2,h1];simp;omega,h2,by simp;omega,by omega,by rw [h5];simp⟩
theorem zg2 (r:Str):LnIs [] r (ve ln0 r):=zg3 r []
theorem Tv (t:Str): ∀ s pre:Str,yG s=true→pre.length+s.length≤200→wE pre (s++13::10::t)=(pre++s,((pre++s).length:Int)+2,true,0)
 |[],pre,_,_=>by simp [wE]
 | c ::s,pre,h,hl=>by
   have hc:zf9 c=true:=by unfold yG at h;rw [List.all_cons,jJ] at h;exact h.1
   have hs:yG s=true:=by unfold yG at h ⊢;rw [List.all_cons,jJ] at h;exact h.2
   have h13:c≠13:=fun e=>by subst e;revert hc;decide+kernel
   have h10:c≠10:=fun e=>by subst e;revert hc;decide+kernel
   rw [je] at hl
   have ih:=Tv t s (pre++[c]) hs (by rw [jg];simp;omega)
   have e2:wE pre (c::(s++13::10::t))=wE (pre++[c]) (s++13::10::t):=by
    rw [wE.eq_def];simp only [h13,h10,hc,if_false,Bool.true_eq_false]
    rw [if_neg (by omega)]
   rw [List.cons_append,e2,ih]
   simp
theorem zfh {s:Str} (t:Str) (h:yG s=true) (hl:s.length≤200):zdR (s++13::10::t)=(s,(s.length:Int)+2,true,0):=by
 unfold zdR
 rw [Tv t s [] h (by simpa using hl)]
 simp
theorem zg6 (s:Ln) (c:UInt8):(lnF s c).2.1.length≤s.b.length:=by
 unfold lnF
 repeat' split
 all_goals simp
theorem zmj (s:Ln) (c:UInt8):(lnF s c).1.b.length≤s.b.length+1:=by
 unfold lnF
 repeat' split
 all_goals simp
end Go.Proofs.YtjdbannldbgpeaaGreatDoor
namespace Go.Proofs.YtjdbannldbgpeaaGreatDoor
open Go Go.Sep Go.Ab
set_option maxRecDepth 100000
end Go.Proofs.YtjdbannldbgpeaaGreatDoor
namespace Go.Proofs.YtjdbannldbgpeaaGreatDoor
open Go Go.Sep Go.Ab
set_option maxRecDepth 100000
end Go.Proofs.YtjdbannldbgpeaaGreatDoor
namespace Go.Proofs.YtjdbannldbgpeaaGreatDoor
open Go Go.Sep Go.Ab
set_option maxRecDepth 100000
def valsF (l:List Fld) (n:Str):List Str:=(l.filter fun f=>decide (lowS f.name=lowS n)).map (·.value)
def Qw (I:Alg):KU
 |[.v (.one (.p (.list .fld l))),.v (.one (.p (.str n)))],[]=>(fun(l:List Fld) (n:Str)=>(some (.one ⟨I.hid (l.length≤1000∧n.length≤1000000∧∀ f ∈ l,f.name.length≤1000000∧f.value.length≤1000000),(.ret (.v (.one (.row 0)))),[.row .str 9 (I.hid (valsF l n))]⟩):Option CT)) l n
 |_,_=>none
theorem zhY:zO Tryz.prog 92 (Qw alg):=by
 intro args hp r h;unfold Qw at h;split at h<;>cases h
 rename_i l n
 revert l;intro(l:List Fld)
 simp only [CT.Good,zI];intro hneed
 refine spH Tryz.func92 (by kernel_rfl) { nr:=[5],keep:=some [0,1,4,5,7,8,9,10]} [xC,xB] (by kernel_rfl) ?_
 intro I X hI hX
 refine orcL ?_;go_invoke;refine orcS (by kernel_rfl) ?_
 simp only [zJ,Nat.reduceAdd]
 refine lpH hI [xC,xB] hX [0,1,5,8,9,10] (fun(g:Nat × List Str)=>match g with|(i,o)=>i≤l.length∧o=valsF (l.take i) n) (fun(g:Nat × List Str)=>match g with|(i,o)=>⟨[(0,.v (.one (.p (.list .fld l)))),(1,.v (.one (.p (.str n)))),(5,.v (.one (.row 0))),(8,.v (.one (.p (.list .fld l)))),(9,.v (.one (.p (.int .i64 ((I.len (α:=Fld) l)))))),(10,.v (.one (.p (.int .i64 i))))],[.row .str 9 o],27,none⟩) (fun(g:Nat × List Str)=>match g with|(i,o)=>l.length - i) (0,[]) (by kernel_rfl) (by kernel_rfl) ?_ ?_
 · exact⟨jL _,rfl⟩
 rintro⟨i,o⟩ ⟨h1,h2⟩ A hA;simp only at hA
 refine orcL ?_;go_invoke;refine orcS (by kernel_rfl) ?_
 simp only [zJ,Nat.reduceAdd];subst hI;simp only [nrmA,nrmB]
 have hx:i<l.length→(l.getD i ⟨[],[]⟩) ∈ l:=fun h=>by rw [show l.getD i ⟨[],[]⟩=l[i] by simp [h]];exact List.getElem_mem h
 have hs:i<l.length→valsF (l.take (i+1)) n=if lowS (l.getD i ⟨[],[]⟩).name=lowS n then o++[(l.getD i ⟨[],[]⟩).value] else o:=fun h=>by
  rw [show l.getD i ⟨[],[]⟩=l[i] by simp [h],jA h,h2]
  unfold valsF;rw [List.filter_append,List.map_append]
  by_cases hc:lowS l[i].name=lowS n<;>simp [hc]
 have hol:o.length≤i:=by
  rw [h2];unfold valsF;rw [List.length_map]
  exact Nat.le_trans (List.length_filter_le _ _) (by rw [jq];omega)
 have hn:=fun h=>hneed.2.2 _ (hx h);generalize l.getD i ⟨[],[]⟩=x at *;simp only [je,jf]
 (repeat' (first|refine ja ?_ ?_|intro _))<;>first|omega|exact jb|exact jc ‹False›|skip
 all_goals first
  |(have:=hn (by omega);omega)
  |exact hA (i+1,_) ⟨by simp only;omega,by simp only;rw [hs (by omega),if_pos (by assumption)]⟩ (by simp only;omega)
  |exact hA (i+1,_) ⟨by simp only;omega,by simp only;rw [hs (by omega),if_neg (by assumption)]⟩ (by simp only;omega)
  |(rw [h2,jl (by omega)])
def zlw:Know Tryz.prog:=⟨92,Qw,zhY⟩
def zlv:Know Tryz.prog:=⟨92,fun I=>zT I (Qw I),zi zhY⟩
end Go.Proofs.YtjdbannldbgpeaaGreatDoor
namespace Go.Proofs.YtjdbannldbgpeaaGreatDoor
open Go Go.Sep Go.Ab
set_option maxRecDepth 100000
def oneF (l:List Str):Str × Int:=if l.length=0 then([],10) else if l.length=1 then(l.getD 0 [],0) else([],9)
def Qr (I:Alg):KU
 |[.v (.one (.p (.list .fld l))),.v (.one (.p (.str n)))],[]=>(fun(l:List Fld) (n:Str)=>(some (.one ⟨I.hid (l.length≤1000∧n.length≤1000000∧∀ f ∈ l,f.name.length≤1000000∧f.value.length≤1000000),(.ret (.tup [.one (.p (.str (I.hid ((oneF (valsF l n)).1)))),.one (.p (.int .i64 (I.hid ((oneF (valsF l n)).2))))])),[]⟩):Option CT)) l n
 |_,_=>none
theorem zhT:zO Tryz.prog 80 (Qr alg):=by
 intro args hp r h;unfold Qr at h;split at h<;>cases h
 rename_i l n
 revert l;intro(l:List Fld)
 simp only [CT.Good,zI];intro hneed;generalize hr:oneF (valsF l n)=r;obtain⟨a,d⟩:=r
 refine spH Tryz.func80 (by kernel_rfl) { keep:=some [0,1,4,5,6,11]} [zlw,zlv] (by kernel_rfl) ?_
 intro I X hI hX
 refine orcL ?_;go_invoke;refine orcS (by kernel_rfl) ?_
 simp only [zJ,Nat.reduceAdd];subst hI;simp only [nrmA,nrmB];unfold oneF at hr
 (repeat' (first|refine ja ?_ ?_|intro _))<;>first|omega|exact jb|exact jc ‹False›|skip
 all_goals first
  |assumption
  |exact(hneed.2.2 _ (by assumption)).1
  |exact(hneed.2.2 _ (by assumption)).2
  |(rw [if_pos (by omega)] at hr;cases hr;rfl)
  |(rw [if_neg (by omega),if_pos (by omega)] at hr;cases hr;rfl)
  |(rw [if_neg (by omega),if_neg (by omega)] at hr;cases hr;rfl)
def zls:Know Tryz.prog:=⟨80,Qr,zhT⟩
def zlr:Know Tryz.prog:=⟨80,fun I=>zT I (Qr I),zi zhT⟩
end Go.Proofs.YtjdbannldbgpeaaGreatDoor
namespace Go.Proofs.YtjdbannldbgpeaaGreatDoor
open Go Go.Sep Go.Ab
set_option maxRecDepth 100000
def WZ (I:Alg):KU
 |[.v (.one (.p (.list .byte l)))],[]=>(fun(l:Str)=>(some (.one ⟨I.hid (l.length≤100000000),(.ret (.v (.one (.row 0)))),[.row .byte 5 l]⟩):Option CT)) l
 |_,_=>none
theorem zey:zO Tryz.prog 29 (WZ alg):=by
 intro args hp r h;unfold WZ at h;split at h<;>cases h
 rename_i l;simp only [CT.Good,zI];intro hneed
 refine spH Tryz.func29 (by kernel_rfl) { keep:=some [0,2]} [] (by kernel_rfl) ?_
 intro I X hI hX
 refine orcL ?_;go_invoke;refine orcS (by kernel_rfl) ?_
 simp only [zJ,Nat.reduceAdd];subst hI;dsimp only [alg]
 have h2:((([]:Str).length:Nat):Int)+((l.length:Nat):Int)≤140737488355328:=by simp;omega
 refine⟨fun h=>⟨⟨trivial,?_⟩,h2,trivial,rfl⟩,fun h=>⟨h2,trivial,rfl⟩⟩
 have:l=[]:=List.eq_nil_of_length_eq_zero (by have:=eq_of_beq h;omega)
 subst this;rfl
def QF:Know Tryz.prog:=⟨29,WZ,zey⟩
def WY:Know Tryz.prog:=⟨29,fun I=>zT I (WZ I),zi zey⟩
def uI (I:Alg):KU
 |[.v (.one (.p (.list .byte x))),.v (.one (.p (.list .byte y)))],[]=>(fun(x y:Str)=>(some (.one ⟨I.hid (True),(.ret (.v (.one (.p (.bool (I.hid (x == y))))))),[]⟩):Option CT)) x y
 |_,_=>none
theorem XG:zO Tryz.prog 28 (uI alg):=by
 intro args hp r h;unfold uI at h;split at h<;>cases h
 rename_i x y;simp only [CT.Good,zI];intro _
 refine spH Tryz.func28 (by kernel_rfl) { keep:=some [0,1,4]} [] (by kernel_rfl) ?_
 intro I X hI hX
 refine orcL ?_;go_invoke;refine orcS (by kernel_rfl) ?_
 simp only [zJ,Nat.reduceAdd];subst hI;exact⟨rfl,trivial⟩
def qp:Know Tryz.prog:=⟨28,uI,XG⟩
def qo:Know Tryz.prog:=⟨28,fun I=>zT I (uI I),zi XG⟩
end Go.Proofs.YtjdbannldbgpeaaGreatDoor
namespace Go.Sep.P
theorem rU {a b s:List UInt8} (ha:a<:+s) (hb:b<:+s) (h:a.length≤b.length):a<:+b:=List.suffix_of_suffix_length_le ha hb h
structure Top (m s:List UInt8) (b n:Nat):Prop where
 le:n≤b
 suf:m.take n<:+s
 top: ∀ k,k≤b→m.take k<:+s→k≤n
theorem Top.eq {m s:List UInt8} {b n n':Nat} (h:Top m s b n) (h':Top m s b n'):n=n':=
 Nat.le_antisymm (h'.top n h.le h.suf) (h.top n' h'.le h'.suf)
def wP (m s:List UInt8):Nat→Nat
 |0=>0
 |k+1=>if m.take (k+1)<:+s then k+1 else wP m s k
theorem xQ (m s:List UInt8): ∀ b,Top m s b (wP m s b)
 |0=>⟨jK _,by simp [wP],fun k hk _=>hk⟩
 | b + 1=>by
   unfold wP
   split
   · rename_i h;exact⟨jK _,h,fun k hk _=>hk⟩
   · rename_i h
     have ih:=xQ m s b;refine⟨Nat.le_succ_of_le ih.le,ih.suf,fun k hk hs=> ?_⟩
     rcases Nat.lt_or_ge k (b+1) with h1|h1
     · exact ih.top k (by omega) hs
     · have:k=b+1:=by omega
       subst this;exact(h hs).elim
def held (m s:List UInt8):Nat:=wP m s (m.length - 1)
def yB (m:List UInt8) (i:Nat):Nat:=wP m (m.take i) (i - 1)
theorem uF {m:List UInt8} {i:Nat} (h:0<i):yB m i<i:=by
 have:=(xQ m (m.take i) (i - 1)).le;unfold yB;omega
def fall (m:List UInt8) (c:UInt8):Nat→Nat→Nat
 |0,n=>n
 |f+1,n=>if n=0 then 0 else if m[n]? =some c then n else fall m c f (yB m n)
theorem YR (m:List UInt8) (c:UInt8) (f:Nat):fall m c f 0=0:=by cases f<;>simp [fall]
theorem zbw (m:List UInt8) (c:UInt8): ∀ (f n:Nat),n≤f→∀ g,n≤g→fall m c f n=fall m c g n
 | 0,n,h,g,_=>by
   have:n=0:=by omega
   subst this;rw [YR,YR]
 | f + 1,n,h,g,hg=>by
   cases g with
   | zero=>
     have:n=0:=by omega
     subst this;rw [YR,YR]
   | succ g=>
     simp only [fall]
     split
     · rfl
     · split
       · rfl
       · rename_i h0 _
         have hb:=uF (m:=m) (i:=n) (by omega)
         exact zbw m c f _ (by omega) g (by omega)
structure zmJ (m:List UInt8) (c:UInt8) (n j:Nat):Prop where
 le:j≤n
 suf:m.take j<:+m.take n
 top: ∀ k,k≤n→m.take k<:+m.take n→m[k]? =some c→k≤j
 fits:j=0∨m[j]? =some c
theorem Qo (m:List UInt8) (c:UInt8) (hm: ∀ k,k≤m.length→(m.take k).length=k): ∀ (f n:Nat),n≤f→n≤m.length→zmJ m c n (fall m c f n)
 | 0,n,h,hn=>by
   have:n=0:=by omega
   subst this;exact⟨jK _,List.suffix_refl _,fun k hk _ _=>hk,.inl rfl⟩
 | f + 1,n,h,hn=>by
   simp only [fall]
   split
   · rename_i h0;subst h0;exact⟨jK _,List.suffix_refl _,fun k hk _ _=>hk,.inl rfl⟩
   · split
     · rename_i h0 h1;exact⟨jK _,List.suffix_refl _,fun k hk _ _=>hk,.inr h1⟩
     · rename_i h0 h1
       have hb:=uF (m:=m) (i:=n) (by omega)
       have ht:Top m (m.take n) (n - 1) (yB m n):=xQ m (m.take n) (n - 1)
       have ih:=Qo m c hm f (yB m n) (by omega) (by omega)
       refine⟨by have:=ih.le;omega,ih.suf.trans ht.suf,fun k hk hs hc=> ?_,ih.fits⟩
       have hne:k≠n:=by rintro rfl;exact h1 hc
       have hkb:k≤yB m n:=ht.top k (by omega) hs
       refine ih.top k hkb (rU hs ht.suf ?_) hc
       rw [hm k (by omega),hm _ (by omega)]
       exact hkb
theorem take_len {m:List UInt8}: ∀ k,k≤m.length→(m.take k).length=k:=fun k hk=>by simp;omega
theorem rQ {m s:List UInt8} {k:Nat} {c:UInt8} (hk:k<m.length):m.take (k+1)<:+s++[c]↔m.take k<:+s∧m[k]? =some c:=by
 rw [jA hk,ji hk];constructor
 · rintro⟨t,ht⟩
   rw [← jk] at ht;have:=List.append_inj' ht rfl
   exact⟨⟨t,this.1⟩,by simpa using this.2⟩
 · rintro⟨⟨t,ht⟩,hc⟩
   have hc':m[k]=c:=by simpa using hc
   exact⟨t,by rw [← jk,ht,hc']⟩
theorem Top.step {m s:List UInt8} {b n:Nat} {c:UInt8} (h:Top m s b n) (hb:b<m.length):
  (m[fall m c n n]? =some c→Top m (s++[c]) (b+1) (fall m c n n+1))∧(m[fall m c n n]? ≠some c→Top m (s++[c]) (b+1) 0∧fall m c n n=0):=by
 have hn:n≤m.length:=by have:=h.le;omega
 have hf:=Qo m c take_len n n (jK _) hn;generalize fall m c n n=j at hf
 have hjl:j<m.length:=by have:=hf.le;have:=h.le;omega
 have key: ∀ k,k+1≤b+1→m.take (k+1)<:+s++[c]→k≤j∧m[k]? =some c:=by
  intro k hk hs
  obtain⟨h1,h2⟩:=(rQ (by omega)).1 hs
  have h3:=h.top k (by omega) h1
  have h4:m.take k<:+m.take n:=rU h1 h.suf (by rw [take_len k (by omega),take_len n hn];exact h3)
  exact⟨hf.top k h3 h4 h2,h2⟩
 constructor
 · intro hc
   refine⟨by have:=hf.le;have:=h.le;omega,(rQ hjl).2 ⟨hf.suf.trans h.suf,hc⟩,fun k hk hs=> ?_⟩
   cases k with
   |zero=>omega
   |succ k=>have:=(key k hk hs).1;omega
 · intro hc
   have hj0:j=0:=hf.fits.resolve_right hc;subst hj0
   refine⟨⟨jL _,by simp,fun k hk hs=> ?_⟩,rfl⟩
   cases k with
   |zero=>omega
   | succ k=>
     obtain⟨h1,h2⟩:=key k hk hs
     have:k=0:=by omega
     subst this;exact(hc h2).elim
theorem Top.lower {m s:List UInt8} {b b' n:Nat} (h:Top m s b n) (hn:n≤b') (hb:b'≤b):Top m s b' n:=⟨hn,h.suf,fun k hk hs=>h.top k (by omega) hs⟩
theorem uS (m s:List UInt8):Top m s (m.length - 1) (held m s):=xQ m s _
theorem zcJ {m:List UInt8} {i:Nat} (hi:i<m.length) (h0:0<i):
  yB m (i+1)=(if m[fall m m[i] (yB m i) (yB m i)]? =some m[i] then fall m m[i] (yB m i) (yB m i)+1 else 0):=by
 have ht:=xQ m (m.take i) (i - 1)
 have hs:=ht.step (c:=m[i]) (by omega)
 have e:m.take i++[m[i]]=m.take (i+1):=(jA hi).symm
 rw [e,show i - 1+1=i by omega] at hs
 have hnew:=xQ m (m.take (i+1)) (i+1 - 1)
 change Top m (m.take (i+1)) i (yB m (i+1)) at hnew
 change(m[fall m m[i] (yB m i) (yB m i)]? =some m[i]→_)∧_ at hs
 split
 · rename_i hc;exact hnew.eq (hs.1 hc)
 · rename_i hc;exact hnew.eq (hs.2 hc).1
theorem zhS {m:List UInt8} {n k j:Nat} (hj:0<j) (hk:k+j=n) (hn:n≤m.length) (h:m.take k++m.take j=m.take n):
  m.take k++m.take (j - yB m j)=m.take (k+(j - yB m j))∧m.take (k+(j - yB m j))++m.take (yB m j)=m.take n:=by
 have hb:=uF (m:=m) hj;have ht:Top m (m.take j) (j - 1) (yB m j):=xQ m (m.take j) (j - 1);generalize yB m j=b at hb ht;obtain⟨t,e⟩:=ht.suf;have hl:=congrArg List.length e
 rw [jg,take_len b (by omega),take_len j (by omega)] at hl
 have e2:t=m.take (j - b):=by
  have h1:(m.take j).take t.length=t:=by rw [← e];simp
  rw [List.take_take,show min t.length j=j - b by omega] at h1
  exact h1.symm
 subst e2
 have e3:m.take n=(m.take k++m.take (j - b))++m.take b:=by rw [jk,e,h]
 have e4:m.take (k+(j - b))=m.take k++m.take (j - b):=by
  have h1:(m.take n).take (k+(j - b))=m.take (k+(j - b)):=by rw [List.take_take,show min (k+(j - b)) n=k+(j - b) by omega]
  rw [← h1,e3]
  exact List.take_left' (by rw [jg,take_len k (by omega),take_len _ (by omega)])
 exact⟨e4.symm,by rw [e4,e3]⟩
theorem zbv {m:List UInt8} {c:UInt8} {j:Nat} (h0:0<j) (h:m[j]? ≠some c):fall m c j j=fall m c (yB m j) (yB m j):=by
 have hb:=uF (m:=m) h0
 cases j with
 |zero=>omega
 | succ i=>
   rw [fall,if_neg (by omega),if_neg h]
   exact zbw m c _ _ (by omega) _ (jK _)
theorem qG {m:List UInt8} {c:UInt8} {j:Nat} (h:j=0∨m[j]? =some c):fall m c j j=j:=by
 cases j with
 |zero=>rfl
 |succ i=>rw [fall,if_neg (by omega),if_pos (h.resolve_left (by omega))]
theorem zjs (m:List UInt8):held m []=0:=by
 have h: ∀ k,k≤m.length→wP m [] k=0:=by
  intro k
  induction k with
  |zero=>intro _;rfl
  | succ k ih=>
    intro hk
    rw [wP,if_neg,ih (by omega)]
    intro hs;have:=hs.length_le;rw [jq,jf] at this;omega
 exact h _ (by omega)
def feed (m:List UInt8) (n:Nat) (c:UInt8):List UInt8 × Nat × Bool:=
 let j:=fall m c n n
 let out:=m.take (n - j)
 if m[j]? =some c then(if j+1<m.length then(out,j+1,false) else(out,0,true)) else(out++[c],0,false)
theorem zbs {m s:List UInt8} (hm:0<m.length) (c:UInt8) {n:Nat} (ht:Top m s (m.length - 1) n):
  ((feed m n c).2.2=true↔m<:+s++[c])∧((feed m n c).2.2=false→Top m (s++[c]) (m.length - 1) (feed m n c).2.1)∧((feed m n c).2.2=true→(feed m n c).2.1=0∧n+1=m.length)∧
    (feed m n c).1++(if(feed m n c).2.2 then m else m.take (feed m n c).2.1)=m.take n++[c]∧(feed m n c).1.length≤n+1:=by
 generalize hr:feed m n c=r;have hn:n≤m.length - 1:=ht.le
 have hs:=ht.step (c:=c) (by omega)
 have hf:=Qo m c take_len n n (jK _) (by omega)
 rw [show m.length - 1+1=m.length by omega] at hs
 have hsplit:m.take (n - fall m c n n)++m.take (fall m c n n)=m.take n:=by
  obtain⟨t,ht'⟩:=hf.suf;have hl:=congrArg List.length ht'
  rw [jg,take_len _ (by have:=hf.le;omega),take_len n (by omega)] at hl
  have h1:(m.take n).take t.length=t:=by rw [← ht'];simp
  rw [List.take_take,show min t.length n=n - fall m c n n by omega] at h1
  rw [h1];exact ht'
 by_cases hc:m[fall m c n n]? =some c
 · have hjl:fall m c n n<m.length:=by
    have:=hf.le;omega
   have htop:=hs.1 hc
   have hcc:m.take (fall m c n n)++[c]=m.take (fall m c n n+1):=by
    rw [jA hjl];rw [ji hjl] at hc
    simp at hc;rw [hc]
   by_cases hlt:fall m c n n+1<m.length
   · have e:r=(m.take (n - fall m c n n),fall m c n n+1,false):=by simp only [← hr,feed,hc,hlt,if_true]
     rw [e]
     refine⟨⟨by simp,fun hsuf=> ?_⟩,fun _=> ?_,by simp,?_⟩
     · have:=htop.top m.length (jK _) (by rw [List.take_length];exact hsuf)
       omega
     · exact htop.lower (by omega) (by omega)
     · simp only [jd,if_false]
       rw [← hcc,← jk,hsplit]
       exact⟨rfl,by simp;omega⟩
   · have hj:fall m c n n+1=m.length:=by omega
     have e:r=(m.take (n - fall m c n n),0,true):=by simp only [← hr,feed,hc,hlt,if_true,if_false]
     rw [e]
     have hml:m.take (fall m c n n+1)=m:=by rw [hj,List.take_length]
     have hjn:fall m c n n=n:=by
      have:=hf.le;omega
     refine⟨⟨fun _=> ?_,by simp⟩,by simp,fun _=>⟨rfl,by omega⟩,?_⟩
     · have:=htop.suf;rw [hml] at this;exact this
     · simp only [if_true]
       refine⟨?_,by simp;omega⟩
       rw [← hsplit,jk,hcc.trans hml]
 · obtain⟨htop,hj0⟩:=hs.2 hc
   have e:r=(m.take n++[c],0,false):=by simp only [← hr,feed,hc,if_false];rw [hj0,Nat.sub_zero]
   rw [e]
   refine⟨⟨by simp,fun hsuf=> ?_⟩,fun _=> ?_,by simp,by simp,by simp;omega⟩
   · have:=htop.top m.length (jK _) (by rw [List.take_length];exact hsuf)
     omega
   · exact htop.lower (jL _) (by omega)
end Go.Sep.P
namespace Go.Proofs.YtjdbannldbgpeaaGreatDoor
open Go Go.Sep Go.Ab
set_option maxRecDepth 100000
set_option linter.unusedSimpArgs false
set_option linter.unusedVariables false
def cfgS:Cfg:= { sl:=[⟨77,0,.byte,some 5⟩,⟨77,1,.int,some 3⟩],nr:=[6]}
def ZQ (m:Str):List Int:=(List.range (m.length+1)).map fun i=>((P.yB m i:Nat):Int)
theorem zio (m:Str) (i:Int) (h0:0≤i) (h:i≤m.length):(ZQ m).getD i.toNat 0=(P.yB m i.toNat:Nat):=by
 unfold ZQ
 rw [jG,List.getElem?_map,List.getElem?_range (by omega)];rfl
theorem zin (m:Str):(ZQ m).length=m.length+1:=by simp [ZQ]
def x9 (m:Str) (n:Nat) (c:UInt8):Str × Nat × Bool:=if m=[] then([c],n,false) else P.feed m n c
def Qn (I:Alg):KU
 |[.v (.one (.ptr 0 0)),.v (.one (.p (.int .u8 k)))],[.pack [.obj 77 [.row 1,.row 2,.p (.int .i64 n)],.row .byte 5 m,.row .int 3 bs]]=>(fun(m:Str) (bs:List Int)=>(some (.one ⟨I.hid (bs=ZQ m∧m.length≤1000000∧0≤n∧(m=[]∨n<m.length)∧0≤k∧k≤255),(.ret (.tup [.one (.row 1),.one (.p (.bool (I.hid ((x9 m n.toNat (UInt8.ofNat k.toNat)).2.2))))])),[.pack [.obj 77 [.row 1,.row 2,.p (.int .i64 (I.hid ((x9 m n.toNat (UInt8.ofNat k.toNat)).2.1:Int)))],.row .byte 5 m,.row .int 3 bs],.row .byte 5 (I.hid ((x9 m n.toNat (UInt8.ofNat k.toNat)).1))]⟩):Option CT)) m bs
 |_,_=>none
theorem zhO:zO Tryz.prog 19 (Qn alg):=by
 intro args hp r h;unfold Qn at h;split at h<;>cases h
 rename_i k n m bs
 revert bs;intro(bs:List Int)
 simp only [CT.Good,zI];intro hneed;obtain⟨hbs,hl,hn0,hn,hk0,hk1⟩:=hneed;generalize hr:x9 m n.toNat (UInt8.ofNat k.toNat)=r;obtain⟨out,n',fd⟩:=r
 refine spH Tryz.func19 (by kernel_rfl) { cfgS with keep:=some [0,1,4,5,6,7]} [] (by kernel_rfl) ?_
 intro I X hI hX
 refine orcL ?_;go_invoke;refine orcS (by kernel_rfl) ?_
 simp only [zJ,Nat.reduceAdd];refine⟨fun h=> ?_,fun h=> ?_⟩
 · subst hI
   simp only [nrmA,nrmB] at h
   have:m=[]:=List.eq_nil_of_length_eq_zero (by omega)
   subst this;simp only [x9,if_true,Prod.mk.injEq] at hr;obtain⟨rfl,rfl,rfl⟩:=hr;simp only [nrmA,nrmB];refine⟨⟨hk0,hk1⟩,?_⟩;rw [Int.toNat_of_nonneg hn0]
 have hm:m≠[]:=by
  subst hI;simp only [nrmA,nrmB] at h;rintro rfl;simp at h
 have hm0:0<m.length:=by cases m<;>simp_all
 have hn:n<m.length:=hn.resolve_left hm;simp only [x9,if_neg hm] at hr
 refine lpH hI [WY] hX [0,1,6] (fun(p:Nat × Str)=>p.1≤n.toNat∧p.2.length+p.1=n.toNat∧P.fall m (UInt8.ofNat k.toNat) p.1 p.1=P.fall m (UInt8.ofNat k.toNat) n.toNat n.toNat∧p.2++m.take p.1=m.take n.toNat∧p.2=m.take p.2.length)
  (fun p=>⟨[(0,.v (.one (.ptr 0 0))),(1,.v (.one (.p (.int .u8 k)))),(6,.v (.one (.row 1)))],[.pack [.obj 77 [.row 1,.row 2,.p (.int .i64 p.1)],.row .byte 5 m,.row .int 3 bs],.row .byte 5 p.2],100,none⟩) (fun p=>p.1) (n.toNat,[])
  (by kernel_rfl) ?_ ⟨jK _,by simp,rfl,by simp,by simp⟩ ?_
 · simp only [Int.toNat_of_nonneg hn0];kernel_rfl
 rintro⟨j,o⟩ ⟨hjn,hoj,hfall,hcat,hpre⟩ A hA;simp only at hjn hoj hfall hcat hpre
 refine orcL ?_;go_invoke;refine orcS (by kernel_rfl) ?_
 simp only [zJ,Nat.reduceAdd];subst hI hbs;simp only [nrmA,nrmB]
 have hb:=zio m j (by omega) (by omega)
 simp only [jI] at hb;have hbl:0<j→P.yB m j<j:=P.uF
 have hj:j<m.length:=by omega
 have hge:m.getD j 0=m[j]:=by simp [hj]
 rw [hb,zin,hge]
 have hcc:(m[j].toNat:Int)=k↔m[j]? =some (UInt8.ofNat k.toNat):=by
  rw [ji hj,jr,← UInt8.toNat_inj,UInt8.toNat_ofNat'];omega
 simp only [hcc];have hfeed:=hr;simp only [P.feed] at hfeed;rw [← hfall] at hfeed
 refine⟨fun h0=>⟨by omega,by omega,fun hne=>⟨by omega,by omega,by omega,by omega,by simp only [jq];omega,?_⟩,fun heq=>⟨by omega,by omega,fun hne=>(hne heq).elim,fun _=>⟨by omega,fun hlt=> ?_,fun hlt=> ?_⟩⟩⟩,fun h0=>⟨by omega,by omega,fun hne=> ?_,fun heq=>⟨by omega,fun hlt=> ?_,fun hlt=> ?_⟩⟩⟩
 · obtain⟨h1,h2⟩:=P.zhS (m:=m) (n:=n.toNat) (k:=o.length) (j:=j) (by omega) (by omega) (by omega) (by rw [← hpre];exact hcat)
   have hx:(↑j - ↑(P.yB m j):Int).toNat=j - P.yB m j:=by omega
   have hbj:=hbl (by omega)
   rw [hx]
   refine hA (P.yB m j,o++m.take (j - P.yB m j)) ⟨by simp only;omega,?_,?_,?_,?_⟩ hbj
   · simp only [jg,jq];omega
   · rw [← hfall];exact(P.zbv (by omega) hne).symm
   · simp only;rw [← h2,← h1,← hpre]
   · have:(o++m.take (j - P.yB m j)).length=o.length+(j - P.yB m j):=by simp only [jg,jq];omega
     simp only;rw [this,← h1,← hpre]
 · have hstop:=P.qG (c:=UInt8.ofNat k.toNat) (.inr heq)
   rw [hstop,if_pos heq,if_pos (by omega)] at hfeed
   simp only [Prod.mk.injEq] at hfeed;obtain⟨rfl,rfl,rfl⟩:=hfeed
   rw [show n.toNat - j=o.length by omega,← hpre]
   exact⟨rfl,rfl⟩
 · have hstop:=P.qG (c:=UInt8.ofNat k.toNat) (.inr heq)
   rw [hstop,if_pos heq,if_neg (by omega)] at hfeed
   simp only [Prod.mk.injEq] at hfeed;obtain⟨rfl,rfl,rfl⟩:=hfeed
   rw [show n.toNat - j=o.length by omega,← hpre]
   exact⟨rfl,rfl⟩
 all_goals
  have hj0:j=0:=by omega
  subst hj0;have hstop:=P.qG (m:=m) (c:=UInt8.ofNat k.toNat) (j:=0) (.inl rfl);rw [hstop] at hfeed
  rw [show n.toNat=o.length by omega,Nat.sub_zero,← hpre] at hfeed
 · rw [if_neg hne] at hfeed
   simp only [Prod.mk.injEq] at hfeed;obtain⟨rfl,rfl,rfl⟩:=hfeed
   exact⟨⟨hk0,hk1⟩,by simp only [je,jf];omega,rfl,rfl⟩
 · rw [if_pos heq,if_pos (by omega)] at hfeed
   simp only [Prod.mk.injEq] at hfeed;obtain⟨rfl,rfl,rfl⟩:=hfeed;exact⟨rfl,rfl⟩
 · rw [if_pos heq,if_neg (by omega)] at hfeed
   simp only [Prod.mk.injEq] at hfeed;obtain⟨rfl,rfl,rfl⟩:=hfeed;exact⟨rfl,rfl⟩
def Xx:Know Tryz.prog:=⟨19,Qn,zhO⟩
def Xw:Know Tryz.prog:=⟨19,fun I=>zT I (Qn I),zi zhO⟩
def xK (m:Str) (i:Nat):List Int:=(List.range (m.length+1)).map fun q=>if q<i then((P.yB m q:Nat):Int) else 0
theorem zcI (m:Str) (i:Nat) (h:m.length<i):xK m i=ZQ m:=by
 unfold xK ZQ;refine List.map_congr_left fun q hq=> ?_
 rw [if_pos (by have:=List.mem_range.1 hq;omega)]
theorem zcE (m:Str):xK m 2=List.replicate (m.length+1) 0:=by
 unfold xK
 refine List.ext_getElem (by simp) fun q h1 h2=> ?_
 simp only [List.getElem_map,List.getElem_range,List.getElem_replicate]
 split
 · have:q=0∨q=1:=by omega
   rcases this with rfl|rfl
   · simp [P.yB,P.wP]
   · simp [P.yB,P.wP]
 · rfl
theorem zcG (m:Str) (i:Nat):(xK m i).length=m.length+1:=by simp [xK]
theorem zcH (m:Str) (i q:Nat) (h:q<i) (hm:q≤m.length):(xK m i).getD q 0=(P.yB m q:Nat):=by
 unfold xK
 rw [jG,List.getElem?_map,List.getElem?_range (by omega)]
 simp [h]
theorem zcF (m:Str) (i:Nat):(xK m i).set i ((P.yB m i:Nat):Int)=xK m (i+1):=by
 unfold xK
 refine List.ext_getElem (by simp) fun q h1 h2=> ?_
 simp only [List.getElem_set,List.getElem_map,List.getElem_range]
 by_cases h:i=q
 · subst h;simp
 · rw [if_neg h]
   by_cases hq:q<i
   · rw [if_pos hq,if_pos (by omega)]
   · rw [if_neg hq,if_neg (by omega)]
def zdG (I:Alg):KU
 |[.v (.one (.p (.list .byte m)))],[]=>(fun(m:Str)=>(some (.one ⟨I.hid (m.length≤999999),(.ret (.v (.one (.ptr 0 0)))),[.pack [.obj 77 [.row 1,.row 2,.p (.int .i64 0)],.row .byte 5 m,.row .int 3 (I.hid (ZQ m))]]⟩):Option CT)) m
 |_,_=>none
theorem zka:zO Tryz.prog 18 (zdG alg):=by
 intro args hp r h;unfold zdG at h;split at h<;>cases h
 rename_i m;simp only [CT.Good,zI];intro hneed
 refine spH Tryz.func18 (by kernel_rfl) { cfgS with seam:=[2],keep:=some [0,2,3,4,5]} [QF,WY] (by kernel_rfl) ?_
 intro I X hI hX
 refine orcL ?_;go_invoke;refine orcS (by kernel_rfl) ?_
 simp only [zJ,Nat.reduceAdd]
 refine⟨?n1,⟨?n2,?n3,?n4,?n5,seam hI Z7 mixed [] hX [0,3] ⟨[(0,.v (.one (.p (.list .byte m)))),(3,.v (.one (.ptr 0 0)))],[.pack [.obj 77 [.row 1,.row 2,.p (.int .i64 0)],.row .byte 5 m,.row .int 3 ((I.rep (α:=Int) (I.add (I.len (α:=UInt8) m) 1) (0:Int)))]],60,none⟩ (by kernel_rfl) ?on⟩,?n3,?n4,?n5,?n2,seam hI Z7 mixed [] hX [0,3] _ (by kernel_rfl) ?on⟩
 case on=>
  have hrep:(I.rep (α:=Int) (I.add (I.len (α:=UInt8) m) 1) (0:Int))=xK m 2:=by
   subst hI;simp only [nrmA,nrmB];rw [zcE];rfl
  rw [hrep];generalize hb2:xK m 2=b2
  refine orcL ?_;go_invoke;refine orcS (by kernel_rfl) ?_
  simp only [zJ,Nat.reduceAdd]
  refine lpH hI [QF,WY] hX [0,3,5,4] (fun(g:Nat × Nat × List Int)=>match g with|(i,k,bs)=>1≤i∧(i≤m.length∨i=1)∧k=P.yB m i∧bs=xK m (i+1)) (fun(g:Nat × Nat × List Int)=>match g with|(i,k,bs)=>⟨[(0,.v (.one (.p (.list .byte m)))),(3,.v (.one (.ptr 0 0))),(5,.v (.one (.p (.int .i64 i)))),(4,.v (.one (.p (.int .i64 k))))],[.pack [.obj 77 [.row 1,.row 2,.p (.int .i64 0)],.row .byte 5 m,.row .int 3 bs]],60,none⟩) (fun(g:Nat × Nat × List Int)=>match g with|(i,k,bs)=>m.length - i) (1,0,b2) (by kernel_rfl) (by kernel_rfl) ?_ ?_
  · exact⟨jK _,.inr rfl,by simp [P.yB,P.wP],hb2.symm⟩
  rintro⟨i,k,bs⟩ ⟨hi,him,rfl,hbs⟩ A hA;simp only at hA;generalize hk:P.yB m i=k at hA
  refine orcL ?_;go_invoke;refine orcS (by kernel_rfl) ?_
  simp only [zJ,Nat.reduceAdd];refine⟨fun hlt=> ?_,fun hlt=> ?_⟩
  · refine lpH hI [QF,WY] hX [0,3,5,4] (fun(q:Nat)=>q≤k∧P.fall m (m.getD i 0) q q=P.fall m (m.getD i 0) k k) (fun(q:Nat)=>⟨[(0,.v (.one (.p (.list .byte m)))),(3,.v (.one (.ptr 0 0))),(5,.v (.one (.p (.int .i64 i)))),(4,.v (.one (.p (.int .i64 q))))],[.pack [.obj 77 [.row 1,.row 2,.p (.int .i64 0)],.row .byte 5 m,.row .int 3 bs]],60,none⟩) (fun(q:Nat)=>q) k (by kernel_rfl) (by kernel_rfl) ?_ ?_
    · exact⟨jK _,rfl⟩
    rintro q ⟨hq,hfall⟩ B hB
    refine orcL ?_;go_invoke;refine orcS (by kernel_rfl) ?_
    simp only [zJ,Nat.reduceAdd];subst hI hbs;simp only [nrmA,nrmB] at hlt
    have hil:i<m.length:=by omega
    have hkl:k<i:=by rw [← hk];exact P.uF (by omega)
    have hql:q<m.length:=by omega
    have hst:=P.zcJ hil (by omega)
    have hgi:m.getD i 0=m[i]:=by simp [hil]
    have hgq:m.getD q 0=m[q]:=by simp [hql]
    have hg0:=zcH m (i+1) q (by omega) (by omega)
    have hbl:0<q→P.yB m q<q:=P.uF;rw [hk] at hst;rw [hgi] at hfall;rw [← hfall] at hst;simp only [nrmA,nrmB]
    rw [hgi,hgq,zcG,hg0,show((i:Int)+1).toNat=i+1 by omega]
    have hset:=zcF m (i+1)
    have hcc:m[i]=m[q]↔m[q]? =some m[i]:=by rw [ji hql];simp [eq_comm]
    have hA1:(q=0∨m[i]=m[q])→m[i]=m[q]→A ⟨[(0,.v (.one (.p (.list .byte m)))),(3,.v (.one (.ptr 0 0))),(5,.v (.one (.p (.int .i64 ((i:Int)+1))))),(4,.v (.one (.p (.int .i64 ((q:Int)+1)))))],[.pack [.obj 77 [.row 1,.row 2,.p (.int .i64 0)],.row .byte 5 m,.row .int 3 (((xK m (i+1)).set (i+1) ((q:Int)+1)))]],60,none⟩:=by
     intro h1 h2
     rw [P.qG (by rw [← hcc];exact h1),if_pos (hcc.1 h2)] at hst
     have:=hA (i+1,q+1,xK m (i+2)) ⟨by omega,by omega,hst.symm,rfl⟩ (by simp only;omega)
     rw [hst] at hset;rw [← hset] at this;exact this
    have hA2:(q=0∨m[i]=m[q])→¬m[i]=m[q]→A ⟨[(0,.v (.one (.p (.list .byte m)))),(3,.v (.one (.ptr 0 0))),(5,.v (.one (.p (.int .i64 ((i:Int)+1))))),(4,.v (.one (.p (.int .i64 q))))],[.pack [.obj 77 [.row 1,.row 2,.p (.int .i64 0)],.row .byte 5 m,.row .int 3 (((xK m (i+1)).set (i+1) (q:Int)))]],60,none⟩:=by
     intro h1 h2;obtain rfl:q=0:=h1.resolve_right h2;rw [P.qG (.inl rfl),if_neg (fun h=>h2 (hcc.2 h))] at hst
     have:=hA (i+1,0,xK m (i+2)) ⟨by omega,by omega,hst.symm,rfl⟩ (by simp only;omega)
     rw [hst] at hset;rw [← hset] at this;exact this
    (repeat' (first|refine ja ?_ ?_|intro _))<;>first|omega|exact jb|exact jc ‹False›|skip
    · refine hB (P.yB m q) ⟨by have:=hbl (by omega);omega,?_⟩ (hbl (by omega))
      rw [hgi,← P.zbv (by omega) (fun h=>‹¬m[i]=m[q]› (hcc.2 h)),hfall]
    · exact hA1 (.inr ‹_›) ‹_›
    · exact hA2 (.inr ‹_›) ‹_›
    · exact hA1 (.inl (by omega)) ‹_›
    · exact hA2 (.inl (by omega)) ‹_›
  · subst hI hbs
    simp only [nrmA,nrmB] at hlt
    rw [zcI m _ (by omega)]
    exact⟨trivial,rfl⟩
 all_goals subst hI;simp only [nrmA,nrmB];try omega
def zj9:Know Tryz.prog:=⟨18,zdG,zka⟩
def zj8:Know Tryz.prog:=⟨18,fun I=>zT I (zdG I),zi zka⟩
end Go.Proofs.YtjdbannldbgpeaaGreatDoor
namespace Go.Proofs.YtjdbannldbgpeaaGreatDoor
open Go Go.Sep Go.Ab
def pctM:Str→Option Str
 |[]=>some []
 | c ::r=>
   if c≠37 then(pctM r).map (c:: ·)
   else match r with
    |a::b::r'=>if hexK (a.toNat:Int)<0∨hexK (b.toNat:Int)<0 then none else(pctM r').map (UInt8.ofNat (16 * hexK (a.toNat:Int)+hexK (b.toNat:Int)).toNat:: ·)
    |_=>none
def utfS:Str:=[117,116,102,45,56,39,39]
def extM (s:Str):Option Str:=if s.length<7∨lowS (s.take 7)≠utfS then none else pctM (s.drop 7)
def wY:Str:=[99,111,110,116,101,110,116,45,100,105,115,112,111,115,105,116,105,111,110]
def Un:Str:=[99,111,110,116,101,110,116,45,116,121,112,101]
def zhP:Str:=[102,111,114,109,45,100,97,116,97]
def zji:Str:=[110,97,109,101]
def zhN:Str:=[102,105,108,101,110,97,109,101]
def SG:Str:=[102,105,108,101,110,97,109,101,42]
def extV (s:Str):Str:=(extM s).getD []
def extB (s:Str):Bool:=(extM s).isSome
def zkN (f x:Str × Bool):Str:=if x.2=true then Xg (extV x.1) else if f.2=true then Xg f.1 else []
def partT (t:Str × Int):Str:=if t.2=0 then t.1 else []
def zgp (a:Str × Int) (m:Med × Int) (n f x:Str × Bool) (t:Str × Int):Prt × Int:=
 if a.2≠0 then(prt0,a.2)
 else if m.2≠0 then(prt0,m.2)
 else if m.1.word≠zhP then(prt0,11)
 else if n.2=false then(prt0,6)
 else if x.2=true∧extB x.1=false then(prt0,5)
 else if t.2=9 then(prt0,9)
 else(⟨n.1,zkN f x,partT t,[]⟩,0)
def xW (l:List Fld):Prt × Int:=
 zgp (oneF (valsF l wY)) (wO (oneF (valsF l wY)).1) (getP (wO (oneF (valsF l wY)).1).1.params zji) (getP (wO (oneF (valsF l wY)).1).1.params zhN) (getP (wO (oneF (valsF l wY)).1).1.params SG) (oneF (valsF l Un))
def evP (p:Prt):Evt:=⟨5,hd0,[],p,0⟩
def evO:Evt:=⟨6,hd0,[],prt0,0⟩
def yD (f:Fm) (c:Int):Fm:= { f with pos:=8,code:=c,out:=f.out++[evF c]}
def fmSk (f:Fm) (c:UInt8):Fm:= { f with held:=((x9 f.mark f.held.toNat c).2.1:Int)}
def yL (f:Fm):Fm:=
 if(xW f.fields).2≠0 then yD f (xW f.fields).2
 else if f.parts=12 then yD f 8
 else fmSk (fmSk { f with parts:=f.parts+1,pos:=6,out:=f.out++[evP (xW f.fields).1],skip:=2} 13) 10
def y8 (f:Fm) (s:Str):Fm:=
 if s=[] then yL f
 else if f.fields.length=16 then yD f 8
 else if(xM s).2≠0 then yD f (xM s).2
 else { f with fields:=f.fields++[(xM s).1]}
def zZ (f:Fm) (c:UInt8):Fm:=
 if f.pos=1∧c=45 then { f with pos:=2}
 else if f.pos=2∧c=45 then { f with pos:=7,out:=f.out++[evE]}
 else if f.pos≠2∧(c=32∨c=9) then { f with pos:=3}
 else if f.pos≠2∧c=13 then { f with pos:=4}
 else yD f 5
def yH (f:Fm) (c:UInt8):Str:=(x9 f.mark f.held.toNat c).1.drop (min f.skip ((x9 f.mark f.held.toNat c).1.length:Int)).toNat
def yF (f:Fm) (c:UInt8):Fm:=
 if(x9 f.mark f.held.toNat c).2.2=false then
  { fmSk f c with skip:=f.skip - min f.skip ((x9 f.mark f.held.toNat c).1.length:Int),out:=if f.pos=6∧yH f c≠[] then f.out++[evB (yH f c)] else f.out}
 else { fmSk f c with pos:=1,skip:=0,out:=if f.pos=6 then(if yH f c≠[] then f.out++[evB (yH f c),evO] else f.out++[evO]) else f.out}
def lnOf (f:Fm):Ln:=match f.ln with|some l=>l|none=>ln0
def fmF (f:Fm) (c:UInt8):Fm:=
 if f.pos=0∨f.pos=6 then yF f c
 else if f.pos=1∨f.pos=2∨f.pos=3 then zZ f c
 else if f.pos=4 then(if c≠10 then yD f 2 else { f with pos:=5,ln:=some ln0,fields:=[]})
 else if f.pos=5 then
  if(lnF (lnOf f) c).2.2.2≠0 then yD { f with ln:=some (lnF (lnOf f) c).1} (lnF (lnOf f) c).2.2.2
  else if(lnF (lnOf f) c).2.2.1=true then y8 { f with ln:=some (lnF (lnOf f) c).1} (lnF (lnOf f) c).2.1
  else { f with ln:=some (lnF (lnOf f) c).1}
 else f
def zN (b:Str):Str:=[13,10,45,45]++b
def fm0 (b:Str):Fm:=fmSk (fmSk ⟨zN b,0,ZQ (zN b),0,none,[],0,0,0,[]⟩ 13) 10
def yS (f:Fm) (b:Str):Fm:=b.foldl fmF f
def zQ (f:Fm) (b:Str):Fm:=yS { f with out:=[]} b
def y9 (f:Fm):Int:=if f.pos=8 then f.code else if f.pos=7 then 0 else 14
def prtS (l:List Prt) (e:Evt):List Prt:=
 if e.kind=5 then l++[e.part]
 else if e.kind=2 then(match l.getLast? with|some p=>l.dropLast++[{ p with bytes:=p.bytes++e.bytes}]|none=>l)
 else l
def Ym (b x:Str):List Prt × Int:=
 if wH b=false then([],5)
 else if y9 (zQ (fm0 b) x)≠0 then([],y9 (zQ (fm0 b) x))
 else((zV (zQ (fm0 b) x).out).foldl prtS [],0)
end Go.Proofs.YtjdbannldbgpeaaGreatDoor
namespace Go.Proofs.YtjdbannldbgpeaaGreatDoor
open Go Go.Sep Go.Ab
set_option maxRecDepth 100000
def Um (s p:Str):Str × Bool:=if s.length<p.length∨lowS (s.take p.length)≠p then([],false) else(s.drop p.length,true)
def Qv (I:Alg):KU
 |[.v (.one (.p (.str s))),.v (.one (.p (.str p)))],[]=>(fun(s p:Str)=>(some (.one ⟨I.hid (s.length≤1000000∧p.length≤100),(.ret (.tup [.one (.p (.str (I.hid ((Um s p).1)))),.one (.p (.bool (I.hid ((Um s p).2))))])),[]⟩):Option CT)) s p
 |_,_=>none
theorem zhX:zO Tryz.prog 96 (Qv alg):=by
 intro args hp r h;unfold Qv at h;split at h<;>cases h
 rename_i s p;simp only [CT.Good,zI];intro hneed;obtain⟨h1,h2⟩:=hneed;generalize hr:Um s p=r;obtain⟨a,k⟩:=r
 refine spH Tryz.func96 (by kernel_rfl) { keep:=some [0,1,4,5]} [xC,xB] (by kernel_rfl) ?_
 intro I X hI hX
 refine orcL ?_;go_invoke;refine orcS (by kernel_rfl) ?_
 simp only [zJ,Nat.reduceAdd];subst hI;unfold Um at hr;simp only [nrmA,nrmB,nrlB,reduceCtorEq]
 (repeat' (first|refine ja ?_ ?_|intro _))<;>first|omega|exact jb|exact jc ‹False›|skip
 all_goals first
  |omega
  |(simp only [jq];omega)
  |(rw [if_pos (Or.inl (by omega))] at hr;cases hr;rfl)
  |(rw [if_pos (Or.inr ‹_›)] at hr;cases hr;rfl)
  |(rw [if_neg (fun h=>h.elim (fun h=>by omega) (fun h=>h ‹_›))] at hr;cases hr;first|rfl|exact jl (by simp))
def zhW:Know Tryz.prog:=⟨96,Qv,zhX⟩
def zhV:Know Tryz.prog:=⟨96,fun I=>zT I (Qv I),zi zhX⟩
theorem zmP {r:Str} {i:Nat} (h:i<r.length) (k: ¬ r.getD i 0=37):pctM (r.drop i)=(pctM (r.drop (i+1))).map (r.getD i 0:: ·):=by
 have e:r.getD i 0=r[i]:=by simp [h]
 rw [e] at k;rw [jD h,pctM.eq_def];simp only;rw [if_pos k,e]
theorem zmO {r:Str} {i:Nat} (h:i<r.length) (k:r.getD i 0=37) (h2:r.length≤i+2):pctM (r.drop i)=none:=by
 have e:r.getD i 0=r[i]:=by simp [h]
 rw [e] at k;rw [jD h,pctM.eq_def];simp only [k,ne_eq,not_true_eq_false,if_false]
 have hl:(r.drop (i+1)).length≤1:=by rw [jB];omega
 match hd:r.drop (i+1),hl with
 |[],_=>rfl
 |[_],_=>rfl
 |_::_::_,h=>simp at h
theorem zmQ {r:Str} {i:Nat} (h:i+2<r.length) (k:r.getD i 0=37):pctM (r.drop i)=if hexK ((r.getD (i+1) 0).toNat:Int)<0∨hexK ((r.getD (i+2) 0).toNat:Int)<0 then none else(pctM (r.drop (i+3))).map (UInt8.ofNat (16 * hexK ((r.getD (i+1) 0).toNat:Int)+hexK ((r.getD (i+2) 0).toNat:Int)).toNat:: ·):=by
 have h0:i<r.length:=by omega
 have h1:i+1<r.length:=by omega
 have e0:r.getD i 0=r[i]:=by simp [h0]
 have e1:r.getD (i+1) 0=r[i+1]:=by simp [h1]
 have e2:r.getD (i+2) 0=r[i+2]:=by simp [h]
 rw [e0] at k
 rw [jD h0,jD h1,jD h,pctM,if_neg (by simp [k]),e1,e2]
def Qu (I:Alg):KU
 |[.v (.one (.p (.str s)))],[]=>(fun(s:Str)=>(some (.one ⟨I.hid (s.length≤1000000),(.ret (.tup [.one (.p (.str (I.hid (extV s)))),.one (.p (.bool (I.hid (extB s))))])),[]⟩):Option CT)) s
 |_,_=>none
theorem zhU:zO Tryz.prog 83 (Qu alg):=by
 intro args hp r h;unfold Qu at h;split at h<;>cases h
 rename_i s;simp only [CT.Good,zI];intro hneed;unfold extV extB;generalize hr:extM s=r
 refine spH Tryz.func83 (by kernel_rfl) { nr:=[6],keep:=some [0,2,3,4,5,6,7]} [zkd,zkc,zhW,zhV] (by kernel_rfl) ?_
 intro I X hI hX
 refine orcL ?_;go_invoke;refine orcS (by kernel_rfl) ?_
 simp only [zJ,Nat.reduceAdd];rw [show([117,116,102,45,56,39,39]:Str)=utfS from rfl]
 have hc:extM s=if(Um s utfS).2=false then none else pctM (Um s utfS).1:=by
  unfold extM Um
  by_cases h:s.length<7∨lowS (s.take 7)≠utfS
  · rw [if_pos h,if_pos (show s.length<utfS.length∨lowS (s.take utfS.length)≠utfS from h)];rfl
  · rw [if_neg h,if_neg (show ¬ (s.length<utfS.length∨lowS (s.take utfS.length)≠utfS) from h)];rfl
 have hl:(Um s utfS).1.length≤1000000:=by
  unfold Um
  split
  · simp
  · simp only [jB];omega
 rw [hc] at hr;generalize(Um s utfS).2=k at *;generalize(Um s utfS).1=R at *
 have h7:utfS.length≤100:=by decide
 (repeat' (first|refine ja ?_ ?_|intro _))
 all_goals try(subst hI;(simp only [nrmA,nrmB,nrlB,reduceCtorEq] at *);first|done|trivial|omega|exact⟨hneed,h7⟩|(rw [if_pos ‹_›] at hr;rw [← hr];exact⟨rfl,rfl⟩))
 have hk:k=true:=by
  subst hI;simp only [nrmA,nrmB,nrlB,reduceCtorEq] at *
  simpa using ‹_›
 rw [hk] at hr;simp only [Bool.true_eq_false,if_false] at hr
 rw [show I.hid R=R by subst hI;rfl]
 refine lpH hI [zkd,zkc,zhW,zhV] hX [4,6,7] (fun(g:Nat × Str)=>match g with|(i,b)=>i≤R.length∧b.length≤i∧r=(pctM (R.drop i)).map (b++ ·)) (fun(g:Nat × Str)=>match g with|(i,b)=>⟨[(4,.v (.one (.p (.str R)))),(6,.v (.one (.row 0))),(7,.v (.one (.p (.int .i64 i))))],[.row .byte 5 b],72,none⟩) (fun(g:Nat × Str)=>match g with|(i,b)=>R.length - i) (0,[]) (by kernel_rfl) (by kernel_rfl) ?_ ?_
 · refine⟨jL _,jK _,?_⟩
   rw [List.drop_zero,hr]
   cases r<;>rfl
 rintro⟨i,b⟩ ⟨h1,h2,h3⟩ A hA;simp only at hA h1 h2 h3
 refine orcL ?_;go_invoke;refine orcS (by kernel_rfl) ?_
 simp only [zJ,Nat.reduceAdd];subst hI;simp only [nrmA,nrmB,nrlB,reduceCtorEq]
 have e1:((i:Int)+1).toNat=i+1:=by omega
 have e2:((i:Int)+2).toNat=i+2:=by omega
 rw [e1,e2]
 have b37:(R.getD i 0).toNat=37↔R.getD i 0=37:=⟨fun h=>UInt8.toNat_inj.1 h,fun h=>by rw [h];rfl⟩
 have g0:i<R.length→¬ R.getD i 0=37→_:=fun h k=>zmP h k;have g1:i<R.length→R.getD i 0=37→R.length≤i+2→_:=fun h k=>zmO h k;have g2:i+2<R.length→R.getD i 0=37→_:=fun h k=>zmQ h k;have l0:=(R.getD i 0).toNat_lt;have l1:=(R.getD (i+1) 0).toNat_lt;have l2:=(R.getD (i+2) 0).toNat_lt
 have m1:=zhh (k:=((R.getD (i+1) 0).toNat:Int)) ⟨by omega,by omega⟩
 have m2:=zhh (k:=((R.getD (i+2) 0).toNat:Int)) ⟨by omega,by omega⟩
 have hend: ¬ i<R.length→r=some b:=fun h=>by rw [h3,jE (by omega)];simp [pctM]
 have hA2:=fun(c:UInt8) (j:Nat) (h:i<j) (hj:j≤R.length) (e:pctM (R.drop i)=(pctM (R.drop j)).map (c:: ·))=>hA (j,b++[c]) ⟨hj,by rw [jg,jm];omega,by rw [h3,e,Option.map_map];congr 1;funext x;simp⟩ (by simp only;omega)
 generalize R.getD i 0=x0 at *;generalize R.getD (i+1) 0=x1 at *;generalize R.getD (i+2) 0=x2 at *
 refine⟨fun c=>⟨by omega,fun c2=>⟨by omega,by omega,by simp only [jm];omega,by omega,?_⟩,fun c2=> ?_⟩,fun c=> ?_⟩
 · have:=hA2 x0 (i+1) (by omega) (by omega) (g0 (by omega) (fun h=>c2 (by have:=b37.2 h;omega)))
   simp only [Int.natCast_add,Int.natCast_one] at this;exact this
 · have hx:x0=37:=b37.1 (by omega)
   subst hx
   have gs:R.length≤i+2→r=none:=fun h=>by rw [h3,g1 (by omega) rfl h];rfl
   have gm:=fun h=>g2 h rfl
   have gn:i+2<R.length→(hexK (x1.toNat:Int)<0∨hexK (x2.toNat:Int)<0)→r=none:=fun h k=>by rw [h3,gm h,if_pos k];rfl
   have gy:i+2<R.length→¬ hexK (x1.toNat:Int)<0→¬ hexK (x2.toNat:Int)<0→_:=fun h k k2=>hA2 (UInt8.ofNat (16 * hexK (x1.toNat:Int)+hexK (x2.toNat:Int)).toNat) (i+3) (by omega) (by omega) (by rw [gm h,if_neg (fun q=>q.elim k k2)])
   have wr: ¬ hexK (x1.toNat:Int)<0→¬ hexK (x2.toNat:Int)<0→IntKind.u8.wrap (16 * hexK (x1.toNat:Int)+hexK (x2.toNat:Int))=16 * hexK (x1.toNat:Int)+hexK (x2.toNat:Int):=fun k k2=>zmK _ ⟨by omega,by omega⟩
   (repeat' (first|refine ja ?_ ?_|intro _))<;>first|omega|exact jb|exact jc ‹False›|skip
   all_goals first
    |omega
    |(rw [gs (by omega)];done)
    |(rw [gs (by omega)];rfl)
    |(rw [gn (by omega) (Or.inl ‹_›)];rfl)
    |(rw [gn (by omega) (Or.inr ‹_›)];rfl)
    |(rw [wr ‹_› ‹_›];omega)
    |(simp only [jm];omega)
    |(rw [wr ‹_› ‹_›,show(i:Int)+2+1=((i+3:Nat):Int) by omega];exact gy (by omega) ‹_› ‹_›)
 · rw [hend (by omega)]
   exact⟨rfl,rfl⟩
def zlu:Know Tryz.prog:=⟨83,Qu,zhU⟩
def zlt:Know Tryz.prog:=⟨83,fun I=>zT I (Qu I),zi zhU⟩
end Go.Proofs.YtjdbannldbgpeaaGreatDoor
