/- Texts of this proof, one behind the other: SeekL SeekM Mrk FrmL Pfx TusA TusB TusC TusD TusE TusF GatL RplA FrmA FrmB LnA FrmC FrmD FldP FrmE EvJ FrmF FrmG FrmH FrmI GatP GatA GatB ChkA ChkI. -/
import Derived.Test.YtkjepecoodjbmaaGreatDoorMc
set_option linter.all false
namespace Go.Sep.P
theorem ZN {a b s:List UInt8} (ha:a<:+s) (hb:b<:+s) (h:a.length≤b.length):a<:+b:=List.suffix_of_suffix_length_le ha hb h
structure Top (m s:List UInt8) (b n:Nat):Prop where
 le:n≤b
 suf:m.take n<:+s
 top: ∀ k,k≤b→m.take k<:+s→k≤n
theorem Top.eq {m s:List UInt8} {b n n':Nat} (h:Top m s b n) (h':Top m s b n'):n=n':=
 Nat.le_antisymm (h'.top n h.le h.suf) (h.top n' h'.le h'.suf)
def tK (m s:List UInt8):Nat→Nat
 |0=>0
 |k+1=>if m.take (k+1)<:+s then k+1 else tK m s k
theorem wY (m s:List UInt8): ∀ b,Top m s b (tK m s b)
 |0=>⟨jL _,by simp [tK],fun k hk _=>hk⟩
 | b + 1=>by
   unfold tK
   split
   · rename_i h;exact⟨jL _,h,fun k hk _=>hk⟩
   · rename_i h
     have ih:=wY m s b;refine⟨Nat.le_succ_of_le ih.le,ih.suf,fun k hk hs=> ?_⟩
     rcases Nat.lt_or_ge k (b+1) with h1|h1
     · exact ih.top k (by omega) hs
     · have:k=b+1:=by omega
       subst this;exact(h hs).elim
def held (m s:List UInt8):Nat:=tK m s (m.length - 1)
def zY (m:List UInt8) (i:Nat):Nat:=tK m (m.take i) (i - 1)
theorem rD {m:List UInt8} {i:Nat} (h:0<i):zY m i<i:=by
 have:=(wY m (m.take i) (i - 1)).le;unfold zY;omega
def fall (m:List UInt8) (c:UInt8):Nat→Nat→Nat
 |0,n=>n
 |f+1,n=>if n=0 then 0 else if m[n]? =some c then n else fall m c f (zY m n)
theorem VE (m:List UInt8) (c:UInt8) (f:Nat):fall m c f 0=0:=by cases f<;>simp [fall]
theorem zgJ (m:List UInt8) (c:UInt8): ∀ (f n:Nat),n≤f→∀ g,n≤g→fall m c f n=fall m c g n
 | 0,n,h,g,_=>by
   have:n=0:=by omega
   subst this;rw [VE,VE]
 | f + 1,n,h,g,hg=>by
   cases g with
   | zero=>
     have:n=0:=by omega
     subst this;rw [VE,VE]
   | succ g=>
     simp only [fall]
     split
     · rfl
     · split
       · rfl
       · rename_i h0 _
         have hb:=rD (m:=m) (i:=n) (by omega)
         exact zgJ m c f _ (by omega) g (by omega)
structure zwK (m:List UInt8) (c:UInt8) (n j:Nat):Prop where
 le:j≤n
 suf:m.take j<:+m.take n
 top: ∀ k,k≤n→m.take k<:+m.take n→m[k]? =some c→k≤j
 fits:j=0∨m[j]? =some c
theorem zic (m:List UInt8) (c:UInt8) (hm: ∀ k,k≤m.length→(m.take k).length=k): ∀ (f n:Nat),n≤f→n≤m.length→zwK m c n (fall m c f n)
 | 0,n,h,hn=>by
   have:n=0:=by omega
   subst this;exact⟨jL _,List.suffix_refl _,fun k hk _ _=>hk,.inl rfl⟩
 | f + 1,n,h,hn=>by
   simp only [fall]
   split
   · rename_i h0;subst h0;exact⟨jL _,List.suffix_refl _,fun k hk _ _=>hk,.inl rfl⟩
   · split
     · rename_i h0 h1;exact⟨jL _,List.suffix_refl _,fun k hk _ _=>hk,.inr h1⟩
     · rename_i h0 h1
       have hb:=rD (m:=m) (i:=n) (by omega)
       have ht:Top m (m.take n) (n - 1) (zY m n):=wY m (m.take n) (n - 1)
       have ih:=zic m c hm f (zY m n) (by omega) (by omega)
       refine⟨by have:=ih.le;omega,ih.suf.trans ht.suf,fun k hk hs hc=> ?_,ih.fits⟩
       have hne:k≠n:=by rintro rfl;exact h1 hc
       have hkb:k≤zY m n:=ht.top k (by omega) hs
       refine ih.top k hkb (ZN hs ht.suf ?_) hc
       rw [hm k (by omega),hm _ (by omega)]
       exact hkb
theorem take_len {m:List UInt8}: ∀ k,k≤m.length→(m.take k).length=k:=fun k hk=>by simp;omega
theorem ZM {m s:List UInt8} {k:Nat} {c:UInt8} (hk:k<m.length):m.take (k+1)<:+s++[c]↔m.take k<:+s∧m[k]? =some c:=by
 rw [jB hk,jm hk];constructor
 · rintro⟨t,ht⟩
   rw [← jo] at ht;have:=List.append_inj' ht rfl
   exact⟨⟨t,this.1⟩,by simpa using this.2⟩
 · rintro⟨⟨t,ht⟩,hc⟩
   have hc':m[k]=c:=by simpa using hc
   exact⟨t,by rw [← jo,ht,hc']⟩
theorem Top.step {m s:List UInt8} {b n:Nat} {c:UInt8} (h:Top m s b n) (hb:b<m.length):
  (m[fall m c n n]? =some c→Top m (s++[c]) (b+1) (fall m c n n+1))∧(m[fall m c n n]? ≠some c→Top m (s++[c]) (b+1) 0∧fall m c n n=0):=by
 have hn:n≤m.length:=by have:=h.le;omega
 have hf:=zic m c take_len n n (jL _) hn;generalize fall m c n n=j at hf
 have hjl:j<m.length:=by have:=hf.le;have:=h.le;omega
 have key: ∀ k,k+1≤b+1→m.take (k+1)<:+s++[c]→k≤j∧m[k]? =some c:=by
  intro k hk hs
  obtain⟨h1,h2⟩:=(ZM (by omega)).1 hs
  have h3:=h.top k (by omega) h1
  have h4:m.take k<:+m.take n:=ZN h1 h.suf (by rw [take_len k (by omega),take_len n hn];exact h3)
  exact⟨hf.top k h3 h4 h2,h2⟩
 constructor
 · intro hc
   refine⟨by have:=hf.le;have:=h.le;omega,(ZM hjl).2 ⟨hf.suf.trans h.suf,hc⟩,fun k hk hs=> ?_⟩
   cases k with
   |zero=>omega
   |succ k=>have:=(key k hk hs).1;omega
 · intro hc
   have hj0:j=0:=hf.fits.resolve_right hc;subst hj0
   refine⟨⟨jM _,by simp,fun k hk hs=> ?_⟩,rfl⟩
   cases k with
   |zero=>omega
   | succ k=>
     obtain⟨h1,h2⟩:=key k hk hs
     have:k=0:=by omega
     subst this;exact(hc h2).elim
theorem ziy {m:List UInt8} {i:Nat} (hi:i<m.length) (h0:0<i):
  zY m (i+1)=(if m[fall m m[i] (zY m i) (zY m i)]? =some m[i] then fall m m[i] (zY m i) (zY m i)+1 else 0):=by
 have ht:=wY m (m.take i) (i - 1)
 have hs:=ht.step (c:=m[i]) (by omega)
 have e:m.take i++[m[i]]=m.take (i+1):=(jB hi).symm
 rw [e,show i - 1+1=i by omega] at hs
 have hnew:=wY m (m.take (i+1)) (i+1 - 1)
 change Top m (m.take (i+1)) i (zY m (i+1)) at hnew
 change(m[fall m m[i] (zY m i) (zY m i)]? =some m[i]→_)∧_ at hs
 split
 · rename_i hc;exact hnew.eq (hs.1 hc)
 · rename_i hc;exact hnew.eq (hs.2 hc).1
theorem zpx {m:List UInt8} {n k j:Nat} (hj:0<j) (hk:k+j=n) (hn:n≤m.length) (h:m.take k++m.take j=m.take n):
  m.take k++m.take (j - zY m j)=m.take (k+(j - zY m j))∧m.take (k+(j - zY m j))++m.take (zY m j)=m.take n:=by
 have hb:=rD (m:=m) hj;have ht:Top m (m.take j) (j - 1) (zY m j):=wY m (m.take j) (j - 1);generalize zY m j=b at hb ht;obtain⟨t,e⟩:=ht.suf;have hl:=congrArg List.length e
 rw [jk,take_len b (by omega),take_len j (by omega)] at hl
 have e2:t=m.take (j - b):=by
  have h1:(m.take j).take t.length=t:=by rw [← e];simp
  rw [List.take_take,show min t.length j=j - b by omega] at h1
  exact h1.symm
 subst e2
 have e3:m.take n=(m.take k++m.take (j - b))++m.take b:=by rw [jo,e,h]
 have e4:m.take (k+(j - b))=m.take k++m.take (j - b):=by
  have h1:(m.take n).take (k+(j - b))=m.take (k+(j - b)):=by rw [List.take_take,show min (k+(j - b)) n=k+(j - b) by omega]
  rw [← h1,e3]
  exact List.take_left' (by rw [jk,take_len k (by omega),take_len _ (by omega)])
 exact⟨e4.symm,by rw [e4,e3]⟩
theorem zgI {m:List UInt8} {c:UInt8} {j:Nat} (h0:0<j) (h:m[j]? ≠some c):fall m c j j=fall m c (zY m j) (zY m j):=by
 have hb:=rD (m:=m) h0
 cases j with
 |zero=>omega
 | succ i=>
   rw [fall,if_neg (by omega),if_neg h]
   exact zgJ m c _ _ (by omega) _ (jL _)
theorem Yn {m:List UInt8} {c:UInt8} {j:Nat} (h:j=0∨m[j]? =some c):fall m c j j=j:=by
 cases j with
 |zero=>rfl
 |succ i=>rw [fall,if_neg (by omega),if_pos (h.resolve_left (by omega))]
def feed (m:List UInt8) (n:Nat) (c:UInt8):List UInt8 × Nat × Bool:=
 let j:=fall m c n n
 let out:=m.take (n - j)
 if m[j]? =some c then(if j+1<m.length then(out,j+1,false) else(out,0,true)) else(out++[c],0,false)
end Go.Sep.P
namespace Go.Proofs.YtkjepecoodjbmaaGreatDoor
open Go Go.Sep Go.Ab
set_option maxRecDepth 100000
set_option linter.unusedSimpArgs false
set_option linter.unusedVariables false
def cfgS:Cfg:= { sl:=[⟨310,0,.byte,some 5⟩,⟨310,1,.int,some 3⟩],nr:=[6]}
def Si (m:Str):List Int:=(List.range (m.length+1)).map fun i=>((P.zY m i:Nat):Int)
theorem zqc (m:Str) (i:Int) (h0:0≤i) (h:i≤m.length):(Si m).getD i.toNat 0=(P.zY m i.toNat:Nat):=by
 unfold Si
 rw [jH,List.getElem?_map,List.getElem?_range (by omega)];rfl
theorem zqb (m:Str):(Si m).length=m.length+1:=by simp [Si]
def sZ (m:Str) (n:Nat) (c:UInt8):Str × Nat × Bool:=if m=[] then([c],n,false) else P.feed m n c
def zd0 (I:Alg):KU
 |[.v (.one (.ptr 0 0)),.v (.one (.p (.int .u8 k)))],[.pack [.obj 310 [.row 1,.row 2,.p (.int .i64 n)],.row .byte 5 m,.row .int 3 bs]]=>(fun(m:Str) (bs:List Int)=>(some (.one ⟨I.hid (bs=Si m∧m.length≤1000000∧0≤n∧(m=[]∨n<m.length)∧0≤k∧k≤255),(.ret (.tup [.one (.row 1),.one (.p (.bool (I.hid ((sZ m n.toNat (UInt8.ofNat k.toNat)).2.2))))])),[.pack [.obj 310 [.row 1,.row 2,.p (.int .i64 (I.hid ((sZ m n.toNat (UInt8.ofNat k.toNat)).2.1:Int)))],.row .byte 5 m,.row .int 3 bs],.row .byte 5 (I.hid ((sZ m n.toNat (UInt8.ofNat k.toNat)).1))]⟩):Option CT)) m bs
 |_,_=>none
theorem zpv:zx Tryz.prog 276 (zd0 alg):=by
 intro args hp r h;unfold zd0 at h;split at h<;>cases h
 rename_i k n m bs
 revert bs;intro(bs:List Int)
 simp only [CT.Good,zh];intro hneed;obtain⟨hbs,hl,hn0,hn,hk0,hk1⟩:=hneed;generalize hr:sZ m n.toNat (UInt8.ofNat k.toNat)=r;obtain⟨out,n',fd⟩:=r
 refine spH Tryz.func276 (by kernel_rfl) { cfgS with keep:=some [0,1,4,5,6,7]} [] (by kernel_rfl) ?_
 intro I X hI hX
 refine orcL ?_;go_invoke;refine orcS (by kernel_rfl) ?_
 simp only [zi,Nat.reduceAdd];refine⟨fun h=> ?_,fun h=> ?_⟩
 · subst hI
   simp only [nrmA,nrmB] at h
   have:m=[]:=List.eq_nil_of_length_eq_zero (by omega)
   subst this;simp only [sZ,if_true,Prod.mk.injEq] at hr;obtain⟨rfl,rfl,rfl⟩:=hr;simp only [nrmA,nrmB];refine⟨⟨hk0,hk1⟩,?_⟩;rw [Int.toNat_of_nonneg hn0]
 have hm:m≠[]:=by
  subst hI;simp only [nrmA,nrmB] at h;rintro rfl;simp at h
 have hm0:0<m.length:=by cases m<;>simp_all
 have hn:n<m.length:=hn.resolve_left hm;simp only [sZ,if_neg hm] at hr
 refine lpH hI [qm] hX [0,1,6] (fun(p:Nat × Str)=>p.1≤n.toNat∧p.2.length+p.1=n.toNat∧P.fall m (UInt8.ofNat k.toNat) p.1 p.1=P.fall m (UInt8.ofNat k.toNat) n.toNat n.toNat∧p.2++m.take p.1=m.take n.toNat∧p.2=m.take p.2.length)
  (fun p=>⟨[(0,.v (.one (.ptr 0 0))),(1,.v (.one (.p (.int .u8 k)))),(6,.v (.one (.row 1)))],[.pack [.obj 310 [.row 1,.row 2,.p (.int .i64 p.1)],.row .byte 5 m,.row .int 3 bs],.row .byte 5 p.2],100,none⟩) (fun p=>p.1) (n.toNat,[])
  (by kernel_rfl) ?_ ⟨jL _,by simp,rfl,by simp,by simp⟩ ?_
 · simp only [Int.toNat_of_nonneg hn0];kernel_rfl
 rintro⟨j,o⟩ ⟨hjn,hoj,hfall,hcat,hpre⟩ A hA;simp only at hjn hoj hfall hcat hpre
 refine orcL ?_;go_invoke;refine orcS (by kernel_rfl) ?_
 simp only [zi,Nat.reduceAdd];subst hI hbs;simp only [nrmA,nrmB]
 have hb:=zqc m j (by omega) (by omega)
 simp only [jJ] at hb;have hbl:0<j→P.zY m j<j:=P.rD
 have hj:j<m.length:=by omega
 have hge:m.getD j 0=m[j]:=by simp [hj]
 rw [hb,zqb,hge]
 have hcc:(m[j].toNat:Int)=k↔m[j]? =some (UInt8.ofNat k.toNat):=by
  rw [jm hj,jw,← UInt8.toNat_inj,UInt8.toNat_ofNat'];omega
 simp only [hcc];have hfeed:=hr;simp only [P.feed] at hfeed;rw [← hfall] at hfeed
 refine⟨fun h0=>⟨by omega,by omega,fun hne=>⟨by omega,by omega,by omega,by omega,by simp only [jv];omega,?_⟩,fun heq=>⟨by omega,by omega,fun hne=>(hne heq).elim,fun _=>⟨by omega,fun hlt=> ?_,fun hlt=> ?_⟩⟩⟩,fun h0=>⟨by omega,by omega,fun hne=> ?_,fun heq=>⟨by omega,fun hlt=> ?_,fun hlt=> ?_⟩⟩⟩
 · obtain⟨h1,h2⟩:=P.zpx (m:=m) (n:=n.toNat) (k:=o.length) (j:=j) (by omega) (by omega) (by omega) (by rw [← hpre];exact hcat)
   have hx:(↑j - ↑(P.zY m j):Int).toNat=j - P.zY m j:=by omega
   have hbj:=hbl (by omega)
   rw [hx]
   refine hA (P.zY m j,o++m.take (j - P.zY m j)) ⟨by simp only;omega,?_,?_,?_,?_⟩ hbj
   · simp only [jk,jv];omega
   · rw [← hfall];exact(P.zgI (by omega) hne).symm
   · simp only;rw [← h2,← h1,← hpre]
   · have:(o++m.take (j - P.zY m j)).length=o.length+(j - P.zY m j):=by simp only [jk,jv];omega
     simp only;rw [this,← h1,← hpre]
 · have hstop:=P.Yn (c:=UInt8.ofNat k.toNat) (.inr heq)
   rw [hstop,if_pos heq,if_pos (by omega)] at hfeed
   simp only [Prod.mk.injEq] at hfeed;obtain⟨rfl,rfl,rfl⟩:=hfeed
   rw [show n.toNat - j=o.length by omega,← hpre]
   exact⟨rfl,rfl⟩
 · have hstop:=P.Yn (c:=UInt8.ofNat k.toNat) (.inr heq)
   rw [hstop,if_pos heq,if_neg (by omega)] at hfeed
   simp only [Prod.mk.injEq] at hfeed;obtain⟨rfl,rfl,rfl⟩:=hfeed
   rw [show n.toNat - j=o.length by omega,← hpre]
   exact⟨rfl,rfl⟩
 all_goals
  have hj0:j=0:=by omega
  subst hj0;have hstop:=P.Yn (m:=m) (c:=UInt8.ofNat k.toNat) (j:=0) (.inl rfl);rw [hstop] at hfeed
  rw [show n.toNat=o.length by omega,Nat.sub_zero,← hpre] at hfeed
 · rw [if_neg hne] at hfeed
   simp only [Prod.mk.injEq] at hfeed;obtain⟨rfl,rfl,rfl⟩:=hfeed
   exact⟨⟨hk0,hk1⟩,by simp only [jh,ji];omega,rfl,rfl⟩
 · rw [if_pos heq,if_pos (by omega)] at hfeed
   simp only [Prod.mk.injEq] at hfeed;obtain⟨rfl,rfl,rfl⟩:=hfeed;exact⟨rfl,rfl⟩
 · rw [if_pos heq,if_neg (by omega)] at hfeed
   simp only [Prod.mk.injEq] at hfeed;obtain⟨rfl,rfl,rfl⟩:=hfeed;exact⟨rfl,rfl⟩
def UQ:Know Tryz.prog:=⟨276,zd0,zpv⟩
def UO:Know Tryz.prog:=⟨276,fun I=>zu I (zd0 I),zf zpv⟩
def xY (m:Str) (i:Nat):List Int:=(List.range (m.length+1)).map fun q=>if q<i then((P.zY m q:Nat):Int) else 0
theorem zix (m:Str) (i:Nat) (h:m.length<i):xY m i=Si m:=by
 unfold xY Si;refine List.map_congr_left fun q hq=> ?_
 rw [if_pos (by have:=List.mem_range.1 hq;omega)]
theorem zit (m:Str):xY m 2=List.replicate (m.length+1) 0:=by
 unfold xY
 refine List.ext_getElem (by simp) fun q h1 h2=> ?_
 simp only [List.getElem_map,List.getElem_range,List.getElem_replicate]
 split
 · have:q=0∨q=1:=by omega
   rcases this with rfl|rfl
   · simp [P.zY,P.tK]
   · simp [P.zY,P.tK]
 · rfl
theorem ziv (m:Str) (i:Nat):(xY m i).length=m.length+1:=by simp [xY]
theorem ziw (m:Str) (i q:Nat) (h:q<i) (hm:q≤m.length):(xY m i).getD q 0=(P.zY m q:Nat):=by
 unfold xY
 rw [jH,List.getElem?_map,List.getElem?_range (by omega)]
 simp [h]
theorem ziu (m:Str) (i:Nat):(xY m i).set i ((P.zY m i:Nat):Int)=xY m (i+1):=by
 unfold xY
 refine List.ext_getElem (by simp) fun q h1 h2=> ?_
 simp only [List.getElem_set,List.getElem_map,List.getElem_range]
 by_cases h:i=q
 · subst h;simp
 · rw [if_neg h]
   by_cases hq:q<i
   · rw [if_pos hq,if_pos (by omega)]
   · rw [if_neg hq,if_neg (by omega)]
def zjY (I:Alg):KU
 |[.v (.one (.p (.list .byte m)))],[]=>(fun(m:Str)=>(some (.one ⟨I.hid (m.length≤999999),(.ret (.v (.one (.ptr 0 0)))),[.pack [.obj 310 [.row 1,.row 2,.p (.int .i64 0)],.row .byte 5 m,.row .int 3 (I.hid (Si m))]]⟩):Option CT)) m
 |_,_=>none
theorem zsZ:zx Tryz.prog 275 (zjY alg):=by
 intro args hp r h;unfold zjY at h;split at h<;>cases h
 rename_i m;simp only [CT.Good,zh];intro hneed
 refine spH Tryz.func275 (by kernel_rfl) { cfgS with seam:=[2],keep:=some [0,2,3,4,5]} [ZA,qm] (by kernel_rfl) ?_
 intro I X hI hX
 refine orcL ?_;go_invoke;refine orcS (by kernel_rfl) ?_
 simp only [zi,Nat.reduceAdd]
 refine⟨?n1,⟨?n2,?n3,?n4,?n5,seam hI uj mixed [] hX [0,3] ⟨[(0,.v (.one (.p (.list .byte m)))),(3,.v (.one (.ptr 0 0)))],[.pack [.obj 310 [.row 1,.row 2,.p (.int .i64 0)],.row .byte 5 m,.row .int 3 ((I.rep (α:=Int) (I.add (I.len (α:=UInt8) m) 1) (0:Int)))]],60,none⟩ (by kernel_rfl) ?on⟩,?n3,?n4,?n5,?n2,seam hI uj mixed [] hX [0,3] _ (by kernel_rfl) ?on⟩
 case on=>
  have hrep:(I.rep (α:=Int) (I.add (I.len (α:=UInt8) m) 1) (0:Int))=xY m 2:=by
   subst hI;simp only [nrmA,nrmB];rw [zit];rfl
  rw [hrep];generalize hb2:xY m 2=b2
  refine orcL ?_;go_invoke;refine orcS (by kernel_rfl) ?_
  simp only [zi,Nat.reduceAdd]
  refine lpH hI [ZA,qm] hX [0,3,5,4] (fun(g:Nat × Nat × List Int)=>match g with|(i,k,bs)=>1≤i∧(i≤m.length∨i=1)∧k=P.zY m i∧bs=xY m (i+1)) (fun(g:Nat × Nat × List Int)=>match g with|(i,k,bs)=>⟨[(0,.v (.one (.p (.list .byte m)))),(3,.v (.one (.ptr 0 0))),(5,.v (.one (.p (.int .i64 i)))),(4,.v (.one (.p (.int .i64 k))))],[.pack [.obj 310 [.row 1,.row 2,.p (.int .i64 0)],.row .byte 5 m,.row .int 3 bs]],60,none⟩) (fun(g:Nat × Nat × List Int)=>match g with|(i,k,bs)=>m.length - i) (1,0,b2) (by kernel_rfl) (by kernel_rfl) ?_ ?_
  · exact⟨jL _,.inr rfl,by simp [P.zY,P.tK],hb2.symm⟩
  rintro⟨i,k,bs⟩ ⟨hi,him,rfl,hbs⟩ A hA;simp only at hA;generalize hk:P.zY m i=k at hA
  refine orcL ?_;go_invoke;refine orcS (by kernel_rfl) ?_
  simp only [zi,Nat.reduceAdd];refine⟨fun hlt=> ?_,fun hlt=> ?_⟩
  · refine lpH hI [ZA,qm] hX [0,3,5,4] (fun(q:Nat)=>q≤k∧P.fall m (m.getD i 0) q q=P.fall m (m.getD i 0) k k) (fun(q:Nat)=>⟨[(0,.v (.one (.p (.list .byte m)))),(3,.v (.one (.ptr 0 0))),(5,.v (.one (.p (.int .i64 i)))),(4,.v (.one (.p (.int .i64 q))))],[.pack [.obj 310 [.row 1,.row 2,.p (.int .i64 0)],.row .byte 5 m,.row .int 3 bs]],60,none⟩) (fun(q:Nat)=>q) k (by kernel_rfl) (by kernel_rfl) ?_ ?_
    · exact⟨jL _,rfl⟩
    rintro q ⟨hq,hfall⟩ B hB
    refine orcL ?_;go_invoke;refine orcS (by kernel_rfl) ?_
    simp only [zi,Nat.reduceAdd];subst hI hbs;simp only [nrmA,nrmB] at hlt
    have hil:i<m.length:=by omega
    have hkl:k<i:=by rw [← hk];exact P.rD (by omega)
    have hql:q<m.length:=by omega
    have hst:=P.ziy hil (by omega)
    have hgi:m.getD i 0=m[i]:=by simp [hil]
    have hgq:m.getD q 0=m[q]:=by simp [hql]
    have hg0:=ziw m (i+1) q (by omega) (by omega)
    have hbl:0<q→P.zY m q<q:=P.rD;rw [hk] at hst;rw [hgi] at hfall;rw [← hfall] at hst;simp only [nrmA,nrmB]
    rw [hgi,hgq,ziv,hg0,show((i:Int)+1).toNat=i+1 by omega]
    have hset:=ziu m (i+1)
    have hcc:m[i]=m[q]↔m[q]? =some m[i]:=by rw [jm hql];simp [eq_comm]
    have hA1:(q=0∨m[i]=m[q])→m[i]=m[q]→A ⟨[(0,.v (.one (.p (.list .byte m)))),(3,.v (.one (.ptr 0 0))),(5,.v (.one (.p (.int .i64 ((i:Int)+1))))),(4,.v (.one (.p (.int .i64 ((q:Int)+1)))))],[.pack [.obj 310 [.row 1,.row 2,.p (.int .i64 0)],.row .byte 5 m,.row .int 3 (((xY m (i+1)).set (i+1) ((q:Int)+1)))]],60,none⟩:=by
     intro h1 h2
     rw [P.Yn (by rw [← hcc];exact h1),if_pos (hcc.1 h2)] at hst
     have:=hA (i+1,q+1,xY m (i+2)) ⟨by omega,by omega,hst.symm,rfl⟩ (by simp only;omega)
     rw [hst] at hset;rw [← hset] at this;exact this
    have hA2:(q=0∨m[i]=m[q])→¬m[i]=m[q]→A ⟨[(0,.v (.one (.p (.list .byte m)))),(3,.v (.one (.ptr 0 0))),(5,.v (.one (.p (.int .i64 ((i:Int)+1))))),(4,.v (.one (.p (.int .i64 q))))],[.pack [.obj 310 [.row 1,.row 2,.p (.int .i64 0)],.row .byte 5 m,.row .int 3 (((xY m (i+1)).set (i+1) (q:Int)))]],60,none⟩:=by
     intro h1 h2;obtain rfl:q=0:=h1.resolve_right h2;rw [P.Yn (.inl rfl),if_neg (fun h=>h2 (hcc.2 h))] at hst
     have:=hA (i+1,0,xY m (i+2)) ⟨by omega,by omega,hst.symm,rfl⟩ (by simp only;omega)
     rw [hst] at hset;rw [← hset] at this;exact this
    (repeat' (first|refine ja ?_ ?_|intro _))<;>first|omega|exact jb|exact jc ‹False›|skip
    · refine hB (P.zY m q) ⟨by have:=hbl (by omega);omega,?_⟩ (hbl (by omega))
      rw [hgi,← P.zgI (by omega) (fun h=>‹¬m[i]=m[q]› (hcc.2 h)),hfall]
    · exact hA1 (.inr ‹_›) ‹_›
    · exact hA2 (.inr ‹_›) ‹_›
    · exact hA1 (.inl (by omega)) ‹_›
    · exact hA2 (.inl (by omega)) ‹_›
  · subst hI hbs
    simp only [nrmA,nrmB] at hlt
    rw [zix m _ (by omega)]
    exact⟨trivial,rfl⟩
 all_goals subst hI;simp only [nrmA,nrmB];try omega
def zsY:Know Tryz.prog:=⟨275,zjY,zsZ⟩
def zsX:Know Tryz.prog:=⟨275,fun I=>zu I (zjY I),zf zsZ⟩
end Go.Proofs.YtkjepecoodjbmaaGreatDoor
namespace Go.Proofs.YtkjepecoodjbmaaGreatDoor
open Go Go.Sep Go.Ab
set_option maxRecDepth 100000
def WX (s:Str):Bool:= !decide (70<s.length)&&(Xw s&&(decide (Lib.trimS s [32,9]=s)&&decide (s≠[])))
def Wi (b:Str) (c:UInt8):Str:=
 if c=47∨c=92 then []
 else if c=9∨zeU (c.toNat:Int)=false∨c=34∨c=58 then b++[95]
 else if c=46∧b=[] then b
 else b++[c]
def zhr (s:Str):Str:=if(s.foldl Wi []).take 40=[] then [102,105,108,101] else(s.foldl Wi []).take 40
theorem znj (s:Str) (i:Nat) (h:i<s.length):(s.take (i+1)).foldl Wi []=Wi ((s.take i).foldl Wi []) (s.getD i 0):=by
 rw [jB h,List.foldl_append]
 simp [h]
theorem zqY (s:Str): ∀ b:Str,(s.foldl Wi b).length≤b.length+s.length:=by
 induction s with
 |nil=>intro b;simp
 | cons c r ih=>
   intro b;have h:=ih (Wi b c)
   have h2:(Wi b c).length≤b.length+1:=by
    unfold Wi
    repeat' split
    all_goals simp
   rw [List.foldl_cons,jh];omega
theorem zlr (c:UInt8) (k:Nat) (h:k<256):(c.toNat:Int)=(k:Int)↔c=UInt8.ofNat k:=by
 constructor
 · intro e
   rw [← UInt8.toNat_inj,UInt8.toNat_ofNat',Nat.mod_eq_of_lt h];omega
 · intro e
   rw [e,UInt8.toNat_ofNat',Nat.mod_eq_of_lt h]
theorem zqZ (b:Str) (c:UInt8):Wi b c=if(c.toNat:Int)=47 then [] else if(c.toNat:Int)=92 then [] else if(c.toNat:Int)=9 then b++[95] else if zeU (c.toNat:Int)=false then b++[95] else if(c.toNat:Int)=34 then b++[95] else if(c.toNat:Int)=58 then b++[95] else if(c.toNat:Int)=46 then(if(b.length:Int)=0 then b else b++[c]) else b++[c]:=by
 have h0:(b.length:Int)=0↔b=[]:=by rw [← List.length_eq_zero_iff];omega
 have e1:(c.toNat:Int)=47↔c=47:=zlr c 47 (by decide)
 have e2:(c.toNat:Int)=92↔c=92:=zlr c 92 (by decide)
 have e3:(c.toNat:Int)=9↔c=9:=zlr c 9 (by decide)
 have e4:(c.toNat:Int)=34↔c=34:=zlr c 34 (by decide)
 have e5:(c.toNat:Int)=58↔c=58:=zlr c 58 (by decide)
 have e6:(c.toNat:Int)=46↔c=46:=zlr c 46 (by decide)
 simp only [e1,e2,e3,e4,e5,e6,h0];unfold Wi;generalize zeU (c.toNat:Int)=k;clear e1 e2 e3 e4 e5 e6 h0
 repeat' split
 all_goals simp_all
def Qm (I:Alg):KU
 |[.v (.one (.p (.str s)))],[]=>(fun(s:Str)=>(some (.one ⟨I.hid (s.length≤1000000),(.ret (.v (.one (.p (.str (I.hid (zhr s))))))),[]⟩):Option CT)) s
 |_,_=>none
theorem zkG:zx Tryz.prog 300 (Qm alg):=by
 intro args hp r h;unfold Qm at h;split at h<;>cases h
 rename_i s;simp only [CT.Good,zh];intro hneed
 refine spH Tryz.func300 (by kernel_rfl) { nr:=[3],keep:=some [0,2,3,4,5,7,8]} [tV,YA] (by kernel_rfl) ?_
 intro I X hI hX
 refine orcL ?_;go_invoke;refine orcS (by kernel_rfl) ?_
 simp only [zi,Nat.reduceAdd]
 refine lpH hI [tV,YA] hX [0,3,7,8] (fun(g:Nat × Str)=>match g with|(i,b)=>i≤s.length∧b=(s.take i).foldl Wi []) (fun(g:Nat × Str)=>match g with|(i,b)=>⟨[(0,.v (.one (.p (.str s)))),(3,.v (.one (.row 0))),(7,.v (.one (.p (.int .i64 ((I.len (α:=UInt8) s)))))),(8,.v (.one (.p (.int .i64 i))))],[.row .byte 5 b],63,none⟩) (fun(g:Nat × Str)=>match g with|(i,b)=>s.length - i) (0,[]) (by kernel_rfl) (by kernel_rfl) ?_ ?_
 · exact⟨jM _,rfl⟩
 rintro⟨i,b⟩ ⟨h1,h2⟩ A hA;simp only at hA h1 h2
 refine orcL ?_;go_invoke;refine orcS (by kernel_rfl) ?_
 simp only [zi,Nat.reduceAdd];subst hI;simp only [nrmA,nrmB,nrlB,reduceCtorEq];have hs:=znj s i;have hbl:=zqY (s.take i) [];rw [← h2] at hs hbl;rw [jv,ji] at hbl
 have hA2:i<s.length→_:=fun h=>hA (i+1,Wi b (s.getD i 0)) ⟨by simp only;omega,(hs h).symm⟩ (by simp only;omega)
 have l0:=(s.getD i 0).toNat_lt;rw [zqZ] at hA2
 have hend: ¬ i<s.length→s.foldl Wi []=b:=fun h=>by rw [h2,jq (by omega)]
 have hm: ¬ i<s.length→zhr s=if b.take 40=[] then [102,105,108,101] else b.take 40:=fun h=>by unfold zhr;rw [hend h]
 have hn:0<b.length→¬ b.take 40=[]:=fun h k=>by have:=congrArg List.length k;rw [jv,ji] at this;omega
 generalize s.getD i 0=c at *
 (repeat' (first|refine ja ?_ ?_|intro _))<;>first|omega|exact jb|exact jc ‹False›|skip
 all_goals first
  |omega
  |exact⟨by omega,by omega⟩
  |(simp only [jr];omega)
  |(rw [hm (by omega),if_neg (hn (by omega))];first|rfl|exact(jq (by omega)).symm)
  |(rw [hm (by omega),if_pos (by rw [List.eq_nil_of_length_eq_zero (show b.length=0 by omega)];rfl)])
  |(have h:=hA2 (by omega);(repeat(first|rw [if_pos (by first|omega|assumption)] at h|rw [if_neg (by first|omega|assumption|simpa using ‹_=true›)] at h));simp only [Int.natCast_add,Int.natCast_one] at h;exact h)
def zsi:Know Tryz.prog:=⟨300,Qm,zkG⟩
def zsh:Know Tryz.prog:=⟨300,fun I=>zu I (Qm I),zf zkG⟩
def Qp (I:Alg):KU
 |[.v (.one (.p (.str s)))],[]=>(fun(s:Str)=>(some (.one ⟨I.hid (s.length≤140737488355328),(.ret (.v (.one (.p (.bool (I.hid (WX s))))))),[]⟩):Option CT)) s
 |_,_=>none
theorem zkN:zx Tryz.prog 274 (Qp alg):=by
 intro args hp r h;unfold Qp at h;split at h<;>cases h
 rename_i s;simp only [CT.Good,zh];intro hneed
 refine spH Tryz.func274 (by kernel_rfl) { keep:=some [0,2]} [wF,wE,VZ,VY] (by kernel_rfl) ?_
 intro I X hI hX
 refine orcL ?_;go_invoke;refine orcS (by kernel_rfl) ?_
 simp only [zi,Nat.reduceAdd];subst hI;simp only [nrmA,nrmB,nrlB,reduceCtorEq];unfold WX
 have h70:(70<s.length)↔((70:Int)<(s.length:Int)):=by omega
 simp only [h70]
 (repeat' (first|refine ja ?_ ?_|intro _))<;>first|omega|exact jb|exact jc ‹False›|skip
 all_goals first
  |omega
  |(rw [decide_eq_false (by omega),‹Xw s=true›,decide_eq_true ‹Lib.trimS s _=s›];cases s<;>simp)
  |(simp_all;done)
def zkM:Know Tryz.prog:=⟨274,Qp,zkN⟩
def zkL:Know Tryz.prog:=⟨274,fun I=>zu I (Qp I),zf zkN⟩
end Go.Proofs.YtkjepecoodjbmaaGreatDoor
namespace Go.Proofs.YtkjepecoodjbmaaGreatDoor
open Go Go.Sep Go.Ab
def pctM:Str→Option Str
 |[]=>some []
 | c ::r=>
   if c≠37 then(pctM r).map (c:: ·)
   else match r with
    |a::b::r'=>if hexK (a.toNat:Int)<0∨hexK (b.toNat:Int)<0 then none else(pctM r').map (UInt8.ofNat (16 * hexK (a.toNat:Int)+hexK (b.toNat:Int)).toNat:: ·)
    |_=>none
def utfS:Str:=[117,116,102,45,56,39,39]
def extM (s:Str):Option Str:=if s.length<7∨lowS (s.take 7)≠utfS then none else pctM (s.drop 7)
def rC:Str:=[99,111,110,116,101,110,116,45,100,105,115,112,111,115,105,116,105,111,110]
def zkZ:Str:=[99,111,110,116,101,110,116,45,116,121,112,101]
def ztl:Str:=[102,111,114,109,45,100,97,116,97]
def zug:Str:=[110,97,109,101]
def zse:Str:=[102,105,108,101,110,97,109,101]
def zgF:Str:=[102,105,108,101,110,97,109,101,42]
def extV (s:Str):Str:=(extM s).getD []
def extB (s:Str):Bool:=(extM s).isSome
def zt2 (f x:Str × Bool):Str:=if x.2=true then zhr (extV x.1) else if f.2=true then zhr f.1 else []
def partT (t:Str × Int):Str:=if t.2=0 then t.1 else []
def zry (a:Str × Int) (m:Med × Int) (n f x:Str × Bool) (t:Str × Int):Prt × Int:=
 if a.2≠0 then(prt0,a.2)
 else if m.2≠0 then(prt0,m.2)
 else if m.1.word≠ztl then(prt0,11)
 else if n.2=false then(prt0,6)
 else if x.2=true∧extB x.1=false then(prt0,5)
 else if t.2=9 then(prt0,9)
 else(⟨n.1,zt2 f x,partT t,[]⟩,0)
def Zj (l:List Fld):Prt × Int:=
 zry (oneF (valsF l rC)) (xK (oneF (valsF l rC)).1) (getP (xK (oneF (valsF l rC)).1).1.params zug) (getP (xK (oneF (valsF l rC)).1).1.params zse) (getP (xK (oneF (valsF l rC)).1).1.params zgF) (oneF (valsF l zkZ))
def evP (p:Prt):Evt:=⟨5,hd0,[],p,0⟩
def evO:Evt:=⟨6,hd0,[],prt0,0⟩
def xk (f:Fm) (c:Int):Fm:= { f with pos:=8,code:=c,out:=f.out++[evF c]}
def fmSk (f:Fm) (c:UInt8):Fm:= { f with held:=((sZ f.mark f.held.toNat c).2.1:Int)}
def wG (f:Fm):Fm:=
 if(Zj f.fields).2≠0 then xk f (Zj f.fields).2
 else if f.parts=12 then xk f 8
 else fmSk (fmSk { f with parts:=f.parts+1,pos:=6,out:=f.out++[evP (Zj f.fields).1],skip:=2} 13) 10
def uJ (f:Fm) (s:Str):Fm:=
 if s=[] then wG f
 else if f.fields.length=16 then xk f 8
 else if(uq s).2≠0 then xk f (uq s).2
 else { f with fields:=f.fields++[(uq s).1]}
def wB (f:Fm) (c:UInt8):Fm:=
 if f.pos=1∧c=45 then { f with pos:=2}
 else if f.pos=2∧c=45 then { f with pos:=7,out:=f.out++[evE]}
 else if f.pos≠2∧(c=32∨c=9) then { f with pos:=3}
 else if f.pos≠2∧c=13 then { f with pos:=4}
 else xk f 5
def uP (f:Fm) (c:UInt8):Str:=(sZ f.mark f.held.toNat c).1.drop (min f.skip ((sZ f.mark f.held.toNat c).1.length:Int)).toNat
def vI (f:Fm) (c:UInt8):Fm:=
 if(sZ f.mark f.held.toNat c).2.2=false then
  { fmSk f c with skip:=f.skip - min f.skip ((sZ f.mark f.held.toNat c).1.length:Int),out:=if f.pos=6∧uP f c≠[] then f.out++[evB (uP f c)] else f.out}
 else { fmSk f c with pos:=1,skip:=0,out:=if f.pos=6 then(if uP f c≠[] then f.out++[evB (uP f c),evO] else f.out++[evO]) else f.out}
def lnOf (f:Fm):Ln:=match f.ln with|some l=>l|none=>ln0
def fmF (f:Fm) (c:UInt8):Fm:=
 if f.pos=0∨f.pos=6 then vI f c
 else if f.pos=1∨f.pos=2∨f.pos=3 then wB f c
 else if f.pos=4 then(if c≠10 then xk f 2 else { f with pos:=5,ln:=some ln0,fields:=[]})
 else if f.pos=5 then
  if(lnF (lnOf f) c).2.2.2≠0 then xk { f with ln:=some (lnF (lnOf f) c).1} (lnF (lnOf f) c).2.2.2
  else if(lnF (lnOf f) c).2.2.1=true then uJ { f with ln:=some (lnF (lnOf f) c).1} (lnF (lnOf f) c).2.1
  else { f with ln:=some (lnF (lnOf f) c).1}
 else f
def za1 (b:Str):Str:=[13,10,45,45]++b
def fm0 (b:Str):Fm:=fmSk (fmSk ⟨za1 b,0,Si (za1 b),0,none,[],0,0,0,[]⟩ 13) 10
def Vr (f:Fm) (b:Str):Fm:=b.foldl fmF f
def xh (f:Fm) (b:Str):Fm:=Vr { f with out:=[]} b
def sS (f:Fm):Int:=if f.pos=8 then f.code else if f.pos=7 then 0 else 14
def prtS (l:List Prt) (e:Evt):List Prt:=
 if e.kind=5 then l++[e.part]
 else if e.kind=2 then(match l.getLast? with|some p=>l.dropLast++[{ p with bytes:=p.bytes++e.bytes}]|none=>l)
 else l
def Z8 (b x:Str):List Prt × Int:=
 if WX b=false then([],5)
 else if sS (xh (fm0 b) x)≠0 then([],sS (xh (fm0 b) x))
 else((yK (xh (fm0 b) x).out).foldl prtS [],0)
end Go.Proofs.YtkjepecoodjbmaaGreatDoor
namespace Go.Proofs.YtkjepecoodjbmaaGreatDoor
open Go Go.Sep Go.Ab
set_option maxRecDepth 100000
def qf (I:Alg):KU
 |[.v (.one (.p (.str s))),.v (.one (.p (.str p)))],[]=>(fun(s p:Str)=>(some (.one ⟨I.hid (True),(.ret (.v (.one (.p (.bool (I.hid (Lib.hasPrefix s p))))))),[]⟩):Option CT)) s p
 |_,_=>none
theorem Tz:zx Tryz.prog 48 (qf alg):=by
 intro args hp r h;unfold qf at h;split at h<;>cases h
 rename_i s p;simp only [CT.Good,zh];intro _
 refine Spc.of_below ⟨_,Tryz.func48,by kernel_rfl,by kernel_rfl⟩ fun S bs w vs _ hM=> ?_
 obtain⟨v,r,rfl⟩: ∃ v r,vs=v::r:=by cases vs with|nil=>exact hM.elim|cons v r=>exact⟨v,r,rfl⟩
 obtain⟨h1,hM⟩:=hM
 obtain⟨v2,r2,rfl⟩: ∃ v r2,r=v::r2:=by cases r with|nil=>exact hM.elim|cons v r=>exact⟨v,r,rfl⟩
 obtain⟨h2,hM⟩:=hM
 obtain rfl:r2=[]:=by cases r2 with|nil=>rfl|cons v r=>exact hM.elim
 cases h1 with
 | str _ hl1=>
   cases h2 with
   | str _ hl2=>
     refine⟨.bool (Lib.hasPrefix s p),.bool _,(Tryz.strings_HasPrefix (Sep.S s) (Sep.S p) w).mono fun e w' h=> ?_⟩;obtain⟨he,rfl⟩:=h;exact⟨he,Go.RowKit.Below.refl _ _⟩
def xC:Know Tryz.prog:=⟨48,qf,Tz⟩
def xB:Know Tryz.prog:=⟨48,fun I=>zu I (qf I),zf Tz⟩
def ql (I:Alg):KU
 |[.v (.one (.p (.str s))),.v (.one (.p (.str ([c]))))],[]=>(fun(s:Str)=>(some (.one ⟨I.hid (True),(.ret (.v (.one (.p (.bool (I.hid (decide (0≤Lib.indexByte s c)))))))),[]⟩):Option CT)) s
 |_,_=>none
theorem TP:zx Tryz.prog 211 (ql alg):=by
 intro args hp r h;unfold ql at h;split at h<;>cases h
 rename_i s c;simp only [CT.Good,zh];intro _
 refine Spc.of_below ⟨_,Tryz.func211,by kernel_rfl,by kernel_rfl⟩ fun S bs w vs _ hM=> ?_
 obtain⟨v,r,rfl⟩: ∃ v r,vs=v::r:=by cases vs with|nil=>exact hM.elim|cons v r=>exact⟨v,r,rfl⟩
 obtain⟨h1,hM⟩:=hM
 obtain⟨v2,r2,rfl⟩: ∃ v r2,r=v::r2:=by cases r with|nil=>exact hM.elim|cons v r=>exact⟨v,r,rfl⟩
 obtain⟨h2,hM⟩:=hM
 obtain rfl:r2=[]:=by cases r2 with|nil=>rfl|cons v r=>exact hM.elim
 cases h1 with
 | str _ hl1=>
   cases h2 with
   | str _ hl2=>
     refine⟨.bool (decide (0≤Lib.indexByte s c)),.bool _,(Tryz.strings_Contains_one (Sep.S s) c w).mono fun e w' h=> ?_⟩;obtain⟨he,rfl⟩:=h;exact⟨he,Go.RowKit.Below.refl _ _⟩
def TN:Know Tryz.prog:=⟨211,ql,TP⟩
def TM:Know Tryz.prog:=⟨211,fun I=>zu I (ql I),zf TP⟩
end Go.Proofs.YtkjepecoodjbmaaGreatDoor
namespace Go.Proofs.YtkjepecoodjbmaaGreatDoor
open Go Go.Sep Go.Ab
set_option maxRecDepth 100000
theorem zbo (s p:Str):(Lib.trimPrefix s p).length≤s.length:=by
 unfold Lib.trimPrefix
 split
 · simp
 · exact jL _
def qj (I:Alg):KU
 |[.v (.one (.p (.str s))),.v (.one (.p (.str p)))],[]=>(fun(s p:Str)=>(some (.one ⟨I.hid (True),(.ret (.tup [.one (.p (.str (I.hid (Lib.trimPrefix s p)))),.one (.p (.bool (I.hid (Lib.hasPrefix s p))))])),[]⟩):Option CT)) s p
 |_,_=>none
theorem TL:zx Tryz.prog 181 (qj alg):=by
 intro args hp r h;unfold qj at h;split at h<;>cases h
 rename_i s p;simp only [CT.Good,zh];intro _
 refine Spc.of_below ⟨_,Tryz.func181,by kernel_rfl,by kernel_rfl⟩ fun S bs w vs _ hM=> ?_
 obtain⟨v,r,rfl⟩: ∃ v r,vs=v::r:=by cases vs with|nil=>exact hM.elim|cons v r=>exact⟨v,r,rfl⟩
 obtain⟨h1,hM⟩:=hM
 obtain⟨v2,r2,rfl⟩: ∃ v r2,r=v::r2:=by cases r with|nil=>exact hM.elim|cons v r=>exact⟨v,r,rfl⟩
 obtain⟨h2,hM⟩:=hM
 obtain rfl:r2=[]:=by cases r2 with|nil=>rfl|cons v r=>exact hM.elim
 cases h1 with
 | str _ hl1=>
   cases h2 with
   | str _ hl2=>
     refine⟨.tuple #[.string (Sep.S (Lib.trimPrefix s p)),.bool (Lib.hasPrefix s p)],⟨[.string (Sep.S (Lib.trimPrefix s p)),.bool (Lib.hasPrefix s p)],⟨.str _ (Nat.le_trans (zbo _ _) hl1),.bool _,trivial⟩,rfl⟩,(Tryz.strings_CutPrefix (Sep.S s) (Sep.S p) w).mono fun e w' h=> ?_⟩;obtain⟨he,rfl⟩:=h;exact⟨he,Go.RowKit.Below.refl _ _⟩
def TK:Know Tryz.prog:=⟨181,qj,TL⟩
def TJ:Know Tryz.prog:=⟨181,fun I=>zu I (qj I),zf TL⟩
def FOk (f:List Fld):Prop:=f.length≤1000∧∀ x ∈ f,x.name.length≤1000000∧x.value.length≤1000000
def cfgT:Cfg:= { sl:=VW.sl++[⟨170,1000003,.byte,none⟩],fz:=[126]}
def Sv (I:Alg):KU
 |[.v (.one (.p (.int .i64 st))),.v (.one (.p (.list .fld fs)))],[]=>(fun(fs:List Fld)=>(some (.one ⟨I.hid (True),(.pan (.ifc 165 true [.int .i64 st,.list .fld fs,.list .byte (I.hid ([]))])),[]⟩):Option CT)) fs
 |_,_=>none
theorem ziV:zx Tryz.prog 126 (Sv alg):=by
 intro args hp r h;unfold Sv at h;split at h<;>cases h
 rename_i st fs
 revert fs;intro(fs:List Fld)
 simp only [CT.Good,zh];intro _
 refine spH Tryz.func126 (by kernel_rfl) { keep:=some [0,1]} [] (by kernel_rfl) ?_
 intro I X hI hX
 refine orcL ?_;go_invoke;refine orcS (by kernel_rfl) ?_
 simp only [zi,Nat.reduceAdd]
 try trivial
def zS:Know Tryz.prog:=⟨126,Sv,ziV⟩
def zQ:Know Tryz.prog:=⟨126,fun I=>zu I (Sv I),zf ziV⟩
def X0 (I:Alg):KU
 |[.v (.one (.p (.str n))),.v (.one (.p (.str v)))],[]=>(fun(n v:Str)=>(some (.one ⟨I.hid (True),(.ret (.v (.agg [.p (.str n),.p (.str v)]))),[]⟩):Option CT)) n v
 |_,_=>none
theorem zeJ:zx Tryz.prog 87 (X0 alg):=by
 intro args hp r h;unfold X0 at h;split at h<;>cases h
 rename_i n v;simp only [CT.Good,zh];intro _
 refine spH Tryz.func87 (by kernel_rfl) { keep:=some [0,1,4]} [] (by kernel_rfl) ?_
 intro I X hI hX
 refine orcL ?_;go_invoke;refine orcS (by kernel_rfl) ?_
 simp only [zi,Nat.reduceAdd]
 try trivial
def yB:Know Tryz.prog:=⟨87,X0,zeJ⟩
def yA:Know Tryz.prog:=⟨87,fun I=>zu I (X0 I),zf zeJ⟩
def zc8 (I:Alg):KU
 |[.v (.one (.p (.int .i64 n)))],[]=>some (.one ⟨I.hid (0≤n∧n<1000000000),(.ret (.v (.one (.p (.str (I.hid (decS n))))))),[]⟩)
 |_,_=>none
theorem zmU:zx Tryz.prog 127 (zc8 alg):=by
 intro args hp r h;unfold zc8 at h;split at h<;>cases h
 rename_i n;simp only [CT.Good,zh];intro hneed
 refine spH Tryz.func127 (by kernel_rfl) { keep:=some [0,2]} [qC,qB] (by kernel_rfl) ?_
 intro I X hI hX
 refine orcL ?_;go_invoke;refine orcS (by kernel_rfl) ?_
 simp only [zi,Nat.reduceAdd];subst hI;simp only [nrmA,nrmB]
 first|exact hneed|exact⟨hneed,trivial⟩|trace_state
def xX:Know Tryz.prog:=⟨127,zc8,zmU⟩
def xW:Know Tryz.prog:=⟨127,fun I=>zu I (zc8 I),zf zmU⟩
theorem zvq (m t:Str) (mi:Int) (f:List Fld) (le:Int) (l:List Upl) (n:Int) (b:Str) (s:Int) (nm:Str) (hneed:(FOk f∧nm.length≤1000000)∧¬ (oneT f nm).2=9):Spc Tryz.prog 128 [.v (.one (.ptr 0 0)),.v (.one (.p (.str nm)))] [.obj 170 [.ptr 1 0,.p (.str m),.p (.str t),.p (.int .i64 mi),.p (.list .fld f),.p (.int .i64 le)],.pack [.obj 54 [.ptr 1 0,.ptr 2 0],.pack [.obj 124 [.row 1,.p (.int .i64 n)],.row .upl 81 l],.pack [.obj 156 [.row 1,.p (.int .i64 s)],.row .byte 5 b]]] (.ret (.tup [.one (.p (.str ((oneT f nm).1))),.one (.p (.bool (decide ((oneT f nm).2=0))))])) [.obj 170 [.ptr 1 0,.p (.str m),.p (.str t),.p (.int .i64 mi),.p (.list .fld f),.p (.int .i64 le)],.pack [.obj 54 [.ptr 1 0,.ptr 2 0],.pack [.obj 124 [.row 1,.p (.int .i64 n)],.row .upl 81 l],.pack [.obj 156 [.row 1,.p (.int .i64 s)],.row .byte 5 b]]]:=by
 obtain⟨⟨hf,hn⟩,h9⟩:=hneed
 refine spH Tryz.func128 (by kernel_rfl) { cfgT with keep:=some [0,1,4,5,6,7]} [Yp,Yo,zS,zQ] (by kernel_rfl) ?_
 intro I X hI hX
 refine orcL ?_;go_invoke;refine orcS (by kernel_rfl) ?_
 simp only [zi,Nat.reduceAdd];subst hI;unfold oneT at *;simp only [nrmA,nrmB,nrlB,reduceCtorEq]
 (repeat' (first|refine ja ?_ ?_|intro _))<;>first|omega|exact jb|exact jc ‹False›|skip
 all_goals first|exact hf.1|exact hn|exact hf.2|(exact(hf.2 _ ‹_›).1)|(exact(hf.2 _ ‹_›).2)|rfl|(exact⟨hf.1,hn,hf.2⟩)|(exfalso;exact h9 ‹_›)|(simp_all;done)|trace_state
theorem zvp (m t:Str) (mi:Int) (f:List Fld) (le:Int) (l:List Upl) (n:Int) (b:Str) (s:Int) (nm:Str) (hneed:(FOk f∧nm.length≤1000000)∧(oneT f nm).2=9):Spc Tryz.prog 128 [.v (.one (.ptr 0 0)),.v (.one (.p (.str nm)))] [.obj 170 [.ptr 1 0,.p (.str m),.p (.str t),.p (.int .i64 mi),.p (.list .fld f),.p (.int .i64 le)],.pack [.obj 54 [.ptr 1 0,.ptr 2 0],.pack [.obj 124 [.row 1,.p (.int .i64 n)],.row .upl 81 l],.pack [.obj 156 [.row 1,.p (.int .i64 s)],.row .byte 5 b]]] (.pan (.ifc 165 true [.int .i64 400,.list .fld ([]),.list .byte ([])])) [.obj 170 [.ptr 1 0,.p (.str m),.p (.str t),.p (.int .i64 mi),.p (.list .fld f),.p (.int .i64 le)],.pack [.obj 54 [.ptr 1 0,.ptr 2 0],.pack [.obj 124 [.row 1,.p (.int .i64 n)],.row .upl 81 l],.pack [.obj 156 [.row 1,.p (.int .i64 s)],.row .byte 5 b]]]:=by
 obtain⟨⟨hf,hn⟩,h9⟩:=hneed
 refine spH Tryz.func128 (by kernel_rfl) { cfgT with keep:=some [0,1,4,5,6,7]} [Yp,Yo,zS,zQ] (by kernel_rfl) ?_
 intro I X hI hX
 refine orcL ?_;go_invoke;refine orcS (by kernel_rfl) ?_
 simp only [zi,Nat.reduceAdd];subst hI;unfold oneT at *;simp only [nrmA,nrmB,nrlB,reduceCtorEq]
 (repeat' (first|refine ja ?_ ?_|intro _))<;>first|omega|exact jb|exact jc ‹False›|skip
 all_goals first|exact hf.1|exact hn|exact hf.2|(exact(hf.2 _ ‹_›).1)|(exact(hf.2 _ ‹_›).2)|rfl|(exact⟨hf.1,hn,hf.2⟩)|(exfalso;contradiction)|(simp_all;done)|trace_state
def zc7 (I:Alg):KU
 |[.v (.one (.ptr 0 0)),.v (.one (.p (.str nm)))],[.obj 170 [.ptr 1 0,.p (.str m),.p (.str t),.p (.int .i64 mi),.p (.list .fld f),.p (.int .i64 le)],.pack [.obj 54 [.ptr 1 0,.ptr 2 0],.pack [.obj 124 [.row 1,.p (.int .i64 n)],.row .upl 81 l],.pack [.obj 156 [.row 1,.p (.int .i64 s)],.row .byte 5 b]]]=>(fun(m t:Str) (f:List Fld) (l:List Upl) (b nm:Str)=>(some (.br (I.hid (decide ((oneT f nm).2=9))) (.one ⟨I.hid ((FOk f∧nm.length≤1000000)∧(oneT f nm).2=9),(.pan (.ifc 165 true [.int .i64 400,.list .fld (I.hid ([])),.list .byte (I.hid ([]))])),[.obj 170 [.ptr 1 0,.p (.str m),.p (.str t),.p (.int .i64 mi),.p (.list .fld f),.p (.int .i64 le)],.pack [.obj 54 [.ptr 1 0,.ptr 2 0],.pack [.obj 124 [.row 1,.p (.int .i64 n)],.row .upl 81 l],.pack [.obj 156 [.row 1,.p (.int .i64 s)],.row .byte 5 b]]]⟩) (.one ⟨I.hid ((FOk f∧nm.length≤1000000)∧¬ (oneT f nm).2=9),(.ret (.tup [.one (.p (.str (I.hid ((oneT f nm).1)))),.one (.p (.bool (I.hid (decide ((oneT f nm).2=0)))))])),[.obj 170 [.ptr 1 0,.p (.str m),.p (.str t),.p (.int .i64 mi),.p (.list .fld f),.p (.int .i64 le)],.pack [.obj 54 [.ptr 1 0,.ptr 2 0],.pack [.obj 124 [.row 1,.p (.int .i64 n)],.row .upl 81 l],.pack [.obj 156 [.row 1,.p (.int .i64 s)],.row .byte 5 b]]]⟩)):Option CT)) m t f l b nm
 |_,_=>none
theorem zmT:zx Tryz.prog 128 (zc7 alg):=by
 intro args hp r h;unfold zc7 at h
 split at h
 · cases h;exact⟨fun _ hn=>zvp _ _ _ _ _ _ _ _ _ _ hn,fun _ hn=>zvq _ _ _ _ _ _ _ _ _ _ hn⟩
 · cases h
def xU:Know Tryz.prog:=⟨128,zc7,zmT⟩
def xR:Know Tryz.prog:=⟨128,fun I=>zu I (zc7 I),zf zmT⟩
end Go.Proofs.YtkjepecoodjbmaaGreatDoor
namespace Go.Proofs.YtkjepecoodjbmaaGreatDoor
open Go Go.Sep Go.Ab
set_option maxRecDepth 100000
theorem qO (f:List Fld) (n:Str):(oneT f n).2=0∨(oneT f n).2=9∨(oneT f n).2=10:=by
 unfold oneT oneF
 repeat' split
 all_goals simp
theorem ztL (m t:Str) (mi:Int) (f:List Fld) (le:Int) (l:List Upl) (n:Int) (b:Str) (s:Int) (nm:Str) (hneed:(FOk f∧nm.length≤1000000)∧Xm f nm=true):Spc Tryz.prog 178 [.v (.one (.ptr 0 0)),.v (.one (.p (.str nm)))] [.obj 170 [.ptr 1 0,.p (.str m),.p (.str t),.p (.int .i64 mi),.p (.list .fld f),.p (.int .i64 le)],.pack [.obj 54 [.ptr 1 0,.ptr 2 0],.pack [.obj 124 [.row 1,.p (.int .i64 n)],.row .upl 81 l],.pack [.obj 156 [.row 1,.p (.int .i64 s)],.row .byte 5 b]]] (.ret (.v (.one (.p (.int .i64 ((zN f nm))))))) [.obj 170 [.ptr 1 0,.p (.str m),.p (.str t),.p (.int .i64 mi),.p (.list .fld f),.p (.int .i64 le)],.pack [.obj 54 [.ptr 1 0,.ptr 2 0],.pack [.obj 124 [.row 1,.p (.int .i64 n)],.row .upl 81 l],.pack [.obj 156 [.row 1,.p (.int .i64 s)],.row .byte 5 b]]]:=by
 obtain⟨⟨hf,hn⟩,h9⟩:=hneed;have hcd:=qO f nm
 refine spH Tryz.func178 (by kernel_rfl) { cfgT with keep:=some [0,1,4,5,6,7]} [sD,su,zS,zQ,xU,xR] (by kernel_rfl) ?_
 intro I X hI hX
 refine orcL ?_;go_invoke;refine orcS (by kernel_rfl) ?_
 simp only [zi,Nat.reduceAdd];subst hI;unfold Xm at h9;unfold zN;simp only [nrmA,nrmB,nrlB,reduceCtorEq]
 (repeat' (first|refine ja ?_ ?_|intro _))<;>first|omega|exact jb|exact jc ‹False›|skip
 all_goals first|omega|assumption|(exact hf)|exact hf.1|(exact(hf.2 _ ‹_›).1)|(exact(hf.2 _ ‹_›).2)|(exact⟨hf,by decide⟩)|(exact⟨⟨hf,by decide⟩,‹_›⟩)|(exfalso;simp_all;done)|(simp_all;done)|(simp_all;omega)|(rcases hcd with h|h|h<;>simp_all;done)|trace_state
theorem ztK (m t:Str) (mi:Int) (f:List Fld) (le:Int) (l:List Upl) (n:Int) (b:Str) (s:Int) (nm:Str) (hneed:(FOk f∧nm.length≤1000000)∧Xm f nm=false):Spc Tryz.prog 178 [.v (.one (.ptr 0 0)),.v (.one (.p (.str nm)))] [.obj 170 [.ptr 1 0,.p (.str m),.p (.str t),.p (.int .i64 mi),.p (.list .fld f),.p (.int .i64 le)],.pack [.obj 54 [.ptr 1 0,.ptr 2 0],.pack [.obj 124 [.row 1,.p (.int .i64 n)],.row .upl 81 l],.pack [.obj 156 [.row 1,.p (.int .i64 s)],.row .byte 5 b]]] (.pan (.ifc 165 true [.int .i64 400,.list .fld ([]),.list .byte ([])])) [.obj 170 [.ptr 1 0,.p (.str m),.p (.str t),.p (.int .i64 mi),.p (.list .fld f),.p (.int .i64 le)],.pack [.obj 54 [.ptr 1 0,.ptr 2 0],.pack [.obj 124 [.row 1,.p (.int .i64 n)],.row .upl 81 l],.pack [.obj 156 [.row 1,.p (.int .i64 s)],.row .byte 5 b]]]:=by
 obtain⟨⟨hf,hn⟩,h9⟩:=hneed;have hcd:=qO f nm
 refine spH Tryz.func178 (by kernel_rfl) { cfgT with keep:=some [0,1,4,5,6,7]} [sD,su,zS,zQ,xU,xR] (by kernel_rfl) ?_
 intro I X hI hX
 refine orcL ?_;go_invoke;refine orcS (by kernel_rfl) ?_
 simp only [zi,Nat.reduceAdd];subst hI;unfold Xm at h9;simp only [nrmA,nrmB,nrlB,reduceCtorEq]
 (repeat' (first|refine ja ?_ ?_|intro _))<;>first|omega|exact jb|exact jc ‹False›|skip
 all_goals first|omega|assumption|(exact hf)|exact hf.1|(exact(hf.2 _ ‹_›).1)|(exact(hf.2 _ ‹_›).2)|(exact⟨hf,by decide⟩)|(exact⟨⟨hf,by decide⟩,‹_›⟩)|(exfalso;simp_all;done)|(simp_all;done)|(simp_all;omega)|(rcases hcd with h|h|h<;>simp_all;done)|trace_state
def SA (I:Alg):KU
 |[.v (.one (.ptr 0 0)),.v (.one (.p (.str nm)))],[.obj 170 [.ptr 1 0,.p (.str m),.p (.str t),.p (.int .i64 mi),.p (.list .fld f),.p (.int .i64 le)],.pack [.obj 54 [.ptr 1 0,.ptr 2 0],.pack [.obj 124 [.row 1,.p (.int .i64 n)],.row .upl 81 l],.pack [.obj 156 [.row 1,.p (.int .i64 s)],.row .byte 5 b]]]=>(fun(m t:Str) (f:List Fld) (l:List Upl) (b nm:Str)=>(some (.br (I.hid (Xm f nm)) (.one ⟨I.hid ((FOk f∧nm.length≤1000000)∧Xm f nm=true),(.ret (.v (.one (.p (.int .i64 (I.hid (zN f nm))))))),[.obj 170 [.ptr 1 0,.p (.str m),.p (.str t),.p (.int .i64 mi),.p (.list .fld f),.p (.int .i64 le)],.pack [.obj 54 [.ptr 1 0,.ptr 2 0],.pack [.obj 124 [.row 1,.p (.int .i64 n)],.row .upl 81 l],.pack [.obj 156 [.row 1,.p (.int .i64 s)],.row .byte 5 b]]]⟩) (.one ⟨I.hid ((FOk f∧nm.length≤1000000)∧Xm f nm=false),(.pan (.ifc 165 true [.int .i64 400,.list .fld (I.hid ([])),.list .byte (I.hid ([]))])),[.obj 170 [.ptr 1 0,.p (.str m),.p (.str t),.p (.int .i64 mi),.p (.list .fld f),.p (.int .i64 le)],.pack [.obj 54 [.ptr 1 0,.ptr 2 0],.pack [.obj 124 [.row 1,.p (.int .i64 n)],.row .upl 81 l],.pack [.obj 156 [.row 1,.p (.int .i64 s)],.row .byte 5 b]]]⟩)):Option CT)) m t f l b nm
 |_,_=>none
theorem ziX:zx Tryz.prog 178 (SA alg):=by
 intro args hp r h;unfold SA at h
 split at h
 · cases h;exact⟨fun _ hn=>ztL _ _ _ _ _ _ _ _ _ _ hn,fun _ hn=>ztK _ _ _ _ _ _ _ _ _ _ hn⟩
 · cases h
def uZ:Know Tryz.prog:=⟨178,SA,ziX⟩
def uY:Know Tryz.prog:=⟨178,fun I=>zu I (SA I),zf ziX⟩
theorem zqK (m t:Str) (mi:Int) (f:List Fld) (le:Int) (l:List Upl) (n:Int) (b:Str) (s:Int) (hneed:FOk f∧Vd f=true):Spc Tryz.prog 179 [.v (.one (.ptr 0 0))] [.obj 170 [.ptr 1 0,.p (.str m),.p (.str t),.p (.int .i64 mi),.p (.list .fld f),.p (.int .i64 le)],.pack [.obj 54 [.ptr 1 0,.ptr 2 0],.pack [.obj 124 [.row 1,.p (.int .i64 n)],.row .upl 81 l],.pack [.obj 156 [.row 1,.p (.int .i64 s)],.row .byte 5 b]]] (.ret (.v (.one (.p (.bool ((zfE f))))))) [.obj 170 [.ptr 1 0,.p (.str m),.p (.str t),.p (.int .i64 mi),.p (.list .fld f),.p (.int .i64 le)],.pack [.obj 54 [.ptr 1 0,.ptr 2 0],.pack [.obj 124 [.row 1,.p (.int .i64 n)],.row .upl 81 l],.pack [.obj 156 [.row 1,.p (.int .i64 s)],.row .byte 5 b]]]:=by
 obtain⟨hf,h9⟩:=hneed;have hcd:=qO f QK;unfold QK at hcd
 refine spH Tryz.func179 (by kernel_rfl) { cfgT with keep:=some [0,2,3,4]} [zS,zQ,xU,xR] (by kernel_rfl) ?_
 intro I X hI hX
 refine orcL ?_;go_invoke;refine orcS (by kernel_rfl) ?_
 simp only [zi,Nat.reduceAdd];subst hI;unfold Vd QK at h9;unfold zfE QK;simp only [nrmA,nrmB,nrlB,reduceCtorEq]
 (repeat' (first|refine ja ?_ ?_|intro _))<;>first|omega|exact jb|exact jc ‹False›|skip
 all_goals first|omega|assumption|(exact hf)|exact hf.1|(exact(hf.2 _ ‹_›).1)|(exact(hf.2 _ ‹_›).2)|(exact⟨hf,by decide⟩)|(exact⟨⟨hf,by decide⟩,‹_›⟩)|(exfalso;simp_all;done)|(simp_all;done)|(simp_all;omega)|(rcases hcd with h|h|h<;>simp_all;done)|trace_state
theorem zqJ (m t:Str) (mi:Int) (f:List Fld) (le:Int) (l:List Upl) (n:Int) (b:Str) (s:Int) (hneed:FOk f∧Vd f=false):Spc Tryz.prog 179 [.v (.one (.ptr 0 0))] [.obj 170 [.ptr 1 0,.p (.str m),.p (.str t),.p (.int .i64 mi),.p (.list .fld f),.p (.int .i64 le)],.pack [.obj 54 [.ptr 1 0,.ptr 2 0],.pack [.obj 124 [.row 1,.p (.int .i64 n)],.row .upl 81 l],.pack [.obj 156 [.row 1,.p (.int .i64 s)],.row .byte 5 b]]] (.pan (.ifc 165 true [.int .i64 400,.list .fld ([]),.list .byte ([])])) [.obj 170 [.ptr 1 0,.p (.str m),.p (.str t),.p (.int .i64 mi),.p (.list .fld f),.p (.int .i64 le)],.pack [.obj 54 [.ptr 1 0,.ptr 2 0],.pack [.obj 124 [.row 1,.p (.int .i64 n)],.row .upl 81 l],.pack [.obj 156 [.row 1,.p (.int .i64 s)],.row .byte 5 b]]]:=by
 obtain⟨hf,h9⟩:=hneed;have hcd:=qO f QK;unfold QK at hcd
 refine spH Tryz.func179 (by kernel_rfl) { cfgT with keep:=some [0,2,3,4]} [zS,zQ,xU,xR] (by kernel_rfl) ?_
 intro I X hI hX
 refine orcL ?_;go_invoke;refine orcS (by kernel_rfl) ?_
 simp only [zi,Nat.reduceAdd];subst hI;unfold Vd QK at h9;simp only [nrmA,nrmB,nrlB,reduceCtorEq]
 (repeat' (first|refine ja ?_ ?_|intro _))<;>first|omega|exact jb|exact jc ‹False›|skip
 all_goals first|omega|assumption|(exact hf)|exact hf.1|(exact(hf.2 _ ‹_›).1)|(exact(hf.2 _ ‹_›).2)|(exact⟨hf,by decide⟩)|(exact⟨⟨hf,by decide⟩,‹_›⟩)|(exfalso;simp_all;done)|(simp_all;done)|(simp_all;omega)|(rcases hcd with h|h|h<;>simp_all;done)|trace_state
def XZ (I:Alg):KU
 |[.v (.one (.ptr 0 0))],[.obj 170 [.ptr 1 0,.p (.str m),.p (.str t),.p (.int .i64 mi),.p (.list .fld f),.p (.int .i64 le)],.pack [.obj 54 [.ptr 1 0,.ptr 2 0],.pack [.obj 124 [.row 1,.p (.int .i64 n)],.row .upl 81 l],.pack [.obj 156 [.row 1,.p (.int .i64 s)],.row .byte 5 b]]]=>(fun(m t:Str) (f:List Fld) (l:List Upl) (b:Str)=>(some (.br (I.hid (Vd f)) (.one ⟨I.hid (FOk f∧Vd f=true),(.ret (.v (.one (.p (.bool (I.hid (zfE f))))))),[.obj 170 [.ptr 1 0,.p (.str m),.p (.str t),.p (.int .i64 mi),.p (.list .fld f),.p (.int .i64 le)],.pack [.obj 54 [.ptr 1 0,.ptr 2 0],.pack [.obj 124 [.row 1,.p (.int .i64 n)],.row .upl 81 l],.pack [.obj 156 [.row 1,.p (.int .i64 s)],.row .byte 5 b]]]⟩) (.one ⟨I.hid (FOk f∧Vd f=false),(.pan (.ifc 165 true [.int .i64 400,.list .fld (I.hid ([])),.list .byte (I.hid ([]))])),[.obj 170 [.ptr 1 0,.p (.str m),.p (.str t),.p (.int .i64 mi),.p (.list .fld f),.p (.int .i64 le)],.pack [.obj 54 [.ptr 1 0,.ptr 2 0],.pack [.obj 124 [.row 1,.p (.int .i64 n)],.row .upl 81 l],.pack [.obj 156 [.row 1,.p (.int .i64 s)],.row .byte 5 b]]]⟩)):Option CT)) m t f l b
 |_,_=>none
theorem zeI:zx Tryz.prog 179 (XZ alg):=by
 intro args hp r h;unfold XZ at h
 split at h
 · cases h;exact⟨fun _ hn=>zqK _ _ _ _ _ _ _ _ _ hn,fun _ hn=>zqJ _ _ _ _ _ _ _ _ _ hn⟩
 · cases h
def zmX:Know Tryz.prog:=⟨179,XZ,zeI⟩
def zmW:Know Tryz.prog:=⟨179,fun I=>zu I (XZ I),zf zeI⟩
theorem zvo (c:Int) (hneed:c=0):Spc Tryz.prog 133 [.v (.one (.p (.int .i64 c)))] [] (.ret (.tup [])) []:=by
 refine spH Tryz.func133 (by kernel_rfl) { keep:=some [0,2,9,16]} [zS,zQ] (by kernel_rfl) ?_
 intro I X hI hX
 refine orcL ?_;go_invoke;refine orcS (by kernel_rfl) ?_
 simp only [zi,Nat.reduceAdd];subst hI;simp only [nrmA,nrmB,nrlB,reduceCtorEq]
 (repeat' (first|refine ja ?_ ?_|intro _))<;>first|omega|exact jb|exact jc ‹False›|skip
 all_goals first|omega|(simp_all;done)|trace_state
theorem zvn (c:Int) (hneed: ¬ c=0):Spc Tryz.prog 133 [.v (.one (.p (.int .i64 c)))] [] (.pan (.ifc 165 true [.int .i64 ((X6 c)),.list .fld ([]),.list .byte ([])])) []:=by
 generalize hr:X6 c=r;unfold X6 at hr
 refine spH Tryz.func133 (by kernel_rfl) { keep:=some [0,2,9,16]} [zS,zQ] (by kernel_rfl) ?_
 intro I X hI hX
 refine orcL ?_;go_invoke;refine orcS (by kernel_rfl) ?_
 simp only [zi,Nat.reduceAdd];subst hI;simp only [nrmA,nrmB,nrlB,reduceCtorEq]
 (repeat' (first|refine ja ?_ ?_|intro _))<;>first|omega|exact jb|exact jc ‹False›|skip
 all_goals first|omega|(((repeat(first|rewrite [if_pos (by first|omega|assumption|(simp only [*,or_self,or_true,true_or,or_false,false_or,jf,jg,jd,je,and_self,and_true,true_and];done)|(simp only [*];omega)|(simp [*];done)|(simp [*];omega))] at hr|rewrite [if_neg (by first|omega|assumption|(simp only [*,or_self,or_true,true_or,or_false,false_or,jf,jg,jd,je,and_self,and_true,true_and];done)|(simp only [*];omega)|(simp [*];done)|(simp [*];omega))] at hr)));omega)|(simp_all;done)|trace_state
def zc6 (I:Alg):KU
 |[.v (.one (.p (.int .i64 c)))],[]=>some (.br (I.hid (decide (c=0))) (.one ⟨I.hid (c=0),(.ret (.tup [])),[]⟩) (.one ⟨I.hid (¬ c=0),(.pan (.ifc 165 true [.int .i64 (I.hid (X6 c)),.list .fld (I.hid ([])),.list .byte (I.hid ([]))])),[]⟩))
 |_,_=>none
theorem zmS:zx Tryz.prog 133 (zc6 alg):=by
 intro args hp r h;unfold zc6 at h
 split at h
 · cases h;exact⟨fun _ hn=>zvo _ hn,fun _ hn=>zvn _ hn⟩
 · cases h
def vw:Know Tryz.prog:=⟨133,zc6,zmS⟩
def vk:Know Tryz.prog:=⟨133,fun I=>zu I (zc6 I),zf zmS⟩
def zc9 (I:Alg):KU
 |[.v (.agg [.p (.int .i64 id),.p (.int .i64 sz),.p (.str no),.p (.list .byte bb),.p (.int .i64 se)])],[]=>(fun(no bb:Str)=>(some (.one ⟨I.hid (sz<1000000000),(.ret (.v (.agg [.p (.str (I.hid ((lenF ⟨id,sz,no,bb,se⟩).name))),.p (.str (I.hid ((lenF ⟨id,sz,no,bb,se⟩).value)))]))),[]⟩):Option CT)) no bb
 |_,_=>none
theorem zmV:zx Tryz.prog 183 (zc9 alg):=by
 intro args hp r h;unfold zc9 at h;split at h<;>cases h
 rename_i id sz no bb se;simp only [CT.Good,zh];intro hneed;generalize hr:lenF ⟨id,sz,no,bb,se⟩=r;obtain⟨a,v⟩:=r;unfold lenF at hr
 refine spH Tryz.func183 (by kernel_rfl) { keep:=some [0,1,2]} [yB,yA,xX,xW] (by kernel_rfl) ?_
 intro I X hI hX
 refine orcL ?_;go_invoke;refine orcS (by kernel_rfl) ?_
 simp only [zi,Nat.reduceAdd];subst hI;simp only [nrmA,nrmB,nrlB,reduceCtorEq,V0.agg.injEq];simp only at hr
 (repeat' (first|refine ja ?_ ?_|intro _))<;>first|omega|exact jb|exact jc ‹False›|skip
 all_goals first|omega|(((repeat(first|rewrite [if_pos (by first|omega|assumption|(simp only [*,or_self,or_true,true_or,or_false,false_or,jf,jg,jd,je,and_self,and_true,true_and];done)|(simp only [*];omega)|(simp [*];done)|(simp [*];omega))] at hr|rewrite [if_neg (by first|omega|assumption|(simp only [*,or_self,or_true,true_or,or_false,false_or,jf,jg,jd,je,and_self,and_true,true_and];done)|(simp only [*];omega)|(simp [*];done)|(simp [*];omega))] at hr)));cases hr;rfl)|(((repeat(first|rewrite [if_pos (by first|omega|assumption|(simp only [*,or_self,or_true,true_or,or_false,false_or,jf,jg,jd,je,and_self,and_true,true_and];done)|(simp only [*];omega)|(simp [*];done)|(simp [*];omega))] at hr|rewrite [if_neg (by first|omega|assumption|(simp only [*,or_self,or_true,true_or,or_false,false_or,jf,jg,jd,je,and_self,and_true,true_and];done)|(simp only [*];omega)|(simp [*];done)|(simp [*];omega))] at hr)));cases hr;simp [zvd,zve];done)|(simp_all;done)|trace_state
def ztN:Know Tryz.prog:=⟨183,zc9,zmV⟩
def ztM:Know Tryz.prog:=⟨183,fun I=>zu I (zc9 I),zf zmV⟩
end Go.Proofs.YtkjepecoodjbmaaGreatDoor
namespace Go.Proofs.YtkjepecoodjbmaaGreatDoor
open Go Go.Sep Go.Ab
set_option maxRecDepth 100000
theorem zdF {f:List Fld} (hf:FOk f) (n:Str):(oneT f n).1.length≤1000000:=by
 unfold oneT oneF
 split
 · simp
 · split
   · rename_i h
     rw [jH]
     cases hq:(valsF f n)[0]? with
     |none=>simp
     | some y=>
       have:=List.mem_of_getElem? hq;unfold valsF at this;rw [List.mem_map] at this;obtain⟨x,hx,rfl⟩:=this;exact(hf.2 x (List.mem_filter.1 hx).1).2
   · simp
def YD (I:Alg):KU
 |[.v (.one (.ptr 0 0))],[.obj 170 [.ptr 1 0,.p (.str m),.p (.str t),.p (.int .i64 mi),.p (.list .fld f),.p (.int .i64 le)],.pack [.obj 54 [.ptr 1 0,.ptr 2 0],.pack [.obj 124 [.row 1,.p (.int .i64 n)],.row .upl 81 l],.pack [.obj 156 [.row 1,.p (.int .i64 s)],.row .byte 5 b]]]=>(fun(m t:Str) (f:List Fld) (l:List Upl) (b:Str)=>(some (.one ⟨I.hid (FOk f∧zJ l n∧n≤200000∧b.length≤100000),(.pan (.ifc 165 true [.int .i64 (I.hid ((xA ⟨l,n,b,s⟩ f).st)),.list .fld (I.hid ((xA ⟨l,n,b,s⟩ f).fs)),.list .byte (I.hid ([]))])),[.obj 170 [.ptr 1 0,.p (.str m),.p (.str t),.p (.int .i64 mi),.p (.list .fld f),.p (.int .i64 le)],.pack [.obj 54 [.ptr 1 0,.ptr 2 0],.pack [.obj 124 [.row 1,.p (.int .i64 (I.hid ((xA ⟨l,n,b,s⟩ f).q.n)))],.row .upl 81 (I.hid ((xA ⟨l,n,b,s⟩ f).q.l))],.pack [.obj 156 [.row 1,.p (.int .i64 (I.hid ((xA ⟨l,n,b,s⟩ f).q.s)))],.row .byte 5 (I.hid ((xA ⟨l,n,b,s⟩ f).q.b))]]]⟩):Option CT)) m t f l b
 |_,_=>none
set_option maxHeartbeats 2000000 in
theorem zbF:zx Tryz.prog 129 (YD alg):=by
 intro args hp r h;unfold YD at h;split at h<;>cases h
 rename_i m t mi f le n l s b
 revert f l;intro(f:List Fld) (l:List Upl)
 simp only [CT.Good,zh];intro hneed;obtain⟨hf,hs,hn,hb⟩:=hneed;have hn0:=hs.n0;have hdl:=wL (n+1);have hcm:=qO f zhd;have hol:=zdF hf zhd;generalize hr:xA ⟨l,n,b,s⟩ f=r;obtain⟨st,fs,⟨l',n',b',s'⟩⟩:=r;unfold xA creE wsC wsS syS at hr
 refine spH Tryz.func129 (by kernel_rfl) { cfgT with keep:=some [0,2,3,4,6,7]} [U3,U2,zL,zK,zS,zQ,yB,yA,xX,xW,xU,xR,uZ,uY,zmX,zmW,vw,vk] (by kernel_rfl) ?_
 intro I X hI hX
 refine orcL ?_;go_invoke;refine orcS (by kernel_rfl) ?_
 simp only [zi,Nat.reduceAdd];subst hI;unfold yL zhd at *;unfold locN wU at hr;simp only at hr;simp only [nrmA,nrmB,nrlB,reduceCtorEq,HO.pack.injEq,HO.obj.injEq]
 by_cases h1:Xm f [117,112,108,111,97,100,45,108,101,110,103,116,104]=false
 · rw [if_pos h1] at hr
   cases hr
   (repeat' (first|refine ja ?_ ?_|intro _))<;>first|omega|exact jb|exact jc ‹False›|skip
   all_goals first
    |omega
    |assumption
    |exact hs
    |exact hf.1
    |(exact(hf.2 _ ‹_›).1)
    |(exact(hf.2 _ ‹_›).2)
    |(simp only [jh,ji];omega)
    |(simp_all;done)
    |(exfalso;simp_all;done)
    |(simp only [wrtL,wrtN,wrtB,if_neg h5];done)
 rw [if_neg h1] at hr;simp only [Bool.not_eq_false] at h1
 by_cases h2:Vd f=false
 · rw [if_pos h2] at hr
   cases hr
   (repeat' (first|refine ja ?_ ?_|intro _))<;>first|omega|exact jb|exact jc ‹False›|skip
   all_goals first
    |omega
    |assumption
    |exact hs
    |exact hf.1
    |(exact(hf.2 _ ‹_›).1)
    |(exact(hf.2 _ ‹_›).2)
    |(simp only [jh,ji];omega)
    |(simp_all;done)
    |(exfalso;simp_all;done)
    |(simp only [wrtL,wrtN,wrtB,if_neg h5];done)
 rw [if_neg h2] at hr;simp only [Bool.not_eq_false] at h2
 by_cases h3:decide (0≤zN f [117,112,108,111,97,100,45,108,101,110,103,116,104])=zfE f
 · rw [if_pos h3] at hr
   cases hr
   (repeat' (first|refine ja ?_ ?_|intro _))<;>first|omega|exact jb|exact jc ‹False›|skip
   all_goals first
    |omega
    |assumption
    |exact hs
    |exact hf.1
    |(exact(hf.2 _ ‹_›).1)
    |(exact(hf.2 _ ‹_›).2)
    |(simp only [jh,ji];omega)
    |(simp_all;done)
    |(exfalso;simp_all;done)
    |(simp only [wrtL,wrtN,wrtB,if_neg h5];done)
 rw [if_neg h3] at hr
 by_cases h4:(oneT f [117,112,108,111,97,100,45,109,101,116,97,100,97,116,97]).2=9
 · rw [if_pos h4] at hr
   cases hr
   (repeat' (first|refine ja ?_ ?_|intro _))<;>first|omega|exact jb|exact jc ‹False›|skip
   all_goals first
    |omega
    |assumption
    |exact hs
    |exact hf.1
    |(exact(hf.2 _ ‹_›).1)
    |(exact(hf.2 _ ‹_›).2)
    |(simp only [jh,ji];omega)
    |(simp_all;done)
    |(exfalso;simp_all;done)
    |(simp only [wrtL,wrtN,wrtB,if_neg h5];done)
 rw [if_neg h4] at hr;generalize(oneT f [117,112,108,111,97,100,45,109,101,116,97,100,97,116,97]).1=mt at *;generalize zN f [117,112,108,111,97,100,45,108,101,110,103,116,104]=nv at *
 by_cases h5:wrtC l n b ⟨1,n+1,nv,mt⟩=0
 · rw [if_neg (fun h=>h h5)] at hr
   cases hr;simp only [h5,if_true] at *
   (repeat' (first|refine ja ?_ ?_|intro _))<;>first|omega|exact jb|exact jc ‹False›|skip
   all_goals first
    |omega
    |assumption
    |exact hs
    |exact hf.1
    |(exact(hf.2 _ ‹_›).1)
    |(exact(hf.2 _ ‹_›).2)
    |(simp only [jh,ji];omega)
    |(simp_all;done)
    |(exfalso;simp_all;done)
    |(simp only [wrtL,wrtN,wrtB,if_neg h5];done)
 · rw [if_pos h5] at hr
   cases hr
   (repeat' (first|refine ja ?_ ?_|intro _))<;>first|omega|exact jb|exact jc ‹False›|skip
   all_goals first
    |omega
    |assumption
    |exact hs
    |exact hf.1
    |(exact(hf.2 _ ‹_›).1)
    |(exact(hf.2 _ ‹_›).2)
    |(simp only [jh,ji];omega)
    |(simp_all;done)
    |(exfalso;simp_all;done)
    |(simp only [wrtL,wrtN,wrtB,if_neg h5];done)
def qL:Know Tryz.prog:=⟨129,YD,zbF⟩
def qK:Know Tryz.prog:=⟨129,fun I=>zu I (YD I),zf zbF⟩
theorem zvm (m t:Str) (mi:Int) (f:List Fld) (le:Int) (l:List Upl) (n:Int) (b:Str) (s:Int) (hneed:zJ l n∧uplB ⟨l,n,b,s⟩ t=true):Spc Tryz.prog 130 [.v (.one (.ptr 0 0))] [.obj 170 [.ptr 1 0,.p (.str m),.p (.str t),.p (.int .i64 mi),.p (.list .fld f),.p (.int .i64 le)],.pack [.obj 54 [.ptr 1 0,.ptr 2 0],.pack [.obj 124 [.row 1,.p (.int .i64 n)],.row .upl 81 l],.pack [.obj 156 [.row 1,.p (.int .i64 s)],.row .byte 5 b]]] (.ret (.v (.agg [.p (.int .i64 ((getU l (idV t)).id)),.p (.int .i64 ((getU l (idV t)).size)),.p (.str ((getU l (idV t)).note)),.p (.list .byte ((getU l (idV t)).bytes)),.p (.int .i64 ((getU l (idV t)).sent))]))) [.obj 170 [.ptr 1 0,.p (.str m),.p (.str t),.p (.int .i64 mi),.p (.list .fld f),.p (.int .i64 le)],.pack [.obj 54 [.ptr 1 0,.ptr 2 0],.pack [.obj 124 [.row 1,.p (.int .i64 n)],.row .upl 81 l],.pack [.obj 156 [.row 1,.p (.int .i64 s)],.row .byte 5 b]]]:=by
 obtain⟨hs,hu⟩:=hneed;have hnn:=vV (t.drop 7);have hnx:=vV (Lib.trimPrefix t wU)
 have htp:Lib.hasPrefix t wU=true→Lib.trimPrefix t wU=t.drop 7:=fun h=>by unfold Lib.trimPrefix;rw [if_pos h];rfl
 unfold uplB idB idV at hu
 try unfold idV
 refine spH Tryz.func130 (by kernel_rfl) { cfgT with keep:=some [0,2,3,4,5,6,7]} [sD,su,Zf,Ze,Xy,Xx,TK,TJ,zS,zQ,xX,xW] (by kernel_rfl) ?_
 intro I X hI hX
 refine orcL ?_;go_invoke;refine orcS (by kernel_rfl) ?_
 simp only [zi,Nat.reduceAdd];subst hI;rw [show([47,102,105,108,101,115,47]:Str)=wU from rfl];simp only [nrmA,nrmB,nrlB,reduceCtorEq,HO.pack.injEq,HO.obj.injEq];generalize Lib.hasPrefix t wU=hb at *
 cases hb with
 | true=>
   rw [htp rfl] at *;generalize t.drop 7=tt at *;generalize numA tt 10 9=na at *;obtain⟨nv,ok⟩:=na;simp only [Bool.true_and] at *
   (repeat' (first|refine ja ?_ ?_|intro _))<;>first|omega|exact jb|exact jc ‹False›|skip
   all_goals first|omega|assumption|exact hs|(simp_all;done)|trace_state
 | false=>
   simp only [Bool.false_and] at *
   (repeat' (first|refine ja ?_ ?_|intro _))<;>first|omega|exact jb|exact jc ‹False›|skip
   all_goals first|omega|assumption|exact hs|(simp_all;done)|trace_state
theorem zvl (m t:Str) (mi:Int) (f:List Fld) (le:Int) (l:List Upl) (n:Int) (b:Str) (s:Int) (hneed:zJ l n∧uplB ⟨l,n,b,s⟩ t=false):Spc Tryz.prog 130 [.v (.one (.ptr 0 0))] [.obj 170 [.ptr 1 0,.p (.str m),.p (.str t),.p (.int .i64 mi),.p (.list .fld f),.p (.int .i64 le)],.pack [.obj 54 [.ptr 1 0,.ptr 2 0],.pack [.obj 124 [.row 1,.p (.int .i64 n)],.row .upl 81 l],.pack [.obj 156 [.row 1,.p (.int .i64 s)],.row .byte 5 b]]] (.pan (.ifc 165 true [.int .i64 404,.list .fld ([]),.list .byte ([])])) [.obj 170 [.ptr 1 0,.p (.str m),.p (.str t),.p (.int .i64 mi),.p (.list .fld f),.p (.int .i64 le)],.pack [.obj 54 [.ptr 1 0,.ptr 2 0],.pack [.obj 124 [.row 1,.p (.int .i64 n)],.row .upl 81 l],.pack [.obj 156 [.row 1,.p (.int .i64 s)],.row .byte 5 b]]]:=by
 obtain⟨hs,hu⟩:=hneed;have hnn:=vV (t.drop 7);have hnx:=vV (Lib.trimPrefix t wU)
 have htp:Lib.hasPrefix t wU=true→Lib.trimPrefix t wU=t.drop 7:=fun h=>by unfold Lib.trimPrefix;rw [if_pos h];rfl
 unfold uplB idB idV at hu
 try unfold idV
 refine spH Tryz.func130 (by kernel_rfl) { cfgT with keep:=some [0,2,3,4,5,6,7]} [sD,su,Zf,Ze,Xy,Xx,TK,TJ,zS,zQ,xX,xW] (by kernel_rfl) ?_
 intro I X hI hX
 refine orcL ?_;go_invoke;refine orcS (by kernel_rfl) ?_
 simp only [zi,Nat.reduceAdd];subst hI;rw [show([47,102,105,108,101,115,47]:Str)=wU from rfl];simp only [nrmA,nrmB,nrlB,reduceCtorEq,HO.pack.injEq,HO.obj.injEq];generalize Lib.hasPrefix t wU=hb at *
 cases hb with
 | true=>
   rw [htp rfl] at *;generalize t.drop 7=tt at *;generalize numA tt 10 9=na at *;obtain⟨nv,ok⟩:=na;simp only [Bool.true_and] at *
   (repeat' (first|refine ja ?_ ?_|intro _))<;>first|omega|exact jb|exact jc ‹False›|skip
   all_goals first|omega|assumption|exact hs|(simp_all;done)|trace_state
 | false=>
   simp only [Bool.false_and] at *
   (repeat' (first|refine ja ?_ ?_|intro _))<;>first|omega|exact jb|exact jc ‹False›|skip
   all_goals first|omega|assumption|exact hs|(simp_all;done)|trace_state
def zc5 (I:Alg):KU
 |[.v (.one (.ptr 0 0))],[.obj 170 [.ptr 1 0,.p (.str m),.p (.str t),.p (.int .i64 mi),.p (.list .fld f),.p (.int .i64 le)],.pack [.obj 54 [.ptr 1 0,.ptr 2 0],.pack [.obj 124 [.row 1,.p (.int .i64 n)],.row .upl 81 l],.pack [.obj 156 [.row 1,.p (.int .i64 s)],.row .byte 5 b]]]=>(fun(m t:Str) (f:List Fld) (l:List Upl) (b:Str)=>(some (.br (I.hid (uplB ⟨l,n,b,s⟩ t)) (.one ⟨I.hid (zJ l n∧uplB ⟨l,n,b,s⟩ t=true),(.ret (.v (.agg [.p (.int .i64 (I.hid ((getU l (idV t)).id))),.p (.int .i64 (I.hid ((getU l (idV t)).size))),.p (.str (I.hid ((getU l (idV t)).note))),.p (.list .byte (I.hid ((getU l (idV t)).bytes))),.p (.int .i64 (I.hid ((getU l (idV t)).sent)))]))),[.obj 170 [.ptr 1 0,.p (.str m),.p (.str t),.p (.int .i64 mi),.p (.list .fld f),.p (.int .i64 le)],.pack [.obj 54 [.ptr 1 0,.ptr 2 0],.pack [.obj 124 [.row 1,.p (.int .i64 n)],.row .upl 81 l],.pack [.obj 156 [.row 1,.p (.int .i64 s)],.row .byte 5 b]]]⟩) (.one ⟨I.hid (zJ l n∧uplB ⟨l,n,b,s⟩ t=false),(.pan (.ifc 165 true [.int .i64 404,.list .fld (I.hid ([])),.list .byte (I.hid ([]))])),[.obj 170 [.ptr 1 0,.p (.str m),.p (.str t),.p (.int .i64 mi),.p (.list .fld f),.p (.int .i64 le)],.pack [.obj 54 [.ptr 1 0,.ptr 2 0],.pack [.obj 124 [.row 1,.p (.int .i64 n)],.row .upl 81 l],.pack [.obj 156 [.row 1,.p (.int .i64 s)],.row .byte 5 b]]]⟩)):Option CT)) m t f l b
 |_,_=>none
theorem zmP:zx Tryz.prog 130 (zc5 alg):=by
 intro args hp r h;unfold zc5 at h
 split at h
 · cases h;exact⟨fun _ hn=>zvm _ _ _ _ _ _ _ _ _ hn,fun _ hn=>zvl _ _ _ _ _ _ _ _ _ hn⟩
 · cases h
def QT:Know Tryz.prog:=⟨130,zc5,zmP⟩
def QS:Know Tryz.prog:=⟨130,fun I=>zu I (zc5 I),zf zmP⟩
def Sr (I:Alg):KU
 |[.v (.one (.ptr 0 0)),.v (.agg [.p (.int .i64 ui),.p (.int .i64 uz),.p (.str uo),.p (.list .byte ub),.p (.int .i64 us)])],[.obj 170 [.ptr 1 0,.p (.str m),.p (.str t),.p (.int .i64 mi),.p (.list .fld f),.p (.int .i64 le)],.pack [.obj 54 [.ptr 1 0,.ptr 2 0],.pack [.obj 124 [.row 1,.p (.int .i64 n)],.row .upl 81 l],.pack [.obj 156 [.row 1,.p (.int .i64 s)],.row .byte 5 b]]]=>(fun(m t:Str) (f:List Fld) (l:List Upl) (b uo ub:Str)=>(some (.one ⟨I.hid (uz<1000000000∧ub.length<1000000),(.pan (.ifc 165 true [.int .i64 200,.list .fld (I.hid (zbp ⟨ui,uz,uo,ub,us⟩)),.list .byte (I.hid ([]))])),[.obj 170 [.ptr 1 0,.p (.str m),.p (.str t),.p (.int .i64 mi),.p (.list .fld f),.p (.int .i64 le)],.pack [.obj 54 [.ptr 1 0,.ptr 2 0],.pack [.obj 124 [.row 1,.p (.int .i64 n)],.row .upl 81 l],.pack [.obj 156 [.row 1,.p (.int .i64 s)],.row .byte 5 b]]]⟩):Option CT)) m t f l b uo ub
 |_,_=>none
theorem ziU:zx Tryz.prog 131 (Sr alg):=by
 intro args hp r h;unfold Sr at h;split at h<;>cases h
 rename_i ui uz uo ub us m t mi f le n l s b
 revert f l;intro(f:List Fld) (l:List Upl)
 simp only [CT.Good,zh];intro hneed;obtain⟨h1,h2⟩:=hneed;generalize hr:zbp ⟨ui,uz,uo,ub,us⟩=r;unfold zbp at hr;generalize hl:lenF ⟨ui,uz,uo,ub,us⟩=lf at hr;obtain⟨ln,lv⟩:=lf
 refine spH Tryz.func131 (by kernel_rfl) { cfgT with keep:=some [0,1,3,4]} [zS,zQ,yB,yA,xX,xW,ztN,ztM] (by kernel_rfl) ?_
 intro I X hI hX
 refine orcL ?_;go_invoke;refine orcS (by kernel_rfl) ?_
 simp only [zi,Nat.reduceAdd];subst hI;simp only at hr;simp only [nrmA,nrmB,nrlB,reduceCtorEq,HO.pack.injEq,HO.obj.injEq];rw [hl]
 (repeat' (first|refine ja ?_ ?_|intro _))<;>first|omega|exact jb|exact jc ‹False›|skip
 all_goals first|omega|with_reducible assumption|(subst hr;simp_all;done)|(subst hr;(simp_all [QJ,zwC,zvU,zlq]);done)|trace_state
def XV:Know Tryz.prog:=⟨131,Sr,ziU⟩
def XU:Know Tryz.prog:=⟨131,fun I=>zu I (Sr I),zf ziU⟩
end Go.Proofs.YtkjepecoodjbmaaGreatDoor
namespace Go.Proofs.YtkjepecoodjbmaaGreatDoor
open Go Go.Sep Go.Ab
set_option maxRecDepth 100000
theorem qI {l:List Upl} {n:Int} {b:Str} {e:Ent} (h:e.kind≠1):wrtN l n b e=n:=by
 unfold wrtN Uo;rw [if_neg h]
 split<;>rfl
def XY (I:Alg):KU
 |[.v (.one (.ptr 0 0)),.v (.agg [.p (.int .i64 ui),.p (.int .i64 uz),.p (.str uo),.p (.list .byte ub),.p (.int .i64 us)]),.v (.one (.p (.list .byte body)))],[.obj 170 [.ptr 1 0,.p (.str m),.p (.str t),.p (.int .i64 mi),.p (.list .fld f),.p (.int .i64 le)],.pack [.obj 54 [.ptr 1 0,.ptr 2 0],.pack [.obj 124 [.row 1,.p (.int .i64 n)],.row .upl 81 l],.pack [.obj 156 [.row 1,.p (.int .i64 s)],.row .byte 5 b]]]=>(fun(m t:Str) (f:List Fld) (l:List Upl) (b uo ub body:Str)=>(some (.one ⟨I.hid (FOk f∧zJ l n∧n≤200000∧b.length≤100000∧body.length≤100000∧ub.length≤1000000∧uz≤1000000),(.pan (.ifc 165 true [.int .i64 (I.hid ((wP ⟨l,n,b,s⟩ ⟨ui,uz,uo,ub,us⟩ f body).st)),.list .fld (I.hid ((wP ⟨l,n,b,s⟩ ⟨ui,uz,uo,ub,us⟩ f body).fs)),.list .byte (I.hid ([]))])),[.obj 170 [.ptr 1 0,.p (.str m),.p (.str t),.p (.int .i64 mi),.p (.list .fld f),.p (.int .i64 le)],.pack [.obj 54 [.ptr 1 0,.ptr 2 0],.pack [.obj 124 [.row 1,.p (.int .i64 (I.hid ((wP ⟨l,n,b,s⟩ ⟨ui,uz,uo,ub,us⟩ f body).q.n)))],.row .upl 81 (I.hid ((wP ⟨l,n,b,s⟩ ⟨ui,uz,uo,ub,us⟩ f body).q.l))],.pack [.obj 156 [.row 1,.p (.int .i64 (I.hid ((wP ⟨l,n,b,s⟩ ⟨ui,uz,uo,ub,us⟩ f body).q.s)))],.row .byte 5 (I.hid ((wP ⟨l,n,b,s⟩ ⟨ui,uz,uo,ub,us⟩ f body).q.b))]]]⟩):Option CT)) m t f l b uo ub body
 |_,_=>none
set_option maxHeartbeats 8000000 in
theorem zeH:zx Tryz.prog 132 (XY alg):=by
 intro args hp r h;unfold XY at h;split at h<;>cases h
 rename_i ui uz uo ub us body m t mi f le n l s b
 revert f l;intro(f:List Fld) (l:List Upl)
 simp only [CT.Good,zh];intro hneed;obtain⟨hf,hs,hn,hb,hbl,hub,huz⟩:=hneed;have hn0:=hs.n0;have hcm:=qO f Zy;have hol:=zdF hf Zy;have hs2:=QD hs b (apE ui body)
 have hnn:wrtN l n b (apE ui body)=n:=qI (by simp [apE])
 have hbb:=qV (l:=l) (n:=n) (b:=b) (apE ui body) hb;generalize hr:wP ⟨l,n,b,s⟩ ⟨ui,uz,uo,ub,us⟩ f body=r;obtain⟨st,fs,⟨l',n',b',s'⟩⟩:=r;unfold wP wsC wsS syS at hr;simp only at hr
 refine spH Tryz.func132 (by kernel_rfl) { cfgT with seam:=[5,10,17],keep:=some [0,1,2,4,6,8,9,10,11]} [wR,wQ,yV,yU,yT,yS,zL,zK,yR,yQ,zS,zQ,yB,yA,xX,xW,xU,xR,uZ,uY,vw,vk] (by kernel_rfl) ?_
 intro I X hI hX
 refine orcL ?_;go_invoke;refine orcS (by kernel_rfl) ?_
 simp only [zi,Nat.reduceAdd]
 have hh: ∀ {α:Type} (x:α),I.hid x=x:=by subst hI;intros;rfl
 have key17: ∀ (nv sz:Int),nv=(ub.length:Int)→(if(if apG l ui nv then 17 else wrtC l n b (apE ui body))≠0 then(⟨X6 (if apG l ui nv then 17 else wrtC l n b (apE ui body)),[],⟨l,n,b,s⟩⟩:TA)
  else if 0≤sz∧uz<0 then
   if wrtC (wrtL l n b (apE ui body)) (wrtN l n b (apE ui body)) (wrtB l n b (apE ui body)) ⟨3,ui,sz,[]⟩≠0 then(⟨X6 (wrtC (wrtL l n b (apE ui body)) (wrtN l n b (apE ui body)) (wrtB l n b (apE ui body)) ⟨3,ui,sz,[]⟩),[],⟨wrtL l n b (apE ui body),wrtN l n b (apE ui body),wrtB l n b (apE ui body),s⟩⟩:TA)
   else(⟨204,[⟨QJ,decS (nv+(body.length:Int))⟩],⟨wrtL (wrtL l n b (apE ui body)) (wrtN l n b (apE ui body)) (wrtB l n b (apE ui body)) ⟨3,ui,sz,[]⟩,wrtN (wrtL l n b (apE ui body)) (wrtN l n b (apE ui body)) (wrtB l n b (apE ui body)) ⟨3,ui,sz,[]⟩,wrtB (wrtL l n b (apE ui body)) (wrtN l n b (apE ui body)) (wrtB l n b (apE ui body)) ⟨3,ui,sz,[]⟩,((wrtB (wrtL l n b (apE ui body)) (wrtN l n b (apE ui body)) (wrtB l n b (apE ui body)) ⟨3,ui,sz,[]⟩).length:Int)⟩⟩:TA)
  else(⟨204,[⟨QJ,decS (nv+(body.length:Int))⟩],⟨wrtL l n b (apE ui body),wrtN l n b (apE ui body),wrtB l n b (apE ui body),((wrtB l n b (apE ui body)).length:Int)⟩⟩:TA))=⟨st,fs,⟨l',n',b',s'⟩⟩→Ok Tryz.prog X (fun o h=>o=AOut.pan (C.ifc 165 true [P.int IntKind.i64 st,P.list U.fld fs,P.list U.byte []])∧h=[HO.obj 170 [C.ptr 1 0,C.p (P.str m),C.p (P.str t),C.p (P.int IntKind.i64 mi),C.p (P.list U.fld f),C.p (P.int IntKind.i64 le)],HO.pack [HO.obj 54 [C.ptr 1 0,C.ptr 2 0],HO.pack [HO.obj 124 [C.row 1,C.p (P.int IntKind.i64 n')],HO.row U.upl 81 l'],HO.pack [HO.obj 156 [C.row 1,C.p (P.int IntKind.i64 s')],HO.row U.byte 5 b']]]) (go I tab { cfgT with seam:=[5,10,17],keep:=some [0,1,2,4,6,8,9,10,11]} [wR,wQ,yV,yU,yT,yS,zL,zK,yR,yQ,zS,zQ,yB,yA,xX,xW,xU,xR,uZ,uY,vw,vk] [⟨vO Tryz.f132,finK I tab { cfgT with seam:=[5,10,17],keep:=some [0,1,2,4,6,8,9,10,11]} 2 Tryz.f132⟩] 0 [1,1,1,1,1,1,1,1,0] ⟨[(0,.v (.one (.ptr 0 0))),(1,.v (.agg [.p (.int .i64 ui),.p (.int .i64 uz),.p (.str uo),.p (.list .byte ub),.p (.int .i64 us)])),(2,.v (.one (.p (.list .byte body)))),(4,.v (.one (.ptr 2 0))),(10,.v (.one (.p (.int .i64 nv)))),(11,.v (.one (.p (.int .i64 sz))))],[.obj 170 [.ptr 1 0,.p (.str m),.p (.str t),.p (.int .i64 mi),.p (.list .fld f),.p (.int .i64 le)],.pack [.obj 54 [.ptr 1 0,.ptr 2 0],.pack [.obj 124 [.row 1,.p (.int .i64 n)],.row .upl 81 l],.pack [.obj 156 [.row 1,.p (.int .i64 s)],.row .byte 5 b]],.pack [.obj 81 [.p (.int .i64 ui),.p (.int .i64 uz),.p (.str uo),.p (.list .byte ub),.p (.int .i64 us)]]],131,none⟩):=by
  intro nv sz hnv hr
  refine orcL ?_;go_invoke;refine orcS (by kernel_rfl) ?_
  simp only [zi,Nat.reduceAdd];clear hX hcm hol;unfold QJ at hr;unfold apE at *;subst hI;simp only [nrmA,nrmB,nrlB,reduceCtorEq,HO.pack.injEq,HO.obj.injEq]
  by_cases hg:apG l ui nv=true
  · simp only [hg,if_true] at hr ⊢
    rw [if_pos (by decide)] at hr
    clear hs2 hnn hbb;simp only [TA.mk.injEq,Sto.mk.injEq] at hr;obtain⟨q1,q2,q3,q4,q5,q6⟩:=hr;subst q1 q2 q3 q4 q5 q6;simp only [nrmA,nrmB,nrlB,reduceCtorEq,HO.pack.injEq,HO.obj.injEq,decide_true,decide_false,je,jd,forall_const,false_implies,true_implies,jf,jg]
    (repeat' (first|refine ja ?_ ?_|intro _))<;>first|omega|exact jb|exact jc ‹False›|skip
    all_goals first
     |with_reducible rfl
     |with_reducible assumption
     |omega
     |exact hs
     |exact hf.1
     |(exact(hf.2 _ ‹_›).1)
     |(exact(hf.2 _ ‹_›).2)
     |exact⟨hf,by decide⟩
     |exact⟨⟨hf,by decide⟩,by assumption⟩
     |(simp only [jh,ji];omega)
     |(exfalso;simp_all;done)
  simp only [hg,jd,if_false] at hr ⊢;clear hg
  by_cases h1:wrtC l n b ⟨2,ui,0,body⟩=0
  · rw [if_neg (fun h=>h h1)] at hr
    simp only [h1] at ⊢
    clear h1;generalize wrtL l n b ⟨2,ui,0,body⟩=l2 at *;generalize wrtN l n b ⟨2,ui,0,body⟩=n2 at *;generalize wrtB l n b ⟨2,ui,0,body⟩=b2 at *
    by_cases h2:0≤sz∧uz<0
    · rw [if_pos h2] at hr
      by_cases h3:wrtC l2 n2 b2 ⟨3,ui,sz,[]⟩=0
      · rw [if_neg (fun h=>h h3)] at hr
        simp only [TA.mk.injEq,Sto.mk.injEq] at hr;obtain⟨q1,q2,q3,q4,q5,q6⟩:=hr;subst q1 q2 q3 q4 q5 q6
        simp only [h3] at ⊢
        clear h3;simp only [nrmA,nrmB,nrlB,reduceCtorEq,HO.pack.injEq,HO.obj.injEq,decide_true,decide_false,je,jd,forall_const,false_implies,true_implies,jf,jg]
        (repeat' (first|refine ja ?_ ?_|intro _))<;>first|omega|exact jb|exact jc ‹False›|skip
        all_goals first
         |with_reducible rfl
         |with_reducible assumption
         |omega
         |exact hs
         |exact hf.1
         |(exact(hf.2 _ ‹_›).1)
         |(exact(hf.2 _ ‹_›).2)
         |exact⟨hf,by decide⟩
         |exact⟨⟨hf,by decide⟩,by assumption⟩
         |(simp only [jh,ji];omega)
         |(exfalso;simp_all;done)
      · rw [if_pos h3] at hr
        simp only [TA.mk.injEq,Sto.mk.injEq] at hr;obtain⟨q1,q2,q3,q4,q5,q6⟩:=hr;subst q1 q2 q3 q4 q5 q6
        have e1:wrtL l2 n2 b2 ⟨3,ui,sz,[]⟩=l2:=by simp only [wrtL,if_neg h3]
        have e2:wrtN l2 n2 b2 ⟨3,ui,sz,[]⟩=n2:=by simp only [wrtN,if_neg h3]
        have e3:wrtB l2 n2 b2 ⟨3,ui,sz,[]⟩=b2:=by simp only [wrtB,if_neg h3]
        rw [e1,e2,e3];clear e1 e2 e3;generalize wrtC l2 n2 b2 ⟨3,ui,sz,[]⟩=c3 at *;simp only [nrmA,nrmB,nrlB,reduceCtorEq,HO.pack.injEq,HO.obj.injEq,decide_true,decide_false,je,jd,forall_const,false_implies,true_implies,jf,jg,h3]
        (repeat' (first|refine ja ?_ ?_|intro _))<;>first|omega|exact jb|exact jc ‹False›|skip
        all_goals first
         |with_reducible rfl
         |with_reducible assumption
         |omega
         |exact hs
         |exact hf.1
         |(exact(hf.2 _ ‹_›).1)
         |(exact(hf.2 _ ‹_›).2)
         |exact⟨hf,by decide⟩
         |exact⟨⟨hf,by decide⟩,by assumption⟩
         |(simp only [jh,ji];omega)
         |(exfalso;simp_all;done)
    · rw [if_neg h2] at hr
      simp only [TA.mk.injEq,Sto.mk.injEq] at hr;obtain⟨q1,q2,q3,q4,q5,q6⟩:=hr;subst q1 q2 q3 q4 q5 q6;simp only [nrmA,nrmB,nrlB,reduceCtorEq,HO.pack.injEq,HO.obj.injEq,decide_true,decide_false,je,jd,forall_const,false_implies,true_implies,jf,jg]
      (repeat' (first|refine ja ?_ ?_|intro _))<;>first|omega|exact jb|exact jc ‹False›|skip
      all_goals first
       |with_reducible rfl
       |with_reducible assumption
       |omega
       |exact hs
       |exact hf.1
       |(exact(hf.2 _ ‹_›).1)
       |(exact(hf.2 _ ‹_›).2)
       |exact⟨hf,by decide⟩
       |exact⟨⟨hf,by decide⟩,by assumption⟩
       |(simp only [jh,ji];omega)
       |(exfalso;simp_all;done)
  · rw [if_pos h1] at hr
    simp only [TA.mk.injEq,Sto.mk.injEq] at hr;obtain⟨q1,q2,q3,q4,q5,q6⟩:=hr;subst q1 q2 q3 q4 q5 q6
    have e1:wrtL l n b ⟨2,ui,0,body⟩=l:=by simp only [wrtL,if_neg h1]
    have e2:wrtN l n b ⟨2,ui,0,body⟩=n:=by simp only [wrtN,if_neg h1]
    have e3:wrtB l n b ⟨2,ui,0,body⟩=b:=by simp only [wrtB,if_neg h1]
    rw [e1,e2,e3];clear e1 e2 e3 hs2 hnn hbb;generalize wrtC l n b ⟨2,ui,0,body⟩=c2 at *;simp only [nrmA,nrmB,nrlB,reduceCtorEq,HO.pack.injEq,HO.obj.injEq,decide_true,decide_false,je,jd,forall_const,false_implies,true_implies,jf,jg,h1]
    (repeat' (first|refine ja ?_ ?_|intro _))<;>first|omega|exact jb|exact jc ‹False›|skip
    all_goals first
     |with_reducible rfl
     |with_reducible assumption
     |omega
     |exact hs
     |exact hf.1
     |(exact(hf.2 _ ‹_›).1)
     |(exact(hf.2 _ ‹_›).2)
     |exact⟨hf,by decide⟩
     |exact⟨⟨hf,by decide⟩,by assumption⟩
     |(simp only [jh,ji];omega)
     |(exfalso;simp_all;done)
 have key10: ∀ (nv:Int),nv=(ub.length:Int)→(if Xm f yL=false then(⟨400,[],⟨l,n,b,s⟩⟩:TA)
  else if 0≤zN f yL∧0≤uz∧zN f yL≠uz then(⟨400,[],⟨l,n,b,s⟩⟩:TA)
  else if 0≤zN f yL∧uz<0∧(2000<zN f yL∨zN f yL<nv+(body.length:Int)) then(⟨413,[],⟨l,n,b,s⟩⟩:TA)
  else if Uj b ((body.length:Int)+60)=false then(⟨507,[],⟨l,n,b,s⟩⟩:TA)
  else(if(if apG l ui nv then 17 else wrtC l n b (apE ui body))≠0 then(⟨X6 (if apG l ui nv then 17 else wrtC l n b (apE ui body)),[],⟨l,n,b,s⟩⟩:TA)
  else if 0≤(zN f yL)∧uz<0 then
   if wrtC (wrtL l n b (apE ui body)) (wrtN l n b (apE ui body)) (wrtB l n b (apE ui body)) ⟨3,ui,(zN f yL),[]⟩≠0 then(⟨X6 (wrtC (wrtL l n b (apE ui body)) (wrtN l n b (apE ui body)) (wrtB l n b (apE ui body)) ⟨3,ui,(zN f yL),[]⟩),[],⟨wrtL l n b (apE ui body),wrtN l n b (apE ui body),wrtB l n b (apE ui body),s⟩⟩:TA)
   else(⟨204,[⟨QJ,decS (nv+(body.length:Int))⟩],⟨wrtL (wrtL l n b (apE ui body)) (wrtN l n b (apE ui body)) (wrtB l n b (apE ui body)) ⟨3,ui,(zN f yL),[]⟩,wrtN (wrtL l n b (apE ui body)) (wrtN l n b (apE ui body)) (wrtB l n b (apE ui body)) ⟨3,ui,(zN f yL),[]⟩,wrtB (wrtL l n b (apE ui body)) (wrtN l n b (apE ui body)) (wrtB l n b (apE ui body)) ⟨3,ui,(zN f yL),[]⟩,((wrtB (wrtL l n b (apE ui body)) (wrtN l n b (apE ui body)) (wrtB l n b (apE ui body)) ⟨3,ui,(zN f yL),[]⟩).length:Int)⟩⟩:TA)
  else(⟨204,[⟨QJ,decS (nv+(body.length:Int))⟩],⟨wrtL l n b (apE ui body),wrtN l n b (apE ui body),wrtB l n b (apE ui body),((wrtB l n b (apE ui body)).length:Int)⟩⟩:TA)))=⟨st,fs,⟨l',n',b',s'⟩⟩→Ok Tryz.prog X (fun o h=>o=AOut.pan (C.ifc 165 true [P.int IntKind.i64 st,P.list U.fld fs,P.list U.byte []])∧h=[HO.obj 170 [C.ptr 1 0,C.p (P.str m),C.p (P.str t),C.p (P.int IntKind.i64 mi),C.p (P.list U.fld f),C.p (P.int IntKind.i64 le)],HO.pack [HO.obj 54 [C.ptr 1 0,C.ptr 2 0],HO.pack [HO.obj 124 [C.row 1,C.p (P.int IntKind.i64 n')],HO.row U.upl 81 l'],HO.pack [HO.obj 156 [C.row 1,C.p (P.int IntKind.i64 s')],HO.row U.byte 5 b']]]) (go I tab { cfgT with seam:=[5,10,17],keep:=some [0,1,2,4,6,8,9,10,11]} [wR,wQ,yV,yU,yT,yS,zL,zK,yR,yQ,zS,zQ,yB,yA,xX,xW,xU,xR,uZ,uY,vw,vk] [⟨vO Tryz.f132,finK I tab { cfgT with seam:=[5,10,17],keep:=some [0,1,2,4,6,8,9,10,11]} 2 Tryz.f132⟩] 0 [1,1,1,1,1,1,0] ⟨[(0,.v (.one (.ptr 0 0))),(1,.v (.agg [.p (.int .i64 ui),.p (.int .i64 uz),.p (.str uo),.p (.list .byte ub),.p (.int .i64 us)])),(2,.v (.one (.p (.list .byte body)))),(4,.v (.one (.ptr 2 0))),(10,.v (.one (.p (.int .i64 nv))))],[.obj 170 [.ptr 1 0,.p (.str m),.p (.str t),.p (.int .i64 mi),.p (.list .fld f),.p (.int .i64 le)],.pack [.obj 54 [.ptr 1 0,.ptr 2 0],.pack [.obj 124 [.row 1,.p (.int .i64 n)],.row .upl 81 l],.pack [.obj 156 [.row 1,.p (.int .i64 s)],.row .byte 5 b]],.pack [.obj 81 [.p (.int .i64 ui),.p (.int .i64 uz),.p (.str uo),.p (.list .byte ub),.p (.int .i64 us)]]],131,none⟩):=by
  intro nv hnv hr
  refine orcL ?_;go_invoke;refine orcS (by kernel_rfl) ?_
  simp only [zi,Nat.reduceAdd];clear hcm hol hs2 hnn hbb;subst hI;unfold yL at *;simp only [nrmA,nrmB,nrlB,reduceCtorEq,HO.pack.injEq,HO.obj.injEq];generalize zN f [117,112,108,111,97,100,45,108,101,110,103,116,104]=sz at *
  by_cases hd1:Xm f [117,112,108,111,97,100,45,108,101,110,103,116,104]=false
  · rw [if_pos hd1] at hr
    simp only [TA.mk.injEq,Sto.mk.injEq] at hr;obtain⟨q1,q2,q3,q4,q5,q6⟩:=hr;subst q1 q2 q3 q4 q5 q6;simp only [nrmA,nrmB,nrlB,reduceCtorEq,HO.pack.injEq,HO.obj.injEq,decide_true,decide_false,je,jd,forall_const,false_implies,true_implies,jf,jg,hd1]
    (repeat' (first|refine ja ?_ ?_|intro _))<;>first|omega|exact jb|exact jc ‹False›|skip
    all_goals first
     |with_reducible rfl
     |with_reducible assumption
     |omega
     |exact hs
     |exact hf.1
     |(exact(hf.2 _ ‹_›).1)
     |(exact(hf.2 _ ‹_›).2)
     |exact⟨hf,by decide⟩
     |exact⟨⟨hf,by decide⟩,by assumption⟩
     |(simp only [jh,ji];omega)
     |(exfalso;simp_all;done)
  rw [if_neg hd1] at hr
  try simp only [Bool.not_eq_false] at hd1
  simp only [nrmA,nrmB,nrlB,reduceCtorEq,HO.pack.injEq,HO.obj.injEq,decide_true,decide_false,je,jd,forall_const,false_implies,true_implies,jf,jg,hd1]
  by_cases hd2:0≤sz∧0≤uz∧sz≠uz
  · rw [if_pos hd2] at hr
    simp only [TA.mk.injEq,Sto.mk.injEq] at hr;obtain⟨q1,q2,q3,q4,q5,q6⟩:=hr;subst q1 q2 q3 q4 q5 q6
    (repeat' (first|refine ja ?_ ?_|intro _))<;>first|omega|exact jb|exact jc ‹False›|skip
    all_goals first
     |with_reducible rfl
     |with_reducible assumption
     |omega
     |exact hs
     |exact hf.1
     |(exact(hf.2 _ ‹_›).1)
     |(exact(hf.2 _ ‹_›).2)
     |exact⟨hf,by decide⟩
     |exact⟨⟨hf,by decide⟩,by assumption⟩
     |(simp only [jh,ji];omega)
     |(exfalso;simp_all;done)
  rw [if_neg hd2] at hr
  by_cases hd3:0≤sz∧uz<0∧(2000<sz∨sz<nv+(body.length:Int))
  · rw [if_pos hd3] at hr
    simp only [TA.mk.injEq,Sto.mk.injEq] at hr;obtain⟨q1,q2,q3,q4,q5,q6⟩:=hr;subst q1 q2 q3 q4 q5 q6
    (repeat' (first|refine ja ?_ ?_|intro _))<;>first|omega|exact jb|exact jc ‹False›|skip
    all_goals first
     |with_reducible rfl
     |with_reducible assumption
     |omega
     |exact hs
     |exact hf.1
     |(exact(hf.2 _ ‹_›).1)
     |(exact(hf.2 _ ‹_›).2)
     |exact⟨hf,by decide⟩
     |exact⟨⟨hf,by decide⟩,by assumption⟩
     |(simp only [jh,ji];omega)
     |(exfalso;simp_all;done)
  rw [if_neg hd3] at hr
  by_cases hd4:Uj b ((body.length:Int)+60)=false
  · rw [if_pos hd4] at hr
    simp only [TA.mk.injEq,Sto.mk.injEq] at hr;obtain⟨q1,q2,q3,q4,q5,q6⟩:=hr;subst q1 q2 q3 q4 q5 q6;simp only [nrmA,nrmB,nrlB,reduceCtorEq,HO.pack.injEq,HO.obj.injEq,decide_true,decide_false,je,jd,forall_const,false_implies,true_implies,jf,jg,hd4]
    (repeat' (first|refine ja ?_ ?_|intro _))<;>first|omega|exact jb|exact jc ‹False›|skip
    all_goals first
     |with_reducible rfl
     |with_reducible assumption
     |omega
     |exact hs
     |exact hf.1
     |(exact(hf.2 _ ‹_›).1)
     |(exact(hf.2 _ ‹_›).2)
     |exact⟨hf,by decide⟩
     |exact⟨⟨hf,by decide⟩,by assumption⟩
     |(simp only [jh,ji];omega)
     |(exfalso;simp_all;done)
  rw [if_neg hd4] at hr
  try simp only [Bool.not_eq_false] at hd4
  simp only [nrmA,nrmB,nrlB,reduceCtorEq,HO.pack.injEq,HO.obj.injEq,decide_true,decide_false,je,jd,forall_const,false_implies,true_implies,jf,jg,hd4]
  (repeat' (first|refine ja ?_ ?_|intro _))<;>first|omega|exact jb|exact jc ‹False›|skip
  all_goals first
   |(with_reducible show Ok _ _ _ _;(try(exfalso;omega));exact seam rfl uj mixed [wR,wQ,yV,yU,yT,yS,zL,zK,yR,yQ,zS,zQ,yB,yA,xX,xW,xU,xR,uZ,uY,vw,vk] hX [0,1,2,4,10,11] ⟨[(0,.v (.one (.ptr 0 0))),(1,.v (.agg [.p (.int .i64 ui),.p (.int .i64 uz),.p (.str uo),.p (.list .byte ub),.p (.int .i64 us)])),(2,.v (.one (.p (.list .byte body)))),(4,.v (.one (.ptr 2 0))),(10,.v (.one (.p (.int .i64 nv)))),(11,.v (.one (.p (.int .i64 sz))))],[.obj 170 [.ptr 1 0,.p (.str m),.p (.str t),.p (.int .i64 mi),.p (.list .fld f),.p (.int .i64 le)],.pack [.obj 54 [.ptr 1 0,.ptr 2 0],.pack [.obj 124 [.row 1,.p (.int .i64 n)],.row .upl 81 l],.pack [.obj 156 [.row 1,.p (.int .i64 s)],.row .byte 5 b]],.pack [.obj 81 [.p (.int .i64 ui),.p (.int .i64 uz),.p (.str uo),.p (.list .byte ub),.p (.int .i64 us)]]],131,none⟩ (by kernel_rfl) (key17 nv sz hnv hr))
   |with_reducible rfl
   |with_reducible assumption
   |omega
   |exact hs
   |exact hf.1
   |(exact(hf.2 _ ‹_›).1)
   |(exact(hf.2 _ ‹_›).2)
   |exact⟨hf,by decide⟩
   |exact⟨⟨hf,by decide⟩,by assumption⟩
   |(simp only [jh,ji];omega)
   |(exfalso;simp_all;done)
 have key5: ∀ (_u:Unit),(if Xm f qw=false then(⟨400,[],⟨l,n,b,s⟩⟩:TA)
  else if zN f qw<0 then(⟨400,[],⟨l,n,b,s⟩⟩:TA)
  else if zN f qw≠(ub.length:Int) then(⟨409,[],⟨l,n,b,s⟩⟩:TA)
  else(if Xm f yL=false then(⟨400,[],⟨l,n,b,s⟩⟩:TA)
  else if 0≤zN f yL∧0≤uz∧zN f yL≠uz then(⟨400,[],⟨l,n,b,s⟩⟩:TA)
  else if 0≤zN f yL∧uz<0∧(2000<zN f yL∨zN f yL<(zN f qw)+(body.length:Int)) then(⟨413,[],⟨l,n,b,s⟩⟩:TA)
  else if Uj b ((body.length:Int)+60)=false then(⟨507,[],⟨l,n,b,s⟩⟩:TA)
  else(if(if apG l ui (zN f qw) then 17 else wrtC l n b (apE ui body))≠0 then(⟨X6 (if apG l ui (zN f qw) then 17 else wrtC l n b (apE ui body)),[],⟨l,n,b,s⟩⟩:TA)
  else if 0≤(zN f yL)∧uz<0 then
   if wrtC (wrtL l n b (apE ui body)) (wrtN l n b (apE ui body)) (wrtB l n b (apE ui body)) ⟨3,ui,(zN f yL),[]⟩≠0 then(⟨X6 (wrtC (wrtL l n b (apE ui body)) (wrtN l n b (apE ui body)) (wrtB l n b (apE ui body)) ⟨3,ui,(zN f yL),[]⟩),[],⟨wrtL l n b (apE ui body),wrtN l n b (apE ui body),wrtB l n b (apE ui body),s⟩⟩:TA)
   else(⟨204,[⟨QJ,decS ((zN f qw)+(body.length:Int))⟩],⟨wrtL (wrtL l n b (apE ui body)) (wrtN l n b (apE ui body)) (wrtB l n b (apE ui body)) ⟨3,ui,(zN f yL),[]⟩,wrtN (wrtL l n b (apE ui body)) (wrtN l n b (apE ui body)) (wrtB l n b (apE ui body)) ⟨3,ui,(zN f yL),[]⟩,wrtB (wrtL l n b (apE ui body)) (wrtN l n b (apE ui body)) (wrtB l n b (apE ui body)) ⟨3,ui,(zN f yL),[]⟩,((wrtB (wrtL l n b (apE ui body)) (wrtN l n b (apE ui body)) (wrtB l n b (apE ui body)) ⟨3,ui,(zN f yL),[]⟩).length:Int)⟩⟩:TA)
  else(⟨204,[⟨QJ,decS ((zN f qw)+(body.length:Int))⟩],⟨wrtL l n b (apE ui body),wrtN l n b (apE ui body),wrtB l n b (apE ui body),((wrtB l n b (apE ui body)).length:Int)⟩⟩:TA))))=⟨st,fs,⟨l',n',b',s'⟩⟩→Ok Tryz.prog X (fun o h=>o=AOut.pan (C.ifc 165 true [P.int IntKind.i64 st,P.list U.fld fs,P.list U.byte []])∧h=[HO.obj 170 [C.ptr 1 0,C.p (P.str m),C.p (P.str t),C.p (P.int IntKind.i64 mi),C.p (P.list U.fld f),C.p (P.int IntKind.i64 le)],HO.pack [HO.obj 54 [C.ptr 1 0,C.ptr 2 0],HO.pack [HO.obj 124 [C.row 1,C.p (P.int IntKind.i64 n')],HO.row U.upl 81 l'],HO.pack [HO.obj 156 [C.row 1,C.p (P.int IntKind.i64 s')],HO.row U.byte 5 b']]]) (go I tab { cfgT with seam:=[5,10,17],keep:=some [0,1,2,4,6,8,9,10,11]} [wR,wQ,yV,yU,yT,yS,zL,zK,yR,yQ,zS,zQ,yB,yA,xX,xW,xU,xR,uZ,uY,vw,vk] [⟨vO Tryz.f132,finK I tab { cfgT with seam:=[5,10,17],keep:=some [0,1,2,4,6,8,9,10,11]} 2 Tryz.f132⟩] 0 [1,1,1,1,0] ⟨[(0,.v (.one (.ptr 0 0))),(1,.v (.agg [.p (.int .i64 ui),.p (.int .i64 uz),.p (.str uo),.p (.list .byte ub),.p (.int .i64 us)])),(2,.v (.one (.p (.list .byte body)))),(4,.v (.one (.ptr 2 0)))],[.obj 170 [.ptr 1 0,.p (.str m),.p (.str t),.p (.int .i64 mi),.p (.list .fld f),.p (.int .i64 le)],.pack [.obj 54 [.ptr 1 0,.ptr 2 0],.pack [.obj 124 [.row 1,.p (.int .i64 n)],.row .upl 81 l],.pack [.obj 156 [.row 1,.p (.int .i64 s)],.row .byte 5 b]],.pack [.obj 81 [.p (.int .i64 ui),.p (.int .i64 uz),.p (.str uo),.p (.list .byte ub),.p (.int .i64 us)]]],131,none⟩):=by
  intro _ hr
  refine orcL ?_;go_invoke;refine orcS (by kernel_rfl) ?_
  simp only [zi,Nat.reduceAdd];clear hcm hol hs2 hnn hbb key17;subst hI;unfold qw at *;simp only [nrmA,nrmB,nrlB,reduceCtorEq,HO.pack.injEq,HO.obj.injEq];generalize zN f [117,112,108,111,97,100,45,111,102,102,115,101,116]=nv at *
  by_cases hd5:Xm f [117,112,108,111,97,100,45,111,102,102,115,101,116]=false
  · rw [if_pos hd5] at hr
    simp only [TA.mk.injEq,Sto.mk.injEq] at hr;obtain⟨q1,q2,q3,q4,q5,q6⟩:=hr;subst q1 q2 q3 q4 q5 q6;simp only [nrmA,nrmB,nrlB,reduceCtorEq,HO.pack.injEq,HO.obj.injEq,decide_true,decide_false,je,jd,forall_const,false_implies,true_implies,jf,jg,hd5]
    (repeat' (first|refine ja ?_ ?_|intro _))<;>first|omega|exact jb|exact jc ‹False›|skip
    all_goals first
     |with_reducible rfl
     |with_reducible assumption
     |omega
     |exact hs
     |exact hf.1
     |(exact(hf.2 _ ‹_›).1)
     |(exact(hf.2 _ ‹_›).2)
     |exact⟨hf,by decide⟩
     |exact⟨⟨hf,by decide⟩,by assumption⟩
     |(simp only [jh,ji];omega)
     |(exfalso;simp_all;done)
  rw [if_neg hd5] at hr
  try simp only [Bool.not_eq_false] at hd5
  simp only [nrmA,nrmB,nrlB,reduceCtorEq,HO.pack.injEq,HO.obj.injEq,decide_true,decide_false,je,jd,forall_const,false_implies,true_implies,jf,jg,hd5]
  by_cases hd6:nv<0
  · rw [if_pos hd6] at hr
    simp only [TA.mk.injEq,Sto.mk.injEq] at hr;obtain⟨q1,q2,q3,q4,q5,q6⟩:=hr;subst q1 q2 q3 q4 q5 q6
    (repeat' (first|refine ja ?_ ?_|intro _))<;>first|omega|exact jb|exact jc ‹False›|skip
    all_goals first
     |with_reducible rfl
     |with_reducible assumption
     |omega
     |exact hs
     |exact hf.1
     |(exact(hf.2 _ ‹_›).1)
     |(exact(hf.2 _ ‹_›).2)
     |exact⟨hf,by decide⟩
     |exact⟨⟨hf,by decide⟩,by assumption⟩
     |(simp only [jh,ji];omega)
     |(exfalso;simp_all;done)
  rw [if_neg hd6] at hr
  by_cases hd7:nv≠(ub.length:Int)
  · rw [if_pos hd7] at hr
    simp only [TA.mk.injEq,Sto.mk.injEq] at hr;obtain⟨q1,q2,q3,q4,q5,q6⟩:=hr;subst q1 q2 q3 q4 q5 q6
    (repeat' (first|refine ja ?_ ?_|intro _))<;>first|omega|exact jb|exact jc ‹False›|skip
    all_goals first
     |with_reducible rfl
     |with_reducible assumption
     |omega
     |exact hs
     |exact hf.1
     |(exact(hf.2 _ ‹_›).1)
     |(exact(hf.2 _ ‹_›).2)
     |exact⟨hf,by decide⟩
     |exact⟨⟨hf,by decide⟩,by assumption⟩
     |(simp only [jh,ji];omega)
     |(exfalso;simp_all;done)
  rw [if_neg hd7] at hr
  (repeat' (first|refine ja ?_ ?_|intro _))<;>first|omega|exact jb|exact jc ‹False›|skip
  all_goals first
   |(with_reducible show Ok _ _ _ _;(try(exfalso;omega));exact seam rfl uj mixed [wR,wQ,yV,yU,yT,yS,zL,zK,yR,yQ,zS,zQ,yB,yA,xX,xW,xU,xR,uZ,uY,vw,vk] hX [0,1,2,4,10] ⟨[(0,.v (.one (.ptr 0 0))),(1,.v (.agg [.p (.int .i64 ui),.p (.int .i64 uz),.p (.str uo),.p (.list .byte ub),.p (.int .i64 us)])),(2,.v (.one (.p (.list .byte body)))),(4,.v (.one (.ptr 2 0))),(10,.v (.one (.p (.int .i64 nv))))],[.obj 170 [.ptr 1 0,.p (.str m),.p (.str t),.p (.int .i64 mi),.p (.list .fld f),.p (.int .i64 le)],.pack [.obj 54 [.ptr 1 0,.ptr 2 0],.pack [.obj 124 [.row 1,.p (.int .i64 n)],.row .upl 81 l],.pack [.obj 156 [.row 1,.p (.int .i64 s)],.row .byte 5 b]],.pack [.obj 81 [.p (.int .i64 ui),.p (.int .i64 uz),.p (.str uo),.p (.list .byte ub),.p (.int .i64 us)]]],131,none⟩ (by kernel_rfl) (key10 nv (by omega) hr))
   |with_reducible rfl
   |with_reducible assumption
   |omega
   |exact hs
   |exact hf.1
   |(exact(hf.2 _ ‹_›).1)
   |(exact(hf.2 _ ‹_›).2)
   |exact⟨hf,by decide⟩
   |exact⟨⟨hf,by decide⟩,by assumption⟩
   |(simp only [jh,ji];omega)
   |(exfalso;simp_all;done)
 clear hs2 hnn hbb key17 key10;subst hI;rw [show([99,111,110,116,101,110,116,45,116,121,112,101]:Str)=Zy from rfl];rw [show([97,112,112,108,105,99,97,116,105,111,110,47,111,102,102,115,101,116,43,111,99,116,101,116,45,115,116,114,101,97,109]:Str)=octS from rfl];simp only [nrmA,nrmB,nrlB,reduceCtorEq,HO.pack.injEq,HO.obj.injEq]
 have hcl:Zy.length≤1000000:=by decide
 generalize oneT f Zy=oc at *;obtain⟨ov,oc⟩:=oc
 try simp only at *
 generalize xK ov=pm at *;obtain⟨⟨pw,pp⟩,pc⟩:=pm
 try simp only at *
 by_cases hd8:oc=9
 · rw [if_pos hd8] at hr
   simp only [TA.mk.injEq,Sto.mk.injEq] at hr;obtain⟨q1,q2,q3,q4,q5,q6⟩:=hr;subst q1 q2 q3 q4 q5 q6;simp only [nrmA,nrmB,nrlB,reduceCtorEq,HO.pack.injEq,HO.obj.injEq,decide_true,decide_false,je,jd,forall_const,false_implies,true_implies,jf,jg,hd8]
   (repeat' (first|refine ja ?_ ?_|intro _))<;>first|omega|exact jb|exact jc ‹False›|skip
   all_goals first
    |with_reducible rfl
    |with_reducible assumption
    |omega
    |exact hs
    |exact hf.1
    |(exact(hf.2 _ ‹_›).1)
    |(exact(hf.2 _ ‹_›).2)
    |exact⟨hf,by decide⟩
    |exact⟨⟨hf,by decide⟩,by assumption⟩
    |(simp only [jh,ji];omega)
    |(exfalso;simp_all;done)
 rw [if_neg hd8] at hr
 try simp only [Bool.not_eq_false] at hd8
 simp only [nrmA,nrmB,nrlB,reduceCtorEq,HO.pack.injEq,HO.obj.injEq,decide_true,decide_false,je,jd,forall_const,false_implies,true_implies,jf,jg,hd8]
 by_cases hd9:pc≠0∨pw≠octS
 · rw [if_pos hd9] at hr
   simp only [TA.mk.injEq,Sto.mk.injEq] at hr;obtain⟨q1,q2,q3,q4,q5,q6⟩:=hr;subst q1 q2 q3 q4 q5 q6
   (repeat' (first|refine ja ?_ ?_|intro _))<;>first|omega|exact jb|exact jc ‹False›|skip
   all_goals first
    |with_reducible rfl
    |with_reducible assumption
    |omega
    |exact hs
    |exact hf.1
    |(exact(hf.2 _ ‹_›).1)
    |(exact(hf.2 _ ‹_›).2)
    |exact⟨hf,by decide⟩
    |exact⟨⟨hf,by decide⟩,by assumption⟩
    |(simp only [jh,ji];omega)
    |(exfalso;simp_all;done)
 rw [if_neg hd9] at hr;simp only [not_or,ne_eq,Decidable.not_not] at hd9;obtain⟨g1,g2⟩:=hd9;clear hcm;subst g1 g2;simp only [nrmA,nrmB,nrlB,reduceCtorEq,HO.pack.injEq,HO.obj.injEq,jf,false_implies,true_and,and_true]
 (repeat' (first|refine ja ?_ ?_|intro _))<;>first|omega|exact jb|exact jc ‹False›|skip
 all_goals first
  |(with_reducible show Ok _ _ _ _;(try(exfalso;omega));exact seam rfl uj mixed [wR,wQ,yV,yU,yT,yS,zL,zK,yR,yQ,zS,zQ,yB,yA,xX,xW,xU,xR,uZ,uY,vw,vk] hX [0,1,2,4] ⟨[(0,.v (.one (.ptr 0 0))),(1,.v (.agg [.p (.int .i64 ui),.p (.int .i64 uz),.p (.str uo),.p (.list .byte ub),.p (.int .i64 us)])),(2,.v (.one (.p (.list .byte body)))),(4,.v (.one (.ptr 2 0)))],[.obj 170 [.ptr 1 0,.p (.str m),.p (.str t),.p (.int .i64 mi),.p (.list .fld f),.p (.int .i64 le)],.pack [.obj 54 [.ptr 1 0,.ptr 2 0],.pack [.obj 124 [.row 1,.p (.int .i64 n)],.row .upl 81 l],.pack [.obj 156 [.row 1,.p (.int .i64 s)],.row .byte 5 b]],.pack [.obj 81 [.p (.int .i64 ui),.p (.int .i64 uz),.p (.str uo),.p (.list .byte ub),.p (.int .i64 us)]]],131,none⟩ (by kernel_rfl) (key5 () hr))
  |with_reducible rfl
  |with_reducible assumption
  |omega
  |exact hs
  |exact hf.1
  |(exact(hf.2 _ ‹_›).1)
  |(exact(hf.2 _ ‹_›).2)
  |exact⟨hf,by decide⟩
  |exact⟨⟨hf,by decide⟩,by assumption⟩
  |(simp only [jh,ji];omega)
  |(exfalso;simp_all;done)
  |skip
 exact seam rfl uj mixed [wR,wQ,yV,yU,yT,yS,zL,zK,yR,yQ,zS,zQ,yB,yA,xX,xW,xU,xR,uZ,uY,vw,vk] hX [0,1,2,4] ⟨[(0,.v (.one (.ptr 0 0))),(1,.v (.agg [.p (.int .i64 ui),.p (.int .i64 uz),.p (.str uo),.p (.list .byte ub),.p (.int .i64 us)])),(2,.v (.one (.p (.list .byte body)))),(4,.v (.one (.ptr 2 0)))],[.obj 170 [.ptr 1 0,.p (.str m),.p (.str t),.p (.int .i64 mi),.p (.list .fld f),.p (.int .i64 le)],.pack [.obj 54 [.ptr 1 0,.ptr 2 0],.pack [.obj 124 [.row 1,.p (.int .i64 n)],.row .upl 81 l],.pack [.obj 156 [.row 1,.p (.int .i64 s)],.row .byte 5 b]],.pack [.obj 81 [.p (.int .i64 ui),.p (.int .i64 uz),.p (.str uo),.p (.list .byte ub),.p (.int .i64 us)]]],131,none⟩ (by kernel_rfl) (key5 () hr)
def ZV:Know Tryz.prog:=⟨132,XY,zeH⟩
def ZU:Know Tryz.prog:=⟨132,fun I=>zu I (XY I),zf zeH⟩
end Go.Proofs.YtkjepecoodjbmaaGreatDoor
namespace Go.Proofs.YtkjepecoodjbmaaGreatDoor
open Go Go.Sep Go.Ab
set_option maxRecDepth 100000
theorem zl6 {l:List Upl} {n:Int} (h:zJ l n) (id:Int):(getU l id).bytes.length≤2000∧(getU l id).size≤2000:=by
 unfold getU
 split
 · rename_i hi
   rw [wK hi];have:=h.each _ (List.getElem_mem hi);exact⟨this.bl,this.s2⟩
 · decide
def XW (I:Alg):KU
 |[.v (.one (.ptr 0 0)),.v (.one (.p (.list .byte body)))],[.obj 170 [.ptr 1 0,.p (.str m),.p (.str t),.p (.int .i64 mi),.p (.list .fld f),.p (.int .i64 le)],.pack [.obj 54 [.ptr 1 0,.ptr 2 0],.pack [.obj 124 [.row 1,.p (.int .i64 n)],.row .upl 81 l],.pack [.obj 156 [.row 1,.p (.int .i64 s)],.row .byte 5 b]]]=>(fun(m t:Str) (f:List Fld) (l:List Upl) (b body:Str)=>(some (.one ⟨I.hid (FOk f∧zJ l n∧n≤200000∧b.length≤100000∧body.length≤100000),(.pan (.ifc 165 true [.int .i64 (I.hid ((yC ⟨l,n,b,s⟩ m t f body).st)),.list .fld (I.hid ((yC ⟨l,n,b,s⟩ m t f body).fs)),.list .byte (I.hid ([]))])),[.obj 170 [.ptr 1 0,.p (.str m),.p (.str t),.p (.int .i64 mi),.p (.list .fld f),.p (.int .i64 le)],.pack [.obj 54 [.ptr 1 0,.ptr 2 0],.pack [.obj 124 [.row 1,.p (.int .i64 (I.hid ((yC ⟨l,n,b,s⟩ m t f body).q.n)))],.row .upl 81 (I.hid ((yC ⟨l,n,b,s⟩ m t f body).q.l))],.pack [.obj 156 [.row 1,.p (.int .i64 (I.hid ((yC ⟨l,n,b,s⟩ m t f body).q.s)))],.row .byte 5 (I.hid ((yC ⟨l,n,b,s⟩ m t f body).q.b))]]]⟩):Option CT)) m t f l b body
 |_,_=>none
set_option maxHeartbeats 8000000 in
theorem zeG:zx Tryz.prog 88 (XW alg):=by
 intro args hp r h;unfold XW at h;split at h<;>cases h
 rename_i body m t mi f le n l s b
 revert f l;intro(f:List Fld) (l:List Upl)
 simp only [CT.Good,zh];intro hneed;obtain⟨hf,hs,hn,hb,hbl⟩:=hneed;have hn0:=hs.n0;have hus:=zl6 hs (idV t);generalize hr:yC ⟨l,n,b,s⟩ m t f body=r;obtain⟨st,fs,⟨l',n',b',s'⟩⟩:=r;unfold yC at hr
 try simp only at hr
 refine spH Tryz.func88 (by kernel_rfl) { cfgT with seam:=[3,10],keep:=some [0,1,4,5,7,55]} [xP,xO,zL,zK,zS,zQ,yB,yA,xX,xW,xU,xR,vw,vk,qL,qK,QT,QS,XV,XU,ZV,ZU] (by kernel_rfl) ?_
 intro I X hI hX
 refine orcL ?_;go_invoke;refine orcS (by kernel_rfl) ?_
 simp only [zi,Nat.reduceAdd]
 have key10: ∀ (_u:Unit),(if uplB ⟨l,n,b,s⟩ t=false then(⟨404,[],⟨l,n,b,s⟩⟩:TA)
  else if m=zrT then(⟨200,zbp (getU l (idV t)),⟨l,n,b,s⟩⟩:TA)
  else if m=zau then wP ⟨l,n,b,s⟩ (getU l (idV t)) f body
  else if m=zsu then VJ ⟨l,n,b,s⟩ (getU l (idV t))
  else(⟨405,[],⟨l,n,b,s⟩⟩:TA))=⟨st,fs,⟨l',n',b',s'⟩⟩→Ok Tryz.prog X (fun o h=>o=AOut.pan (C.ifc 165 true [P.int IntKind.i64 st,P.list U.fld fs,P.list U.byte []])∧h=[HO.obj 170 [C.ptr 1 0,C.p (P.str m),C.p (P.str t),C.p (P.int IntKind.i64 mi),C.p (P.list U.fld f),C.p (P.int IntKind.i64 le)],HO.pack [HO.obj 54 [C.ptr 1 0,C.ptr 2 0],HO.pack [HO.obj 124 [C.row 1,C.p (P.int IntKind.i64 n')],HO.row U.upl 81 l'],HO.pack [HO.obj 156 [C.row 1,C.p (P.int IntKind.i64 s')],HO.row U.byte 5 b']]]) (go I tab { cfgT with seam:=[3,10],keep:=some [0,1,4,5,7,55]} [xP,xO,zL,zK,zS,zQ,yB,yA,xX,xW,xU,xR,vw,vk,qL,qK,QT,QS,XV,XU,ZV,ZU] [⟨vO Tryz.f88,finK I tab { cfgT with seam:=[3,10],keep:=some [0,1,4,5,7,55]} 2 Tryz.f88⟩] 0 [1,1,1,1,0] ⟨[(0,.v (.one (.ptr 0 0))),(1,.v (.one (.p (.list .byte body))))],[.obj 170 [.ptr 1 0,.p (.str m),.p (.str t),.p (.int .i64 mi),.p (.list .fld f),.p (.int .i64 le)],.pack [.obj 54 [.ptr 1 0,.ptr 2 0],.pack [.obj 124 [.row 1,.p (.int .i64 n)],.row .upl 81 l],.pack [.obj 156 [.row 1,.p (.int .i64 s)],.row .byte 5 b]]],84,none⟩):=by
  intro _ hr
  refine orcL ?_;go_invoke;refine orcS (by kernel_rfl) ?_
  simp only [zi,Nat.reduceAdd];subst hI;unfold zrT zau zsu at hr;unfold VJ wsC wsS syS at hr
  try simp only at hr
  simp only [nrmA,nrmB,nrlB,reduceCtorEq,HO.pack.injEq,HO.obj.injEq];generalize getU l (idV t)=u at *;obtain⟨ui,uz,uo,ub,us⟩:=u
  try simp only at *
  by_cases hd1:uplB ⟨l,n,b,s⟩ t=false
  · rw [if_pos hd1] at hr
    simp only [TA.mk.injEq,Sto.mk.injEq] at hr;obtain⟨q1,q2,q3,q4,q5,q6⟩:=hr;subst q1 q2 q3 q4 q5 q6
    try simp only [nrmA,nrmB,nrlB,reduceCtorEq,HO.pack.injEq,HO.obj.injEq,decide_true,decide_false,je,jd,forall_const,false_implies,true_implies,jf,jg,hd1]
    (repeat' (first|refine ja ?_ ?_|intro _))<;>first|omega|exact jb|exact jc ‹False›|skip
    all_goals first
     |with_reducible rfl
     |with_reducible assumption
     |omega
     |exact hs
     |exact hf.1
     |(exact(hf.2 _ ‹_›).1)
     |(exact(hf.2 _ ‹_›).2)
     |exact⟨hf,by decide⟩
     |exact⟨⟨hf,by decide⟩,by assumption⟩
     |(simp only [jh,ji];omega)
     |(exfalso;simp_all;done)
  rw [if_neg hd1] at hr
  try simp only [Bool.not_eq_false,ne_eq,Decidable.not_not] at hd1
  try simp only [nrmA,nrmB,nrlB,reduceCtorEq,HO.pack.injEq,HO.obj.injEq,decide_true,decide_false,je,jd,forall_const,false_implies,true_implies,jf,jg,hd1]
  by_cases hd2:m=[72,69,65,68]
  · rw [if_pos hd2] at hr
    simp only [TA.mk.injEq,Sto.mk.injEq] at hr;obtain⟨q1,q2,q3,q4,q5,q6⟩:=hr;subst q1 q2 q3 q4 q5 q6
    try simp only [nrmA,nrmB,nrlB,reduceCtorEq,HO.pack.injEq,HO.obj.injEq,decide_true,decide_false,je,jd,forall_const,false_implies,true_implies,jf,jg,hd2]
    (repeat' (first|refine ja ?_ ?_|intro _))<;>first|omega|exact jb|exact jc ‹False›|skip
    all_goals first
     |with_reducible rfl
     |with_reducible assumption
     |omega
     |exact hs
     |exact hf.1
     |(exact(hf.2 _ ‹_›).1)
     |(exact(hf.2 _ ‹_›).2)
     |exact⟨hf,by decide⟩
     |exact⟨⟨hf,by decide⟩,by assumption⟩
     |(simp only [jh,ji];omega)
     |(exfalso;simp_all;done)
  rw [if_neg hd2] at hr
  try simp only [Bool.not_eq_false,ne_eq,Decidable.not_not] at hd2
  try simp only [nrmA,nrmB,nrlB,reduceCtorEq,HO.pack.injEq,HO.obj.injEq,decide_true,decide_false,je,jd,forall_const,false_implies,true_implies,jf,jg,hd2]
  by_cases hd3:m=[80,65,84,67,72]
  · rw [if_pos hd3] at hr
    simp only [nrmA,nrmB,nrlB,reduceCtorEq,HO.pack.injEq,HO.obj.injEq,decide_true,decide_false,je,jd,forall_const,false_implies,true_implies,jf,jg,hd3,hr]
    (repeat' (first|refine ja ?_ ?_|intro _))<;>first|omega|exact jb|exact jc ‹False›|skip
    all_goals first
     |with_reducible rfl
     |with_reducible assumption
     |omega
     |exact hs
     |exact hf.1
     |(exact(hf.2 _ ‹_›).1)
     |(exact(hf.2 _ ‹_›).2)
     |exact⟨hf,by decide⟩
     |exact⟨⟨hf,by decide⟩,by assumption⟩
     |(simp only [jh,ji];omega)
     |(exfalso;simp_all;done)
  rw [if_neg hd3] at hr
  try simp only [Bool.not_eq_false,ne_eq,Decidable.not_not] at hd3
  try simp only [nrmA,nrmB,nrlB,reduceCtorEq,HO.pack.injEq,HO.obj.injEq,decide_true,decide_false,je,jd,forall_const,false_implies,true_implies,jf,jg,hd3]
  by_cases hd:m=[68,69,76,69,84,69]
  · rw [if_pos hd] at hr
    by_cases h1:wrtC l n b ⟨4,ui,0,[]⟩=0
    · rw [if_neg (fun h=>h h1)] at hr
      simp only [TA.mk.injEq,Sto.mk.injEq] at hr;obtain⟨q1,q2,q3,q4,q5,q6⟩:=hr;subst q1 q2 q3 q4 q5 q6;simp only [nrmA,nrmB,nrlB,reduceCtorEq,HO.pack.injEq,HO.obj.injEq,decide_true,decide_false,je,jd,forall_const,false_implies,true_implies,jf,jg,hd,h1]
      (repeat' (first|refine ja ?_ ?_|intro _))<;>first|omega|exact jb|exact jc ‹False›|skip
      all_goals first
       |with_reducible rfl
       |with_reducible assumption
       |omega
       |exact hs
       |exact hf.1
       |(exact(hf.2 _ ‹_›).1)
       |(exact(hf.2 _ ‹_›).2)
       |exact⟨hf,by decide⟩
       |exact⟨⟨hf,by decide⟩,by assumption⟩
       |(simp only [jh,ji];omega)
       |(exfalso;simp_all;done)
    · rw [if_pos h1] at hr
      simp only [TA.mk.injEq,Sto.mk.injEq] at hr;obtain⟨q1,q2,q3,q4,q5,q6⟩:=hr;subst q1 q2 q3 q4 q5 q6
      have e1:wrtL l n b ⟨4,ui,0,[]⟩=l:=by simp only [wrtL,if_neg h1]
      have e2:wrtN l n b ⟨4,ui,0,[]⟩=n:=by simp only [wrtN,if_neg h1]
      have e3:wrtB l n b ⟨4,ui,0,[]⟩=b:=by simp only [wrtB,if_neg h1]
      try rw [e1,e2,e3]
      simp only [nrmA,nrmB,nrlB,reduceCtorEq,HO.pack.injEq,HO.obj.injEq,decide_true,decide_false,je,jd,forall_const,false_implies,true_implies,jf,jg,hd,h1]
      (repeat' (first|refine ja ?_ ?_|intro _))<;>first|omega|exact jb|exact jc ‹False›|skip
      all_goals first
       |with_reducible rfl
       |with_reducible assumption
       |omega
       |exact hs
       |exact hf.1
       |(exact(hf.2 _ ‹_›).1)
       |(exact(hf.2 _ ‹_›).2)
       |exact⟨hf,by decide⟩
       |exact⟨⟨hf,by decide⟩,by assumption⟩
       |(simp only [jh,ji];omega)
       |(exfalso;simp_all;done)
  · rw [if_neg hd] at hr
    simp only [TA.mk.injEq,Sto.mk.injEq] at hr;obtain⟨q1,q2,q3,q4,q5,q6⟩:=hr;subst q1 q2 q3 q4 q5 q6;simp only [nrmA,nrmB,nrlB,reduceCtorEq,HO.pack.injEq,HO.obj.injEq,decide_true,decide_false,je,jd,forall_const,false_implies,true_implies,jf,jg,hd]
    (repeat' (first|refine ja ?_ ?_|intro _))<;>first|omega|exact jb|exact jc ‹False›|skip
    all_goals first
     |with_reducible rfl
     |with_reducible assumption
     |omega
     |exact hs
     |exact hf.1
     |(exact(hf.2 _ ‹_›).1)
     |(exact(hf.2 _ ‹_›).2)
     |exact⟨hf,by decide⟩
     |exact⟨⟨hf,by decide⟩,by assumption⟩
     |(simp only [jh,ji];omega)
     |(exfalso;simp_all;done)
 have key3: ∀ (q:Bool),q=decide (t=sW)→(if(oneT f zhg).2=9 then(⟨400,[],⟨l,n,b,s⟩⟩:TA)
  else if(oneT f zhg).1≠verS then(⟨412,[⟨zmJ,verS⟩],⟨l,n,b,s⟩⟩:TA)
  else if t=sW then(if m≠zbu then(⟨405,[],⟨l,n,b,s⟩⟩:TA) else xA ⟨l,n,b,s⟩ f)
  else(if uplB ⟨l,n,b,s⟩ t=false then(⟨404,[],⟨l,n,b,s⟩⟩:TA)
  else if m=zrT then(⟨200,zbp (getU l (idV t)),⟨l,n,b,s⟩⟩:TA)
  else if m=zau then wP ⟨l,n,b,s⟩ (getU l (idV t)) f body
  else if m=zsu then VJ ⟨l,n,b,s⟩ (getU l (idV t))
  else(⟨405,[],⟨l,n,b,s⟩⟩:TA)))=⟨st,fs,⟨l',n',b',s'⟩⟩→Ok Tryz.prog X (fun o h=>o=AOut.pan (C.ifc 165 true [P.int IntKind.i64 st,P.list U.fld fs,P.list U.byte []])∧h=[HO.obj 170 [C.ptr 1 0,C.p (P.str m),C.p (P.str t),C.p (P.int IntKind.i64 mi),C.p (P.list U.fld f),C.p (P.int IntKind.i64 le)],HO.pack [HO.obj 54 [C.ptr 1 0,C.ptr 2 0],HO.pack [HO.obj 124 [C.row 1,C.p (P.int IntKind.i64 n')],HO.row U.upl 81 l'],HO.pack [HO.obj 156 [C.row 1,C.p (P.int IntKind.i64 s')],HO.row U.byte 5 b']]]) (go I tab { cfgT with seam:=[3,10],keep:=some [0,1,4,5,7,55]} [xP,xO,zL,zK,zS,zQ,yB,yA,xX,xW,xU,xR,vw,vk,qL,qK,QT,QS,XV,XU,ZV,ZU] [⟨vO Tryz.f88,finK I tab { cfgT with seam:=[3,10],keep:=some [0,1,4,5,7,55]} 2 Tryz.f88⟩] 0 [1,1,0,0] ⟨[(0,.v (.one (.ptr 0 0))),(1,.v (.one (.p (.list .byte body)))),(4,.v (.one (.p (.bool q))))],[.obj 170 [.ptr 1 0,.p (.str m),.p (.str t),.p (.int .i64 mi),.p (.list .fld f),.p (.int .i64 le)],.pack [.obj 54 [.ptr 1 0,.ptr 2 0],.pack [.obj 124 [.row 1,.p (.int .i64 n)],.row .upl 81 l],.pack [.obj 156 [.row 1,.p (.int .i64 s)],.row .byte 5 b]]],84,none⟩):=by
  intro q hq hr
  refine orcL ?_;go_invoke;refine orcS (by kernel_rfl) ?_
  simp only [zi,Nat.reduceAdd];subst hI;rw [show([116,117,115,45,114,101,115,117,109,97,98,108,101]:Str)=zhg from rfl];unfold verS zbu at hr;unfold zmJ at hr
  have htl:zhg.length≤1000000:=by decide
  simp only [nrmA,nrmB,nrlB,reduceCtorEq,HO.pack.injEq,HO.obj.injEq];generalize oneT f zhg=oc at *;obtain⟨ov,oc⟩:=oc
  try simp only at *
  by_cases hd4:oc=9
  · rw [if_pos hd4] at hr
    simp only [TA.mk.injEq,Sto.mk.injEq] at hr;obtain⟨q1,q2,q3,q4,q5,q6⟩:=hr;subst q1 q2 q3 q4 q5 q6
    try simp only [nrmA,nrmB,nrlB,reduceCtorEq,HO.pack.injEq,HO.obj.injEq,decide_true,decide_false,je,jd,forall_const,false_implies,true_implies,jf,jg,hd4]
    (repeat' (first|refine ja ?_ ?_|intro _))<;>first|omega|exact jb|exact jc ‹False›|skip
    all_goals first
     |with_reducible rfl
     |with_reducible assumption
     |omega
     |exact hs
     |exact hf.1
     |(exact(hf.2 _ ‹_›).1)
     |(exact(hf.2 _ ‹_›).2)
     |exact⟨hf,by decide⟩
     |exact⟨⟨hf,by decide⟩,by assumption⟩
     |(simp only [jh,ji];omega)
     |(exfalso;simp_all;done)
  rw [if_neg hd4] at hr
  try simp only [Bool.not_eq_false,ne_eq,Decidable.not_not] at hd4
  try simp only [nrmA,nrmB,nrlB,reduceCtorEq,HO.pack.injEq,HO.obj.injEq,decide_true,decide_false,je,jd,forall_const,false_implies,true_implies,jf,jg,hd4]
  by_cases hd5:ov≠[49,46,48,46,48]
  · rw [if_pos hd5] at hr
    simp only [TA.mk.injEq,Sto.mk.injEq] at hr;obtain⟨q1,q2,q3,q4,q5,q6⟩:=hr;subst q1 q2 q3 q4 q5 q6
    try simp only [nrmA,nrmB,nrlB,reduceCtorEq,HO.pack.injEq,HO.obj.injEq,decide_true,decide_false,je,jd,forall_const,false_implies,true_implies,jf,jg,hd5]
    (repeat' (first|refine ja ?_ ?_|intro _))<;>first|omega|exact jb|exact jc ‹False›|skip
    all_goals first
     |with_reducible rfl
     |with_reducible assumption
     |omega
     |exact hs
     |exact hf.1
     |(exact(hf.2 _ ‹_›).1)
     |(exact(hf.2 _ ‹_›).2)
     |exact⟨hf,by decide⟩
     |exact⟨⟨hf,by decide⟩,by assumption⟩
     |(simp only [jh,ji];omega)
     |(exfalso;simp_all;done)
  rw [if_neg hd5] at hr
  try simp only [Bool.not_eq_false,ne_eq,Decidable.not_not] at hd5
  try simp only [nrmA,nrmB,nrlB,reduceCtorEq,HO.pack.injEq,HO.obj.injEq,decide_true,decide_false,je,jd,forall_const,false_implies,true_implies,jf,jg,hd5]
  by_cases hff:t=sW
  · rw [if_pos hff] at hr
    rw [decide_eq_true hff] at hq;subst hq;simp only [nrmA,nrmB,nrlB,reduceCtorEq,HO.pack.injEq,HO.obj.injEq,decide_true,decide_false,je,jd,forall_const,false_implies,true_implies,jf,jg]
    by_cases hd6:m≠[80,79,83,84]
    · rw [if_pos hd6] at hr
      simp only [TA.mk.injEq,Sto.mk.injEq] at hr;obtain⟨q1,q2,q3,q4,q5,q6⟩:=hr;subst q1 q2 q3 q4 q5 q6
      try simp only [nrmA,nrmB,nrlB,reduceCtorEq,HO.pack.injEq,HO.obj.injEq,decide_true,decide_false,je,jd,forall_const,false_implies,true_implies,jf,jg,hd6]
      (repeat' (first|refine ja ?_ ?_|intro _))<;>first|omega|exact jb|exact jc ‹False›|skip
      all_goals first
       |with_reducible rfl
       |with_reducible assumption
       |omega
       |exact hs
       |exact hf.1
       |(exact(hf.2 _ ‹_›).1)
       |(exact(hf.2 _ ‹_›).2)
       |exact⟨hf,by decide⟩
       |exact⟨⟨hf,by decide⟩,by assumption⟩
       |(simp only [jh,ji];omega)
       |(exfalso;simp_all;done)
    rw [if_neg hd6] at hr
    try simp only [Bool.not_eq_false,ne_eq,Decidable.not_not] at hd6
    try simp only [nrmA,nrmB,nrlB,reduceCtorEq,HO.pack.injEq,HO.obj.injEq,decide_true,decide_false,je,jd,forall_const,false_implies,true_implies,jf,jg,hd6]
    simp only [nrmA,nrmB,nrlB,reduceCtorEq,HO.pack.injEq,HO.obj.injEq,decide_true,decide_false,je,jd,forall_const,false_implies,true_implies,jf,jg,hr]
    (repeat' (first|refine ja ?_ ?_|intro _))<;>first|omega|exact jb|exact jc ‹False›|skip
    all_goals first
     |with_reducible rfl
     |with_reducible assumption
     |omega
     |exact hs
     |exact hf.1
     |(exact(hf.2 _ ‹_›).1)
     |(exact(hf.2 _ ‹_›).2)
     |exact⟨hf,by decide⟩
     |exact⟨⟨hf,by decide⟩,by assumption⟩
     |(simp only [jh,ji];omega)
     |(exfalso;simp_all;done)
  · rw [if_neg hff] at hr
    rw [decide_eq_false hff] at hq;subst hq;simp only [nrmA,nrmB,nrlB,reduceCtorEq,HO.pack.injEq,HO.obj.injEq,decide_true,decide_false,je,jd,forall_const,false_implies,true_implies,jf,jg]
    (repeat' (first|refine ja ?_ ?_|intro _))<;>first|omega|exact jb|exact jc ‹False›|skip
    all_goals first
     |((with_reducible show Ok _ _ _ _);(try(exfalso;omega));exact seam rfl uj mixed [xP,xO,zL,zK,zS,zQ,yB,yA,xX,xW,xU,xR,vw,vk,qL,qK,QT,QS,XV,XU,ZV,ZU] hX [0,1] ⟨[(0,.v (.one (.ptr 0 0))),(1,.v (.one (.p (.list .byte body))))],[.obj 170 [.ptr 1 0,.p (.str m),.p (.str t),.p (.int .i64 mi),.p (.list .fld f),.p (.int .i64 le)],.pack [.obj 54 [.ptr 1 0,.ptr 2 0],.pack [.obj 124 [.row 1,.p (.int .i64 n)],.row .upl 81 l],.pack [.obj 156 [.row 1,.p (.int .i64 s)],.row .byte 5 b]]],84,none⟩ (by kernel_rfl) (key10 () hr))
     |with_reducible rfl
     |with_reducible assumption
     |omega
     |exact hs
     |exact hf.1
     |(exact(hf.2 _ ‹_›).1)
     |(exact(hf.2 _ ‹_›).2)
     |exact⟨hf,by decide⟩
     |exact⟨⟨hf,by decide⟩,by assumption⟩
     |(simp only [jh,ji];omega)
     |(exfalso;simp_all;done)
 clear key10;subst hI;unfold zvQ zmJ verS zvh zvk zvj at hr;rw [show([47,102,105,108,101,115]:Str)=sW from rfl];simp only [nrmA,nrmB,nrlB,reduceCtorEq,HO.pack.injEq,HO.obj.injEq]
 by_cases hd7:t=sW∧m=[79,80,84,73,79,78,83]
 · rw [if_pos hd7] at hr
   simp only [TA.mk.injEq,Sto.mk.injEq] at hr;obtain⟨q1,q2,q3,q4,q5,q6⟩:=hr;subst q1 q2 q3 q4 q5 q6
   try simp only [nrmA,nrmB,nrlB,reduceCtorEq,HO.pack.injEq,HO.obj.injEq,decide_true,decide_false,je,jd,forall_const,false_implies,true_implies,jf,jg,hd7]
   (repeat' (first|refine ja ?_ ?_|intro _))<;>first|omega|exact jb|exact jc ‹False›|skip
   all_goals first
    |with_reducible rfl
    |with_reducible assumption
    |omega
    |exact hs
    |exact hf.1
    |(exact(hf.2 _ ‹_›).1)
    |(exact(hf.2 _ ‹_›).2)
    |exact⟨hf,by decide⟩
    |exact⟨⟨hf,by decide⟩,by assumption⟩
    |(simp only [jh,ji];omega)
    |(exfalso;simp_all;done)
 rw [if_neg hd7] at hr
 try simp only [Bool.not_eq_false,ne_eq,Decidable.not_not] at hd7
 try simp only [nrmA,nrmB,nrlB,reduceCtorEq,HO.pack.injEq,HO.obj.injEq,decide_true,decide_false,je,jd,forall_const,false_implies,true_implies,jf,jg,hd7]
 have hbeq:(t == sW)=decide (t=sW):=by rw [Bool.eq_iff_iff];simp
 (repeat' (first|refine ja ?_ ?_|intro _))<;>first|omega|exact jb|exact jc ‹False›|skip
 all_goals first
  |((with_reducible show Ok _ _ _ _);(try(exfalso;omega));exact seam rfl uj mixed [xP,xO,zL,zK,zS,zQ,yB,yA,xX,xW,xU,xR,vw,vk,qL,qK,QT,QS,XV,XU,ZV,ZU] hX [0,1,4] ⟨[(0,.v (.one (.ptr 0 0))),(1,.v (.one (.p (.list .byte body)))),(4,.v (.one (.p (.bool ((t == sW))))))],[.obj 170 [.ptr 1 0,.p (.str m),.p (.str t),.p (.int .i64 mi),.p (.list .fld f),.p (.int .i64 le)],.pack [.obj 54 [.ptr 1 0,.ptr 2 0],.pack [.obj 124 [.row 1,.p (.int .i64 n)],.row .upl 81 l],.pack [.obj 156 [.row 1,.p (.int .i64 s)],.row .byte 5 b]]],84,none⟩ (by kernel_rfl) (key3 _ hbeq hr))
  |with_reducible rfl
  |with_reducible assumption
  |omega
  |exact hs
  |exact hf.1
  |(exact(hf.2 _ ‹_›).1)
  |(exact(hf.2 _ ‹_›).2)
  |exact⟨hf,by decide⟩
  |exact⟨⟨hf,by decide⟩,by assumption⟩
  |(simp only [jh,ji];omega)
  |(exfalso;simp_all;done)
def zmR:Know Tryz.prog:=⟨88,XW,zeG⟩
def zmQ:Know Tryz.prog:=⟨88,fun I=>zu I (XW I),zf zeG⟩
end Go.Proofs.YtkjepecoodjbmaaGreatDoor
namespace Go.Proofs.YtkjepecoodjbmaaGreatDoor
open Go Go.Sep Go.Ab
set_option maxRecDepth 100000
theorem te {c:Prop} [Decidable c] {a b:TA} (ha:a.fs.length≤4) (hb:b.fs.length≤4):(if c then a else b).fs.length≤4:=by split<;>assumption
theorem zbN (q:Sto) (m t:Str) (f:List Fld) (body:Str):(yC q m t f body).fs.length≤4:=by
 have h1:(xA q f).fs.length≤4:=by
  unfold xA
  repeat' split
  all_goals simp
 have h2: ∀ u,(wP q u f body).fs.length≤4:=fun u=>by
  unfold wP
  repeat' refine te ?_ ?_
  all_goals simp
 have h3: ∀ u,(VJ q u).fs.length≤4:=fun u=>by unfold VJ;split<;>simp
 have h4: ∀ u,(zbp u).length≤4:=fun u=>by unfold zbp;split<;>simp
 unfold yC
 repeat' split
 all_goals first|exact h1|exact h2 _|exact h3 _|exact h4 _|simp
theorem zvr (m t:Str) (mi:Int) (f:List Fld) (le:Int) (l:List Upl) (n:Int) (b:Str) (s st:Int) (fs:List Fld) (hfs:fs.length≤1000):SpcD Tryz.prog 86 [.ptr 2 0] (.pan (.ifc 165 true [.int .i64 st,.list .fld fs,.list .byte []])) [.pack [.obj 54 [.ptr 1 0,.ptr 2 0],.pack [.obj 124 [.row 1,.p (.int .i64 n)],.row .upl 81 l],.pack [.obj 156 [.row 1,.p (.int .i64 s)],.row .byte 5 b]],.obj 30 [.p (.str m),.p (.str t),.p (.int .i64 mi),.p (.list .fld f),.p (.int .i64 le)],.obj 128 [.p (.int .i64 0),.nilS,.nilS],.obj 170 [.ptr 0 0,.p (.str m),.p (.str t),.p (.int .i64 mi),.p (.list .fld f),.p (.int .i64 le)]] .ret [.pack [.obj 54 [.ptr 1 0,.ptr 2 0],.pack [.obj 124 [.row 1,.p (.int .i64 n)],.row .upl 81 l],.pack [.obj 156 [.row 1,.p (.int .i64 s)],.row .byte 5 b]],.pack [.obj 30 [.p (.str m),.p (.str t),.p (.int .i64 mi),.p (.list .fld f),.p (.int .i64 le)]],.pack [.obj 128 [.p (.int .i64 st),.row 1,.p (.list .byte [])],.row .fld 108 (resT::fs)],.obj 170 [.ptr 0 0,.p (.str m),.p (.str t),.p (.int .i64 mi),.p (.list .fld f),.p (.int .i64 le)]]:=by
 refine Ue uj mixed Tryz.func86 (by kernel_rfl) cfgT [yB,yA] (rest:=_) rfl (by kernel_rfl) ?_
 intro I X hI hX
 refine orcL ?_;go_invoke;refine orcS (by kernel_rfl) ?_
 simp only [zi,Nat.reduceAdd];subst hI;simp only [nrmA,nrmB,nrlB,reduceCtorEq,HO.pack.injEq,HO.obj.injEq,jh,ji,List.cons_append,List.nil_append];unfold resT zvg verS
 (repeat' (first|refine ja ?_ ?_|intro _))<;>first|omega|exact jb|exact jc ‹False›|skip
 all_goals first|omega|trivial|rfl|trace_state
def zwP:Door Tryz.prog where
 g:=86
 c :=fun _ m caps hp=>match m,caps,hp with
   |.pan (.ifc 165 true [.int .i64 st,.list .fld fs,.list .byte bb]),[.ptr 2 0],[.pack [.obj 54 [.ptr 1 0,.ptr 2 0],.pack [.obj 124 [.row 1,.p (.int .i64 n)],.row .upl 81 l],.pack [.obj 156 [.row 1,.p (.int .i64 s)],.row .byte 5 b]],.obj 30 [.p (.str m),.p (.str t),.p (.int .i64 mi),.p (.list .fld f),.p (.int .i64 le)],.obj 128 [.p (.int .i64 z0),.nilS,.nilS],.obj 170 [.ptr 0 0,.p (.str m1),.p (.str t1),.p (.int .i64 mi1),.p (.list .fld f1),.p (.int .i64 le1)]]=>some (fs.length≤1000∧bb=[]∧z0=0∧m1=m∧t1=t∧mi1=mi∧f1=f∧le1=le,.ret,[.pack [.obj 54 [.ptr 1 0,.ptr 2 0],.pack [.obj 124 [.row 1,.p (.int .i64 n)],.row .upl 81 l],.pack [.obj 156 [.row 1,.p (.int .i64 s)],.row .byte 5 b]],.pack [.obj 30 [.p (.str m),.p (.str t),.p (.int .i64 mi),.p (.list .fld f),.p (.int .i64 le)]],.pack [.obj 128 [.p (.int .i64 st),.row 1,.p (.list .byte [])],.row .fld 108 (resT::fs)],.obj 170 [.ptr 0 0,.p (.str m),.p (.str t),.p (.int .i64 mi),.p (.list .fld f),.p (.int .i64 le)]])
   |_,_,_=>none
 ok:=by
  intro m caps hp p m' hp' h hp1
  split at h
  · cases h
    obtain⟨h1,rfl,rfl,rfl,rfl,rfl,rfl,rfl⟩:=hp1;exact zvr _ _ _ _ _ _ _ _ _ _ _ h1
  · cases h
def ziY (I:Alg):KU
 |[.v (.one (.ptr 0 0)),.v (.agg [.p (.str m),.p (.str t),.p (.int .i64 mi),.p (.list .fld f),.p (.int .i64 le)]),.v (.one (.p (.list .byte body)))],[.pack [.obj 54 [.ptr 1 0,.ptr 2 0],.pack [.obj 124 [.row 1,.p (.int .i64 n)],.row .upl 81 l],.pack [.obj 156 [.row 1,.p (.int .i64 s)],.row .byte 5 b]]]=>(fun(m t:Str) (f:List Fld) (l:List Upl) (b body:Str)=>(some (.one ⟨I.hid (FOk f∧zJ l n∧n≤200000∧b.length≤100000∧body.length≤100000),(.ret (.v (.agg [.p (.int .i64 (I.hid ((yC ⟨l,n,b,s⟩ m t f body).st))),.p (.list .fld (I.hid (resT::(yC ⟨l,n,b,s⟩ m t f body).fs))),.p (.list .byte (I.hid ([])))]))),[.pack [.obj 54 [.ptr 1 0,.ptr 2 0],.pack [.obj 124 [.row 1,.p (.int .i64 (I.hid ((yC ⟨l,n,b,s⟩ m t f body).q.n)))],.row .upl 81 (I.hid ((yC ⟨l,n,b,s⟩ m t f body).q.l))],.pack [.obj 156 [.row 1,.p (.int .i64 (I.hid ((yC ⟨l,n,b,s⟩ m t f body).q.s)))],.row .byte 5 (I.hid ((yC ⟨l,n,b,s⟩ m t f body).q.b))]]]⟩):Option CT)) m t f l b body
 |_,_=>none
theorem zsG:zx Tryz.prog 49 (ziY alg):=by
 intro args hp r h;unfold ziY at h;split at h<;>cases h
 rename_i m t mi f le body n l s b
 revert f l;intro(f:List Fld) (l:List Upl)
 simp only [CT.Good,zh];intro hneed;have hfew:=zbN ⟨l,n,b,s⟩ m t f body;generalize hr:yC ⟨l,n,b,s⟩ m t f body=r at hfew;obtain⟨st,fs,⟨l',n',b',s'⟩⟩:=r
 refine zvs uj mixed Tryz.func49 (by kernel_rfl) { cfgT with keep:=some [0,1,2,4,6,7]} [zmR,zmQ] zwP (by kernel_rfl) ?_
 intro I X hI hX
 refine orcL ?_;go_invoke;refine orcS (by kernel_rfl) ?_
 simp only [zi,Nat.reduceAdd];subst hI;simp only at hfew;simp only [nrmA,nrmB,nrlB,reduceCtorEq,V0.agg.injEq,HO.pack.injEq,HO.obj.injEq];simp only [hr]
 (repeat' (first|refine ja ?_ ?_|intro _))<;>first|omega|exact jb|exact jc ‹False›|skip
 all_goals first|omega|rfl|assumption|exact hneed.2.1|exact hneed.1.1|(exact(hneed.1.2 _ ‹_›).1)|(exact(hneed.1.2 _ ‹_›).2)|trace_state
def zmZ:Know Tryz.prog:=⟨49,ziY,zsG⟩
def zmY:Know Tryz.prog:=⟨49,fun I=>zu I (ziY I),zf zsG⟩
def zfn (t:Str):Bool:=decide (t=sW)||Lib.hasPrefix t wU
def Sz (I:Alg):KU
 |[.v (.one (.p (.str t)))],[]=>(fun(t:Str)=>(some (.one ⟨I.hid (t.length≤1000000),(.ret (.v (.one (.p (.bool (I.hid (zfn t))))))),[]⟩):Option CT)) t
 |_,_=>none
theorem ziW:zx Tryz.prog 124 (Sz alg):=by
 intro args hp r h;unfold Sz at h;split at h<;>cases h
 rename_i t;simp only [CT.Good,zh];intro hneed;generalize hr:zfn t=r;unfold zfn at hr
 refine spH Tryz.func124 (by kernel_rfl) { cfgT with keep:=some [0,2]} [xC,xB] (by kernel_rfl) ?_
 intro I X hI hX
 refine orcL ?_;go_invoke;refine orcS (by kernel_rfl) ?_
 simp only [zi,Nat.reduceAdd];subst hI;rw [show([47,102,105,108,101,115]:Str)=sW from rfl]
 try rw [show([47,102,105,108,101,115,47]:Str)=wU from rfl]
 simp only [nrmA,nrmB,nrlB,reduceCtorEq,V0.agg.injEq]
 by_cases h1:t=sW
 · rw [decide_eq_true h1,Bool.true_or] at hr
   subst hr;simp only [nrmA,nrmB,nrlB,reduceCtorEq,h1]
   (repeat' (first|refine ja ?_ ?_|intro _))<;>first|omega|exact jb|exact jc ‹False›|skip
   all_goals first|omega|rfl|assumption|(simp_all;done)|trace_state
 · rw [decide_eq_false h1,Bool.false_or] at hr
   simp only [nrmA,nrmB,nrlB,reduceCtorEq,h1]
   (repeat' (first|refine ja ?_ ?_|intro _))<;>first|omega|exact jb|exact jc ‹False›|skip
   all_goals first|omega|rfl|assumption|(simp_all;done)|trace_state
def zqI:Know Tryz.prog:=⟨124,Sz,ziW⟩
def zqH:Know Tryz.prog:=⟨124,fun I=>zu I (Sz I),zf ziW⟩
end Go.Proofs.YtkjepecoodjbmaaGreatDoor
namespace Go.Proofs.YtkjepecoodjbmaaGreatDoor
open Go Go.Sep Go.Ab
def zwb:Str:=[47,102,111,114,109]
def zmf:Str:=[102,105,108,101,110,97,109,101,32]
def zvV:Str:=[109,117,108,116,105,112,97,114,116,47,102,111,114,109,45,100,97,116,97]
def bndT:Str:=[98,111,117,110,100,97,114,121]
structure GA where
 r:Rpl
 q:Sto
def V6 (st:Int):Rpl:=⟨st,[],[]⟩
def rV (f:List Fld) (body:Str):List Prt × Int:=
 if(oneT f Zy).2≠0 then([],415)
 else if(xK (oneT f Zy).1).2≠0∨(xK (oneT f Zy).1).1.word≠zvV∨(getP (xK (oneT f Zy).1).1.params bndT).2=false then([],415)
 else if(Z8 (getP (xK (oneT f Zy).1).1.params bndT).1 body).2≠0 then([],400)
 else((Z8 (getP (xK (oneT f Zy).1).1.params bndT).1 body).1,0)
def apCd (q:Sto) (id off:Int) (x:Str):Int:=if apG q.l id off then 17 else wsC q (apE id x)
def apQ (q:Sto) (id off:Int) (x:Str):Sto:=if apG q.l id off then q else wsS q (apE id x)
def zby (id:Int):Ent:=⟨4,id,0,[]⟩
def uO (q:Sto) (p:Prt):Ent:=creE q (p.bytes.length:Int) (zmf++p.file)
def zdK (q:Sto) (p:Prt):Int:=if wsC q (uO q p)≠0 then wsC q (uO q p) else apCd (wsS q (uO q p)) (q.n+1) 0 p.bytes
def tH (q:Sto) (p:Prt):Sto:=
 if wsC q (uO q p)≠0 then wsS q (uO q p)
 else if apCd (wsS q (uO q p)) (q.n+1) 0 p.bytes≠0 then wsS (apQ (wsS q (uO q p)) (q.n+1) 0 p.bytes) (zby (q.n+1))
 else apQ (wsS q (uO q p)) (q.n+1) 0 p.bytes
def Xt (q:Sto):List Int→Sto
 |[]=>q
 |k::r=>Xt (wsS q (zby k)) r
def zls (t:Str) (id:Int) (p:Prt):Str:=t++(decS id++[32]++p.file++[10])
def vN (q:Sto) (ids:List Int) (t:Str):List Prt→GA
 |[]=>⟨⟨201,[],t⟩,syS q⟩
 | p::r=>
   if p.file=[] then vN q ids t r
   else if zdK q p≠0 then⟨V6 (if zdK q p=4 then 413 else 507),syS (Xt (tH q p) ids)⟩
   else vN (tH q p) (ids++[q.n+1]) (zls t (q.n+1) p) r
def Xz:List Prt→Int
 |[]=>0
 |p::r=>((p.bytes.length:Int)+200)+Xz r
def XK (q:Sto) (f:List Fld) (body:Str):GA:=
 if(rV f body).2≠0 then⟨V6 (rV f body).2,q⟩
 else if Uj q.b (Xz (rV f body).1)=false then⟨V6 507,q⟩
 else vN q [] [] (rV f body).1
def rplT (x:TA):Rpl:=⟨x.st,resT::x.fs,[]⟩
def ansG (q:Sto) (m t:Str) (f:List Fld) (body:Str):GA:=
 if zfn t then⟨rplT (yC q m t f body),(yC q m t f body).q⟩
 else if t≠zwb then⟨V6 404,q⟩
 else if m≠zbu then⟨V6 405,q⟩
 else XK q f body
def zgZ (r:Rpl):Str:=writeT r.status r.fields r.body
structure GE where
 q:Sto
 h:Hd
 b:Str
 i:Bool
 w:Bool
 o:Str
def zwl (c:Int):Rpl:=V6 (if c=4 then 413 else 400)
def evG (x:GE) (e:Evt):GE:=
 if e.kind=1 then { x with h:=e.head,b:=[],i:=true,w:=true}
 else if e.kind=2 then { x with b:=x.b++e.bytes}
 else if e.kind=3 then⟨(ansG x.q x.h.method x.h.target x.h.fields x.b).q,x.h,x.b,false,false,x.o++zgZ (ansG x.q x.h.method x.h.target x.h.fields x.b).r⟩
 else if e.kind=4 then { x with i:=false,o:=x.o++zgZ (zwl e.code)}
 else x
def evsG (x:GE) (l:List Evt):GE:=l.foldl evG x
def fedE (q:Sto) (c:Cn) (b:Str):GE:=evsG ⟨q,c.h,c.body,c.live,c.own,[]⟩ (yK (zO c.q b).out)
def fedC (q:Sto) (c:Cn) (b:Str):Cn:=⟨zO c.q b,(fedE q c b).h,(fedE q c b).b,(fedE q c b).i,(fedE q c b).w⟩
def cn0:Cn:=⟨rq0,hd0,[],false,true⟩
structure GS where
 q:Sto
 c0:Cn
 c1:Cn
 c2:Cn
 c3:Cn
def GS.at (g:GS) (k:Int):Cn:=if k=0 then g.c0 else if k=1 then g.c1 else if k=2 then g.c2 else g.c3
def GS.put (g:GS) (k:Int) (c:Cn) (q:Sto):GS:=⟨q,if k=0 then c else g.c0,if k=1 then c else g.c1,if k=2 then c else g.c2,if k=3 then c else g.c3⟩
def inG (k:Int):Bool:=decide (0≤k)&&decide (k<4)
def zrU (c:Cn):Bool:=c.live&&(decide (c.h.method=zau)&&(decide (c.body≠[])&&Lib.hasPrefix c.h.target wU))
def XI (q:Sto) (c:Cn):Sto:=if zrU c then(yC q c.h.method c.h.target c.h.fields c.body).q else q
def gs0:GS:=⟨⟨[],0,[],0⟩,cn0,cn0,cn0,cn0⟩
end Go.Proofs.YtkjepecoodjbmaaGreatDoor
namespace Go.Proofs.YtkjepecoodjbmaaGreatDoor
open Go Go.Sep Go.Ab
set_option maxRecDepth 100000
def zcW (I:Alg):KU
 |[.v (.one (.p (.int .i64 n)))],[]=>some (.one ⟨I.hid (True),(.ret (.v (.one (.p (.str (I.hid (Ud n))))))),[]⟩)
 |_,_=>none
theorem zmF:zx Tryz.prog 174 (zcW alg):=by
 intro args hp r h;unfold zcW at h;split at h<;>cases h
 rename_i n;simp only [CT.Good,zh];intro _;generalize hr:Ud n=r
 refine spH Tryz.func174 (by kernel_rfl) { keep:=some [0,2,3]} [] (by kernel_rfl) ?_
 intro I X hI hX
 refine orcL ?_;go_invoke;refine orcS (by kernel_rfl) ?_
 simp only [zi,Nat.reduceAdd];subst hI;simp only [nrmA,nrmB];unfold Ud at hr
 (repeat' (first|refine ja ?_ ?_|intro _))<;>first|omega|exact jb|exact jc ‹False›|skip
 all_goals((repeat(first|rewrite [if_pos (by first|omega|assumption|(simp only [*,or_self,or_true,true_or,or_false,false_or,jf,jg,jd,je,and_self,and_true,true_and];done)|(simp only [*];omega)|(simp [*];done)|(simp [*];omega))] at hr|rewrite [if_neg (by first|omega|assumption|(simp only [*,or_self,or_true,true_or,or_false,false_or,jf,jg,jd,je,and_self,and_true,true_and];done)|(simp only [*];omega)|(simp [*];done)|(simp [*];omega))] at hr));exact hr)
def zmE:Know Tryz.prog:=⟨174,zcW,zmF⟩
def zmD:Know Tryz.prog:=⟨174,fun I=>zu I (zcW I),zf zmF⟩
theorem zg2 {fs:List Fld} {i:Nat} (h:i<fs.length):badF (fs.drop i)=if(textF (fs.getD i ⟨[],[]⟩)).2=0 then badF (fs.drop (i+1)) else(textF (fs.getD i ⟨[],[]⟩)).2:=by
 rw [jE h,badF];simp [h]
theorem zcI {fs:List Fld} {i:Nat} (h:i<fs.length):uQ (fs.take (i+1))=uQ (fs.take i)++(textF (fs.getD i ⟨[],[]⟩)).1++[13,10]:=by
 rw [jB h,zpt];simp [uQ,h]
theorem zoZ {st:Int} (h:Ud st≠[]):(zh0 st).length≤100:=by
 have:=wL st;have:=(QG h).2.2;unfold zh0
 simp;omega
def WN (I:Alg):KU
 |[.v (.agg [.p (.int .i64 st),.p (.list .fld fs),.p (.list .byte b)])],[]=>(fun(fs:List Fld) (b:Str)=>(some (.one ⟨I.hid ((fs.length≤100∧∀ f ∈ fs,f.name.length≤1000000∧f.value.length≤1000000)∧b.length≤9000),(.ret (.tup [.one (.p (.list .byte (I.hid (writeT st fs b)))),.one (.p (.int .i64 (I.hid (zbC st fs))))])),[]⟩):Option CT)) fs b
 |_,_=>none
set_option maxHeartbeats 4000000 in
theorem zfc:zx Tryz.prog 123 (WN alg):=by
 intro args hp r h;unfold WN at h;split at h<;>cases h
 rename_i st fs b
 revert fs;intro(fs:List Fld)
 simp only [CT.Good,zh];intro hneed;obtain⟨⟨hfl,hf⟩,hb⟩:=hneed;generalize hc:zbC st fs=c;generalize ht:writeT st fs b=t;have hwf:=QG (n:=st);have hdl:=wL st;have hhl:=zoZ (st:=st);have hbl:=wL (b.length:Int);have hclen:[99,111,110,116,101,110,116,45,108,101,110,103,116,104]=zuY:=rfl
 refine spH Tryz.func123 (by kernel_rfl) { rl:=[0],keep:=some [0,1,2,3,4,6,7,8,37,38,39]} [zc1,zc0,XM,XL,qC,qB,zmE,zmD] (by kernel_rfl) ?_
 intro I X hI hX
 refine orcL ?_;go_invoke;refine orcS (by kernel_rfl) ?_
 simp only [zi,Nat.reduceAdd];rw [hclen]
 (repeat' (first|refine ja ?_ ?_|intro _))
 all_goals try(subst hI;(simp only [nrmA,nrmB,nrlB,reduceCtorEq] at *);first|done|trivial|(unfold writeT at ht;unfold zbC at ht hc;((repeat(first|rewrite [if_pos (by first|omega|assumption|(simp only [*,or_self,or_true,true_or,or_false,false_or,jf,jg,jd,je,and_self,and_true,true_and];done)|(simp only [*];omega)|(simp [*];done)|(simp [*];omega))] at hc|rewrite [if_neg (by first|omega|assumption|(simp only [*,or_self,or_true,true_or,or_false,false_or,jf,jg,jd,je,and_self,and_true,true_and];done)|(simp only [*];omega)|(simp [*];done)|(simp [*];omega))] at hc)));subst hc;((repeat(first|rewrite [if_pos (by first|omega|assumption|(simp only [*,or_self,or_true,true_or,or_false,false_or,jf,jg,jd,je,and_self,and_true,true_and];done)|(simp only [*];omega)|(simp [*];done)|(simp [*];omega))] at ht|rewrite [if_neg (by first|omega|assumption|(simp only [*,or_self,or_true,true_or,or_false,false_or,jf,jg,jd,je,and_self,and_true,true_and];done)|(simp only [*];omega)|(simp [*];done)|(simp [*];omega))] at ht)));subst ht;exact⟨rfl,rfl⟩)|(have:=hwf ‹_›;simp only [jk,jh,ji];omega)|(have:=hwf ‹_›;omega)|exact⟨by omega,by decide,hf⟩)
 have hok:Ud st≠[]∧fs.length<16∧¬ 0<(valsF fs zuY).length:=by
  subst hI;simp only [nrmA,nrmB,nrlB,reduceCtorEq] at *
  exact⟨by assumption,by omega,by omega⟩
 have hc2:c=badF fs:=by
  rw [← hc,zbC,if_neg hok.1,if_neg (by omega),if_neg hok.2.2]
 have ht2:badF fs=0→t=zh0 st++uQ fs++zhi b.length++b:=fun h=>by
  rw [← ht,writeT,hc,hc2,if_pos h]
 have ht3:badF fs≠0→t=[]:=fun h=>by rw [← ht,writeT,hc,hc2,if_neg h]
 refine lpH hI [zc1,zc0,XM,XL,qC,qB,zmE,zmD] hX [1,3,4,37,38,39] (fun(g:Nat × Str)=>match g with|(i,o)=>i≤fs.length∧o=zh0 st++uQ (fs.take i)∧badF fs=badF (fs.drop i)) (fun(g:Nat × Str)=>match g with|(i,o)=>⟨[(1,.v (.one (.ptr 0 0))),(3,.v (.one (.p (.int .i64 0)))),(4,.v (.one (.row 1))),(37,.v (.one (.p (.list .fld fs)))),(38,.v (.one (.p (.int .i64 ((I.len (α:=Fld) fs)))))),(39,.v (.one (.p (.int .i64 i))))],[.pack [.obj 128 [.p (.int .i64 st),.p (.list .fld fs),.p (.list .byte b)]],.row .byte 5 o],68,none⟩) (fun(g:Nat × Str)=>match g with|(i,o)=>fs.length - i) (0,(I.app (I.app (I.app (I.app ([72,84,84,80,47,49,46,49,32]:Str) (I.hid (decS st))) [32]) (I.hid (Ud st))) [13,10])) (by kernel_rfl) (by kernel_rfl) ?_ ?_
 · refine⟨jM _,?_,rfl⟩
   subst hI;simp only [Yy,zh,zh0,List.take_zero,uQ,List.append_nil]
 rintro⟨i,o⟩ ⟨h1,h2,h3⟩ A hA;simp only at hA h1 h2 h3
 refine orcL ?_;go_invoke;refine orcS (by kernel_rfl) ?_
 simp only [zi,Nat.reduceAdd];subst hI;simp only [nrmA,nrmB,nrlB,reduceCtorEq]
 have hx:i<fs.length→(fs.getD i ⟨[],[]⟩) ∈ fs:=fun h=>by rw [show fs.getD i ⟨[],[]⟩=fs[i] by simp [h]];exact List.getElem_mem h
 have hd:i<fs.length→_:=fun h=>zg2 (fs:=fs) (i:=i) h;have hk:i<fs.length→_:=fun h=>zcI (fs:=fs) (i:=i) h
 have hol:(uQ (fs.take i)).length≤202 * 16:=by
  have:=VA (fs.take i);rw [jv] at this;have:=hok.2.1;omega
 have hhl:=hhl hok.1
 have hol2:o.length≤4000:=by rw [h2,jk];omega
 have hend: ¬ i<fs.length→badF fs=0∧uQ (fs.take i)=uQ fs:=fun h=>by
  rw [h3,jF (by omega),jq (by omega)];exact⟨rfl,rfl⟩
 have hfi:=fun h=>hf _ (hx h);have htl:=fun f=>QO f;generalize fs.getD i ⟨[],[]⟩=x at *;have e0:(⟨x.name,x.value⟩:Fld)=x:=rfl;rw [e0];have htl:=htl x
 refine⟨fun c1=>⟨⟨by omega,by omega⟩,⟨by omega,by omega⟩,hfi (by omega),fun c2=> ?_,fun c2=>⟨?_,?_,by omega,?_⟩⟩,fun c1=> ?_⟩
 · have hd:=hd (by omega)
   rw [if_neg c2] at hd
   exact⟨(ht3 (by rw [h3,hd];exact c2)).symm,by rw [hc2,h3,hd]⟩
 · simp only [jh,ji];omega
 · simp only [jk,jh,ji];omega
 · have hd:=hd (by omega)
   rw [if_pos c2] at hd
   exact hA (i+1,o++((textF x).1++[13,10])) ⟨by simp only;omega,by simp only;rw [hk (by omega),h2];simp only [jo],by simp only;rw [h3,hd]⟩ (by simp only;omega)
 · obtain⟨e1,e2⟩:=hend (by omega)
   simp only [jk,jh,ji]
   refine⟨by omega,by omega,by omega,by omega,by omega,?_,by rw [hc2,e1]⟩
   rw [ht2 e1,h2,e2];unfold zhi;simp only [jo]
def zn6:Know Tryz.prog:=⟨123,WN,zfc⟩
def zn5:Know Tryz.prog:=⟨123,fun I=>zu I (WN I),zf zfc⟩
end Go.Proofs.YtkjepecoodjbmaaGreatDoor
namespace Go.Proofs.YtkjepecoodjbmaaGreatDoor
open Go Go.Sep Go.Ab
set_option maxRecDepth 100000
def zbd (s p:Str):Str × Bool:=if s.length<p.length∨lowS (s.take p.length)≠p then([],false) else(s.drop p.length,true)
def zd4 (I:Alg):KU
 |[.v (.one (.p (.str s))),.v (.one (.p (.str p)))],[]=>(fun(s p:Str)=>(some (.one ⟨I.hid (s.length≤1000000∧p.length≤100),(.ret (.tup [.one (.p (.str (I.hid ((zbd s p).1)))),.one (.p (.bool (I.hid ((zbd s p).2))))])),[]⟩):Option CT)) s p
 |_,_=>none
theorem zpC:zx Tryz.prog 301 (zd4 alg):=by
 intro args hp r h;unfold zd4 at h;split at h<;>cases h
 rename_i s p;simp only [CT.Good,zh];intro hneed;obtain⟨h1,h2⟩:=hneed;generalize hr:zbd s p=r;obtain⟨a,k⟩:=r
 refine spH Tryz.func301 (by kernel_rfl) { keep:=some [0,1,4,5]} [wI,wH] (by kernel_rfl) ?_
 intro I X hI hX
 refine orcL ?_;go_invoke;refine orcS (by kernel_rfl) ?_
 simp only [zi,Nat.reduceAdd];subst hI;unfold zbd at hr;simp only [nrmA,nrmB,nrlB,reduceCtorEq]
 (repeat' (first|refine ja ?_ ?_|intro _))<;>first|omega|exact jb|exact jc ‹False›|skip
 all_goals first
  |omega
  |(simp only [jv];omega)
  |(rw [if_pos (Or.inl (by omega))] at hr;cases hr;rfl)
  |(rw [if_pos (Or.inr ‹_›)] at hr;cases hr;rfl)
  |(rw [if_neg (fun h=>h.elim (fun h=>by omega) (fun h=>h ‹_›))] at hr;cases hr;first|rfl|exact jq (by simp))
def zpB:Know Tryz.prog:=⟨301,zd4,zpC⟩
def zpA:Know Tryz.prog:=⟨301,fun I=>zu I (zd4 I),zf zpC⟩
theorem zw1 {r:Str} {i:Nat} (h:i<r.length) (k: ¬ r.getD i 0=37):pctM (r.drop i)=(pctM (r.drop (i+1))).map (r.getD i 0:: ·):=by
 have e:r.getD i 0=r[i]:=by simp [h]
 rw [e] at k;rw [jE h,pctM.eq_def];simp only;rw [if_pos k,e]
theorem zw0 {r:Str} {i:Nat} (h:i<r.length) (k:r.getD i 0=37) (h2:r.length≤i+2):pctM (r.drop i)=none:=by
 have e:r.getD i 0=r[i]:=by simp [h]
 rw [e] at k;rw [jE h,pctM.eq_def];simp only [k,ne_eq,jf,if_false]
 have hl:(r.drop (i+1)).length≤1:=by rw [jC];omega
 match hd:r.drop (i+1),hl with
 |[],_=>rfl
 |[_],_=>rfl
 |_::_::_,h=>simp at h
theorem zw2 {r:Str} {i:Nat} (h:i+2<r.length) (k:r.getD i 0=37):pctM (r.drop i)=if hexK ((r.getD (i+1) 0).toNat:Int)<0∨hexK ((r.getD (i+2) 0).toNat:Int)<0 then none else(pctM (r.drop (i+3))).map (UInt8.ofNat (16 * hexK ((r.getD (i+1) 0).toNat:Int)+hexK ((r.getD (i+2) 0).toNat:Int)).toNat:: ·):=by
 have h0:i<r.length:=by omega
 have h1:i+1<r.length:=by omega
 have e0:r.getD i 0=r[i]:=by simp [h0]
 have e1:r.getD (i+1) 0=r[i+1]:=by simp [h1]
 have e2:r.getD (i+2) 0=r[i+2]:=by simp [h]
 rw [e0] at k
 rw [jE h0,jE h1,jE h,pctM,if_neg (by simp [k]),e1,e2]
def zd3 (I:Alg):KU
 |[.v (.one (.p (.str s)))],[]=>(fun(s:Str)=>(some (.one ⟨I.hid (s.length≤1000000),(.ret (.tup [.one (.p (.str (I.hid (extV s)))),.one (.p (.bool (I.hid (extB s))))])),[]⟩):Option CT)) s
 |_,_=>none
theorem zpz:zx Tryz.prog 299 (zd3 alg):=by
 intro args hp r h;unfold zd3 at h;split at h<;>cases h
 rename_i s;simp only [CT.Good,zh];intro hneed;unfold extV extB;generalize hr:extM s=r
 refine spH Tryz.func299 (by kernel_rfl) { nr:=[6],keep:=some [0,2,3,4,5,6,7]} [zci,zch,zpB,zpA] (by kernel_rfl) ?_
 intro I X hI hX
 refine orcL ?_;go_invoke;refine orcS (by kernel_rfl) ?_
 simp only [zi,Nat.reduceAdd];rw [show([117,116,102,45,56,39,39]:Str)=utfS from rfl]
 have hc:extM s=if(zbd s utfS).2=false then none else pctM (zbd s utfS).1:=by
  unfold extM zbd
  by_cases h:s.length<7∨lowS (s.take 7)≠utfS
  · rw [if_pos h,if_pos (show s.length<utfS.length∨lowS (s.take utfS.length)≠utfS from h)];rfl
  · rw [if_neg h,if_neg (show ¬ (s.length<utfS.length∨lowS (s.take utfS.length)≠utfS) from h)];rfl
 have hl:(zbd s utfS).1.length≤1000000:=by
  unfold zbd
  split
  · simp
  · simp only [jC];omega
 rw [hc] at hr;generalize(zbd s utfS).2=k at *;generalize(zbd s utfS).1=R at *
 have h7:utfS.length≤100:=by decide
 (repeat' (first|refine ja ?_ ?_|intro _))
 all_goals try(subst hI;(simp only [nrmA,nrmB,nrlB,reduceCtorEq] at *);first|done|trivial|omega|exact⟨hneed,h7⟩|(rw [if_pos ‹_›] at hr;rw [← hr];exact⟨rfl,rfl⟩))
 have hk:k=true:=by
  subst hI;simp only [nrmA,nrmB,nrlB,reduceCtorEq] at *
  simpa using ‹_›
 rw [hk] at hr;simp only [je,if_false] at hr
 rw [show I.hid R=R by subst hI;rfl]
 refine lpH hI [zci,zch,zpB,zpA] hX [4,6,7] (fun(g:Nat × Str)=>match g with|(i,b)=>i≤R.length∧b.length≤i∧r=(pctM (R.drop i)).map (b++ ·)) (fun(g:Nat × Str)=>match g with|(i,b)=>⟨[(4,.v (.one (.p (.str R)))),(6,.v (.one (.row 0))),(7,.v (.one (.p (.int .i64 i))))],[.row .byte 5 b],72,none⟩) (fun(g:Nat × Str)=>match g with|(i,b)=>R.length - i) (0,[]) (by kernel_rfl) (by kernel_rfl) ?_ ?_
 · refine⟨jM _,jL _,?_⟩
   rw [List.drop_zero,hr]
   cases r<;>rfl
 rintro⟨i,b⟩ ⟨h1,h2,h3⟩ A hA;simp only at hA h1 h2 h3
 refine orcL ?_;go_invoke;refine orcS (by kernel_rfl) ?_
 simp only [zi,Nat.reduceAdd];subst hI;simp only [nrmA,nrmB,nrlB,reduceCtorEq]
 have e1:((i:Int)+1).toNat=i+1:=by omega
 have e2:((i:Int)+2).toNat=i+2:=by omega
 rw [e1,e2]
 have b37:(R.getD i 0).toNat=37↔R.getD i 0=37:=⟨fun h=>UInt8.toNat_inj.1 h,fun h=>by rw [h];rfl⟩
 have g0:i<R.length→¬ R.getD i 0=37→_:=fun h k=>zw1 h k;have g1:i<R.length→R.getD i 0=37→R.length≤i+2→_:=fun h k=>zw0 h k;have g2:i+2<R.length→R.getD i 0=37→_:=fun h k=>zw2 h k;have l0:=(R.getD i 0).toNat_lt;have l1:=(R.getD (i+1) 0).toNat_lt;have l2:=(R.getD (i+2) 0).toNat_lt
 have m1:=zdQ (k:=((R.getD (i+1) 0).toNat:Int)) ⟨by omega,by omega⟩
 have m2:=zdQ (k:=((R.getD (i+2) 0).toNat:Int)) ⟨by omega,by omega⟩
 have hend: ¬ i<R.length→r=some b:=fun h=>by rw [h3,jF (by omega)];simp [pctM]
 have hA2:=fun(c:UInt8) (j:Nat) (h:i<j) (hj:j≤R.length) (e:pctM (R.drop i)=(pctM (R.drop j)).map (c:: ·))=>hA (j,b++[c]) ⟨hj,by rw [jk,jr];omega,by rw [h3,e,Option.map_map];congr 1;funext x;simp⟩ (by simp only;omega)
 generalize R.getD i 0=x0 at *;generalize R.getD (i+1) 0=x1 at *;generalize R.getD (i+2) 0=x2 at *
 refine⟨fun c=>⟨by omega,fun c2=>⟨by omega,by omega,by simp only [jr];omega,by omega,?_⟩,fun c2=> ?_⟩,fun c=> ?_⟩
 · have:=hA2 x0 (i+1) (by omega) (by omega) (g0 (by omega) (fun h=>c2 (by have:=b37.2 h;omega)))
   simp only [Int.natCast_add,Int.natCast_one] at this;exact this
 · have hx:x0=37:=b37.1 (by omega)
   subst hx
   have gs:R.length≤i+2→r=none:=fun h=>by rw [h3,g1 (by omega) rfl h];rfl
   have gm:=fun h=>g2 h rfl
   have gn:i+2<R.length→(hexK (x1.toNat:Int)<0∨hexK (x2.toNat:Int)<0)→r=none:=fun h k=>by rw [h3,gm h,if_pos k];rfl
   have gy:i+2<R.length→¬ hexK (x1.toNat:Int)<0→¬ hexK (x2.toNat:Int)<0→_:=fun h k k2=>hA2 (UInt8.ofNat (16 * hexK (x1.toNat:Int)+hexK (x2.toNat:Int)).toNat) (i+3) (by omega) (by omega) (by rw [gm h,if_neg (fun q=>q.elim k k2)])
   have wr: ¬ hexK (x1.toNat:Int)<0→¬ hexK (x2.toNat:Int)<0→IntKind.u8.wrap (16 * hexK (x1.toNat:Int)+hexK (x2.toNat:Int))=16 * hexK (x1.toNat:Int)+hexK (x2.toNat:Int):=fun k k2=>zwM _ ⟨by omega,by omega⟩
   (repeat' (first|refine ja ?_ ?_|intro _))<;>first|omega|exact jb|exact jc ‹False›|skip
   all_goals first
    |omega
    |(rw [gs (by omega)];done)
    |(rw [gs (by omega)];rfl)
    |(rw [gn (by omega) (Or.inl ‹_›)];rfl)
    |(rw [gn (by omega) (Or.inr ‹_›)];rfl)
    |(rw [wr ‹_› ‹_›];omega)
    |(simp only [jr];omega)
    |(rw [wr ‹_› ‹_›,show(i:Int)+2+1=((i+3:Nat):Int) by omega];exact gy (by omega) ‹_› ‹_›)
 · rw [hend (by omega)]
   exact⟨rfl,rfl⟩
def zuV:Know Tryz.prog:=⟨299,zd3,zpz⟩
def zuU:Know Tryz.prog:=⟨299,fun I=>zu I (zd3 I),zf zpz⟩
end Go.Proofs.YtkjepecoodjbmaaGreatDoor
namespace Go.Proofs.YtkjepecoodjbmaaGreatDoor
open Go Go.Sep Go.Ab
set_option maxRecDepth 100000
theorem zdq: ∀ (n:Nat) (r:Str),r.length≤n→∀ v,pctM r=some v→v.length≤r.length
 |n,[],_,v,h=>by rw [pctM] at h;cases h;exact jL _
 |0,c::r,h,_,_=>by simp at h
 | n + 1,c::r,hl,v,h=>by
   rw [jh] at hl;rw [pctM.eq_def] at h;simp only at h
   split at h
   · cases hp:pctM r with
     |none=>rw [hp] at h;cases h
     | some u=>
       rw [hp] at h;cases h
       have:=zdq n r (by omega) u hp
       simp only [jh];omega
   · split at h
     · rename_i a b r'
       split at h
       · cases h
       · cases hp:pctM r' with
         |none=>rw [hp] at h;cases h
         | some u=>
           rw [hp] at h;cases h
           have:=zdq n r' (by simp only [jh] at hl;omega) u hp
           simp only [jh];omega
     · cases h
theorem zsl (s:Str):(extV s).length≤s.length:=by
 unfold extV extM
 split
 · simp
 · cases h:pctM (s.drop 7) with
   |none=>simp
   | some v=>
     have:=zdq _ _ (jL _) v h;rw [jC] at this;simp only [Option.getD_some];omega
def PsOk (N:Nat) (l:List Fld):Prop:=l.length≤8∧∀ f ∈ l,f.value.length≤N
theorem zoB (N:Nat): ∀ (n:Nat) (s:Str) (ps:List Fld),s.length≤N→PsOk N ps→PsOk N (medL n s ps).2.1
 |0,s,ps,_,h=>h
 | n + 1, s,ps,hs,h=>by
   rw [medL];have h1:=wV (s.drop 1);have h2:=zdr (skS (s.drop 1));have h3:=wV (parM (skS (s.drop 1))).2.2;rw [jC] at h1
   split
   · split
     · exact h
     · split
       · exact h
       · split
         · exact h
         · rename_i h8
           refine zoB N n _ _ (by omega) ⟨by rw [jk,jr];have:=h.1;omega,fun f hf=> ?_⟩
           rcases List.mem_append.1 hf with h5|h5
           · exact h.2 f h5
           · rw [List.mem_singleton.1 h5];omega
   · split<;>exact h
theorem zfi (s:Str):PsOk s.length (xK s).1.params:=by
 have h0:PsOk s.length []:=⟨by decide,fun f h=>by cases h⟩
 have hb: ∀ w t:Str,t.length≤s.length→PsOk s.length (medB w t).2.1.params:=fun w t ht=>by
  have h1:=wV t
  exact zoB s.length _ _ [] (by omega) h0
 have h1:=wV s;have h2:=ve (skS s);have h3:=ve ((tokE (skS s)).drop 1);rw [jC] at h3
 have hm:PsOk s.length (wz s).2.1.params:=by
  unfold wz medA
  split
  · exact h0
  · split
    · split
      · exact h0
      · exact hb _ _ (by omega)
    · exact hb _ _ (by omega)
 unfold xK
 split
 · exact h0
 · split
   · exact hm
   · exact h0
theorem zkn {N:Nat} {l:List Fld} (h: ∀ f ∈ l,f.value.length≤N) (n:Str):(getP l n).1.length≤N:=by
 unfold getP
 cases hf:l.find? (fun f=>f.name == n) with
 |none=>simp
 |some f=>exact h f (List.mem_of_find?_eq_some hf)
theorem zrF {N:Nat} {l:List Fld} (h: ∀ f ∈ l,f.value.length≤N) (n:Str):(oneF (valsF l n)).1.length≤N:=by
 unfold oneF
 split
 · simp
 · split
   · rename_i h1
     match hv:valsF l n,h1 with
     | [x],_=>
       have:x ∈ valsF l n:=by rw [hv];exact List.mem_singleton.2 rfl
       unfold valsF at this;obtain⟨f,hf,rfl⟩:=List.mem_map.1 this;exact h f (List.mem_filter.1 hf).1
   · simp
def Qo (I:Alg):KU
 |[.v (.one (.p (.list .fld l)))],[]=>(fun(l:List Fld)=>(some (.one ⟨I.hid (l.length≤1000∧∀ f ∈ l,f.name.length≤1000000∧f.value.length≤1000000),(.ret (.tup [.agg [.p (.str (I.hid ((Zj l).1.name))),.p (.str (I.hid ((Zj l).1.file))),.p (.str (I.hid ((Zj l).1.type))),.nilS],.one (.p (.int .i64 (I.hid ((Zj l).2))))])),[]⟩):Option CT)) l
 |_,_=>none
theorem zkK:zx Tryz.prog 298 (Qo alg):=by
 intro args hp r h;unfold Qo at h;split at h<;>cases h
 rename_i l
 revert l;intro(l:List Fld)
 simp only [CT.Good,zh];intro hneed;obtain⟨hl,hf⟩:=hneed;generalize hr:Zj l=r
 refine spH Tryz.func298 (by kernel_rfl) { raw:=true,keep:=some [0,2,3,4,5,6,7,8,9,10,11,12,13,77]} [Yp,Yo,zsi,zsh,zuV,zuU,Uu,Ut,wR,wQ] (by kernel_rfl) ?_
 intro I X hI hX
 refine orcL ?_;go_invoke;refine orcS (by kernel_rfl) ?_
 simp only [zi,Nat.reduceAdd]
 try rw [show([99,111,110,116,101,110,116,45,100,105,115,112,111,115,105,116,105,111,110]:Str)=rC from rfl]
 try rw [show([99,111,110,116,101,110,116,45,116,121,112,101]:Str)=zkZ from rfl]
 try rw [show([102,111,114,109,45,100,97,116,97]:Str)=ztl from rfl]
 try rw [show([102,105,108,101,110,97,109,101]:Str)=zse from rfl]
 try rw [show([102,105,108,101,110,97,109,101,42]:Str)=zgF from rfl]
 try rw [show([110,97,109,101]:Str)=zug from rfl]
 have hk1:rC.length≤1000000:=by decide
 have hk2:zkZ.length≤1000000:=by decide
 have hv:=zrF (fun f h=>(hf f h).2) rC;have hp:=zfi (oneF (valsF l rC)).1;have hg:=fun n=>zkn hp.2 n;have hg1:=hg zgF;have hg2:=hg zse;have hx:=zsl (getP (xK (oneF (valsF l rC)).1).1.params zgF).1;unfold Zj at hr;subst hI;simp only [nrmA,nrmB,nrlB,reduceCtorEq];have hpl:=hp.1;clear hp hg;generalize oneF (valsF l zkZ)=t at *;generalize getP (xK (oneF (valsF l rC)).1).1.params zgF=x at *;generalize getP (xK (oneF (valsF l rC)).1).1.params zse=f at *;generalize getP (xK (oneF (valsF l rC)).1).1.params zug=n at *;generalize xK (oneF (valsF l rC)).1=m at *;generalize oneF (valsF l rC)=a at *;unfold zry zt2 partT at hr
 (repeat' (first|refine ja ?_ ?_|intro _))<;>first|omega|exact jb|exact jc ‹False›|skip
 all_goals first
  |omega
  |exact hl
  |exact hk1
  |exact hk2
  |exact(hf _ ‹_›).1
  |exact(hf _ ‹_›).2
  |exact absurd (‹extB x.fst=true›.symm.trans ‹extB x.fst=false›) (by decide)
  |(subst hr;clear hf hX hv hg1 hg2 hx hpl hl hk1 hk2;simp [*,prt0];done)
def zkJ:Know Tryz.prog:=⟨298,Qo,zkK⟩
def zkI:Know Tryz.prog:=⟨298,fun I=>zu I (Qo I),zf zkK⟩
end Go.Proofs.YtkjepecoodjbmaaGreatDoor
namespace Go.Proofs.YtkjepecoodjbmaaGreatDoor
open Go Go.Sep Go.Ab
set_option maxRecDepth 100000
def zuZ:Cfg:= { sl:=[⟨207,0,.byte,some 5⟩]}
def RZ (I:Alg):KU
 |[],[]=>some (.one ⟨I.hid (True),(.ret (.v (.one (.ptr 0 0)))),[.pack [.obj 207 [.row 1,.p (.bool false),.p (.int .i64 0)],.row .byte 5 (I.hid ([]))]]⟩)
 |_,_=>none
theorem zkc:zx Tryz.prog 89 (RZ alg):=by
 intro args hp r h;unfold RZ at h;split at h<;>cases h
 simp only [CT.Good,zh];intro _
 refine spH Tryz.func89 (by kernel_rfl) { zuZ with keep:=some [0]} [] (by kernel_rfl) ?_
 intro I X hI hX
 refine orcL ?_;go_invoke;refine orcS (by kernel_rfl) ?_
 simp only [zi,Nat.reduceAdd];trivial
def RY:Know Tryz.prog:=⟨89,RZ,zkc⟩
def RX:Know Tryz.prog:=⟨89,fun I=>zu I (RZ I),zf zkc⟩
def Va (I:Alg):KU
 |[.v (.one (.ptr 0 0)),.v (.one (.p (.int .i64 c)))],[.pack [.obj 207 [.row 1,.p (.bool cr),.p (.int .i64 code)],.row .byte 5 b]]=>(fun(b:Str)=>(some (.one ⟨I.hid (True),(.ret (.tup [.one (.p (.str (I.hid ([])))),.one (.p (.bool false)),.one (.p (.int .i64 c))])),[.pack [.obj 207 [.row 1,.p (.bool cr),.p (.int .i64 c)],.row .byte 5 b]]⟩):Option CT)) b
 |_,_=>none
theorem zfz:zx Tryz.prog 169 (Va alg):=by
 intro args hp r h;unfold Va at h;split at h<;>cases h
 rename_i c cr code b;simp only [CT.Good,zh];intro _
 refine spH Tryz.func169 (by kernel_rfl) { zuZ with keep:=some [0,1,4,5,6]} [] (by kernel_rfl) ?_
 intro I X hI hX
 refine orcL ?_;go_invoke;refine orcS (by kernel_rfl) ?_
 simp only [zi,Nat.reduceAdd];subst hI;simp only [nrmA,nrmB,nrlB,reduceCtorEq,HO.pack.injEq,HO.obj.injEq]
 try trivial
def zoG:Know Tryz.prog:=⟨169,Va,zfz⟩
def zoF:Know Tryz.prog:=⟨169,fun I=>zu I (Va I),zf zfz⟩
def W9 (I:Alg):KU
 |[.v (.one (.ptr 0 0)),.v (.one (.p (.int .u8 k)))],[.pack [.obj 207 [.row 1,.p (.bool cr),.p (.int .i64 code)],.row .byte 5 b]]=>(fun(b:Str)=>(some (.one ⟨I.hid (0≤k∧k≤255∧b.length≤1000000),(.ret (.tup [.one (.p (.str (I.hid ((lnF ⟨b,cr,code⟩ (UInt8.ofNat k.toNat)).2.1)))),.one (.p (.bool (I.hid ((lnF ⟨b,cr,code⟩ (UInt8.ofNat k.toNat)).2.2.1)))),.one (.p (.int .i64 (I.hid ((lnF ⟨b,cr,code⟩ (UInt8.ofNat k.toNat)).2.2.2))))])),[.pack [.obj 207 [.row 1,.p (.bool (I.hid ((lnF ⟨b,cr,code⟩ (UInt8.ofNat k.toNat)).1.cr))),.p (.int .i64 (I.hid ((lnF ⟨b,cr,code⟩ (UInt8.ofNat k.toNat)).1.code)))],.row .byte 5 (I.hid ((lnF ⟨b,cr,code⟩ (UInt8.ofNat k.toNat)).1.b))]]⟩):Option CT)) b
 |_,_=>none
set_option maxHeartbeats 4000000 in
theorem zfy:zx Tryz.prog 121 (W9 alg):=by
 intro args hp r h;unfold W9 at h;split at h<;>cases h
 rename_i k cr code b;simp only [CT.Good,zh];intro hneed;obtain⟨hk0,hk1,hbl⟩:=hneed
 have hkk:((UInt8.ofNat k.toNat).toNat:Int)=k:=by rw [UInt8.toNat_ofNat',Nat.mod_eq_of_lt (by omega)];omega
 generalize hr:lnF ⟨b,cr,code⟩ (UInt8.ofNat k.toNat)=r
 have h10:UInt8.ofNat k.toNat=10↔k=10:=⟨fun h=>by rw [h] at hkk;exact hkk.symm,fun h=>by subst h;rfl⟩
 have h13:UInt8.ofNat k.toNat=13↔k=13:=⟨fun h=>by rw [h] at hkk;exact hkk.symm,fun h=>by subst h;rfl⟩
 unfold lnF zvt at hr;rw [hkk] at hr;simp only [h10,h13] at hr;obtain⟨⟨rb,rc,rcode⟩,rt,ro,re⟩:=r
 refine spH Tryz.func121 (by kernel_rfl) { zuZ with nr:=[8],keep:=some [0,1,4,5,6,7]} [tV,YA,zoG,zoF] (by kernel_rfl) ?_
 intro I X hI hX
 refine orcL ?_;go_invoke;refine orcS (by kernel_rfl) ?_
 simp only [zi,Nat.reduceAdd];subst hI;simp only [nrmA,nrmB,nrlB,reduceCtorEq,HO.pack.injEq,HO.obj.injEq];generalize UInt8.ofNat k.toNat=c at *;cases cr
 all_goals simp only [jd,if_false,if_true] at hr
 all_goals(repeat' (first|refine ja ?_ ?_|intro _))<;>first|omega|exact jb|exact jc ‹False›|skip
 all_goals first
  |omega
  |(exfalso;simp at *;done)
  |(((repeat(first|rewrite [if_pos (by first|omega|assumption|(simp only [*,or_self,or_true,true_or,or_false,false_or,jf,jg,jd,je,and_self,and_true,true_and];done)|(simp only [*];omega)|(simp [*];done)|(simp [*];omega))] at hr|rewrite [if_neg (by first|omega|assumption|(simp only [*,or_self,or_true,true_or,or_false,false_or,jf,jg,jd,je,and_self,and_true,true_and];done)|(simp only [*];omega)|(simp [*];done)|(simp [*];omega))] at hr)));cases hr;first|rfl|done|with_reducible assumption|exact⟨rfl,rfl,rfl⟩|(simp;done)|(simp;omega))
def sO:Know Tryz.prog:=⟨121,W9,zfy⟩
def sN:Know Tryz.prog:=⟨121,fun I=>zu I (W9 I),zf zfy⟩
end Go.Proofs.YtkjepecoodjbmaaGreatDoor
namespace Go.Proofs.YtkjepecoodjbmaaGreatDoor
open Go Go.Sep Go.Ab
set_option maxRecDepth 100000
def cfgF:Cfg:= { sl:=[⟨207,0,.byte,some 5⟩,⟨310,0,.byte,some 5⟩,⟨310,1,.int,some 3⟩,⟨302,3,.fld,some 108⟩,⟨302,7,.evt,some 34⟩]}
def wZ (f:Fm):Prop:=f.out.length≤10000000
def fm9 (f:Fm):Prop:=f.out.length≤9000000
theorem u8k {k:Int} (h0:0≤k) (h1:k≤255) (n:Nat) (hn:n<256):(UInt8.ofNat k.toNat=UInt8.ofNat n)=(k=n):=by
 rw [← UInt8.toNat_inj,UInt8.toNat_ofNat',UInt8.toNat_ofNat',Nat.mod_eq_of_lt hn,Nat.mod_eq_of_lt (by omega)]
 exact propext ⟨fun h=>by omega,fun h=>by omega⟩
def Vt (I:Alg):KU
 |[.v (.one (.ptr 0 0)),.v (.agg [.p (.int .i64 k),.p (.str ea),.p (.str eb),.p (.int .i64 ei),.p (.list .fld ef),.p (.int .i64 en),.p (.list .byte ebs),.p (.str ex),.p (.str ey),.p (.str ez),.p (.nl et),.p (.int .i64 ec)])],[.abs (.fm ⟨m,hd,bs,p,none,fs,pa,sk,co,out⟩)]=>(fun(m:Str) (bs:List Int) (fs:List Fld) (out:List Evt) (ea eb:Str) (ef:List Fld) (ebs ex ey ez et:Str)=>(some (.one ⟨I.hid (wZ ⟨m,hd,bs,p,none,fs,pa,sk,co,out⟩),(.ret (.tup [])),[.abs (.fm ⟨m,hd,bs,p,none,fs,pa,sk,co,(I.hid (out++[⟨k,⟨ea,eb,ei,ef,en⟩,ebs,⟨ex,ey,ez,et⟩,ec⟩]))⟩)]⟩):Option CT)) m bs fs out ea eb ef ebs ex ey ez et
 |_,_=>none
theorem zgq:zx Tryz.prog 296 (Vt alg):=by
 intro args hp r h;unfold Vt at h;split at h<;>cases h
 rename_i k ea eb ei ef en ebs ex ey ez et ec m hd bs p fs pa sk co out
 revert ef bs fs out;intro(ef:List Fld) (bs:List Int) (fs:List Fld) (out:List Evt)
 simp only [CT.Good,zh];intro hneed;unfold wZ at hneed;simp only at hneed
 refine spH Tryz.func296 (by kernel_rfl) { cfgF with keep:=some [0,1,3]} [] (by kernel_rfl) ?_
 intro I X hI hX
 refine orcL ?_;go_invoke;refine orcS (by kernel_rfl) ?_
 simp only [zi,Nat.reduceAdd];subst hI;simp only [nrmA,nrmB,nrlB,reduceCtorEq,HO.abs.injEq,Gh.fm.injEq,Fm.mk.injEq]
 (repeat' (first|refine ja ?_ ?_|intro _))<;>first|omega|exact jb|exact jc ‹False›|skip
 all_goals first
  |omega
  |rfl
  |with_reducible assumption
  |(simp only [jh,ji];omega)
  |(unfold wZ;simp only;omega)
  |(simp;done)
def vH:Know Tryz.prog:=⟨296,Vt,zgq⟩
def vG:Know Tryz.prog:=⟨296,fun I=>zu I (Vt I),zf zgq⟩
def Vs (I:Alg):KU
 |[.v (.one (.ptr 0 0)),.v (.agg [.p (.int .i64 k),.p (.str ea),.p (.str eb),.p (.int .i64 ei),.p (.list .fld ef),.p (.int .i64 en),.p (.list .byte ebs),.p (.str ex),.p (.str ey),.p (.str ez),.p (.nl et),.p (.int .i64 ec)])],[.abs (.fm ⟨m,hd,bs,p,some ln,fs,pa,sk,co,out⟩)]=>(fun(m:Str) (bs:List Int) (fs:List Fld) (out:List Evt) (ea eb:Str) (ef:List Fld) (ebs ex ey ez et:Str)=>(some (.one ⟨I.hid (wZ ⟨m,hd,bs,p,some ln,fs,pa,sk,co,out⟩),(.ret (.tup [])),[.abs (.fm ⟨m,hd,bs,p,some ln,fs,pa,sk,co,(I.hid (out++[⟨k,⟨ea,eb,ei,ef,en⟩,ebs,⟨ex,ey,ez,et⟩,ec⟩]))⟩)]⟩):Option CT)) m bs fs out ea eb ef ebs ex ey ez et
 |_,_=>none
theorem zgp:zx Tryz.prog 296 (Vs alg):=by
 intro args hp r h;unfold Vs at h;split at h<;>cases h
 rename_i k ea eb ei ef en ebs ex ey ez et ec m hd bs p ln fs pa sk co out
 revert ef bs fs out;intro(ef:List Fld) (bs:List Int) (fs:List Fld) (out:List Evt)
 simp only [CT.Good,zh];intro hneed;unfold wZ at hneed;simp only at hneed
 refine spH Tryz.func296 (by kernel_rfl) { cfgF with keep:=some [0,1,3]} [vH,vG] (by kernel_rfl) ?_
 intro I X hI hX
 refine orcL ?_;go_invoke;refine orcS (by kernel_rfl) ?_
 simp only [zi,Nat.reduceAdd];subst hI;simp only [nrmA,nrmB,nrlB,reduceCtorEq,HO.abs.injEq,Gh.fm.injEq,Fm.mk.injEq]
 (repeat' (first|refine ja ?_ ?_|intro _))<;>first|omega|exact jb|exact jc ‹False›|skip
 all_goals first
  |omega
  |rfl
  |with_reducible assumption
  |(simp only [jh,ji];omega)
  |(unfold wZ;simp only;omega)
  |(simp;done)
def uI:Know Tryz.prog:=⟨296,Vs,zgp⟩
def uH:Know Tryz.prog:=⟨296,fun I=>zu I (Vs I),zf zgp⟩
theorem zkz (m:Str) (hd:Int) (bs:List Int) (p:Int) (fs:List Fld) (pa sk co:Int) (out:List Evt) (c:Int) (hneed:wZ ⟨m,hd,bs,p,none,fs,pa,sk,co,out⟩):Spc Tryz.prog 291 [.v (.one (.ptr 0 0)),.v (.one (.p (.int .i64 c)))] [.abs (.fm ⟨m,hd,bs,p,none,fs,pa,sk,co,out⟩)] (.ret (.tup [])) [.abs (.fm ((xk ⟨m,hd,bs,p,none,fs,pa,sk,co,out⟩ c)))]:=by
 unfold wZ at hneed;simp only at hneed
 refine spH Tryz.func291 (by kernel_rfl) { cfgF with keep:=some [0,1]} [vH,vG,uI,uH] (by kernel_rfl) ?_
 intro I X hI hX
 refine orcL ?_;go_invoke;refine orcS (by kernel_rfl) ?_
 simp only [zi,Nat.reduceAdd];subst hI;simp only [nrmA,nrmB,nrlB,reduceCtorEq,HO.abs.injEq,Gh.fm.injEq,Fm.mk.injEq]
 (repeat' (first|refine ja ?_ ?_|intro _))<;>first|omega|exact jb|exact jc ‹False›|skip
 all_goals first
  |omega
  |rfl
  |with_reducible assumption
  |(simp only [jh,ji];omega)
  |(unfold wZ;simp only;omega)
  |(simp;done)
def Xc (I:Alg):KU
 |[.v (.one (.ptr 0 0)),.v (.one (.p (.int .i64 c)))],[.abs (.fm ⟨m,hd,bs,p,none,fs,pa,sk,co,out⟩)]=>(fun(m:Str) (bs:List Int) (fs:List Fld) (out:List Evt)=>(some (.one ⟨I.hid (wZ ⟨m,hd,bs,p,none,fs,pa,sk,co,out⟩),(.ret (.tup [])),[.abs (.fm (I.hid (xk ⟨m,hd,bs,p,none,fs,pa,sk,co,out⟩ c)))]⟩):Option CT)) m bs fs out
 |_,_=>none
theorem zcz:zx Tryz.prog 291 (Xc alg):=by
 intro args hp r h;unfold Xc at h
 split at h
 · cases h;exact fun hn=>zkz _ _ _ _ _ _ _ _ _ _ hn
 · cases h
def zmk:Know Tryz.prog:=⟨291,Xc,zcz⟩
def zmj:Know Tryz.prog:=⟨291,fun I=>zu I (Xc I),zf zcz⟩
theorem zsa (m:Str) (hd:Int) (bs:List Int) (p:Int) (ln:Ln) (fs:List Fld) (pa sk co:Int) (out:List Evt) (c:Int) (hneed:wZ ⟨m,hd,bs,p,some ln,fs,pa,sk,co,out⟩):Spc Tryz.prog 291 [.v (.one (.ptr 0 0)),.v (.one (.p (.int .i64 c)))] [.abs (.fm ⟨m,hd,bs,p,some ln,fs,pa,sk,co,out⟩)] (.ret (.tup [])) [.abs (.fm ((xk ⟨m,hd,bs,p,some ln,fs,pa,sk,co,out⟩ c)))]:=by
 unfold wZ at hneed;simp only at hneed
 refine spH Tryz.func291 (by kernel_rfl) { cfgF with keep:=some [0,1]} [vH,vG,uI,uH,zmk,zmj] (by kernel_rfl) ?_
 intro I X hI hX
 refine orcL ?_;go_invoke;refine orcS (by kernel_rfl) ?_
 simp only [zi,Nat.reduceAdd];subst hI;simp only [nrmA,nrmB,nrlB,reduceCtorEq,HO.abs.injEq,Gh.fm.injEq,Fm.mk.injEq]
 (repeat' (first|refine ja ?_ ?_|intro _))<;>first|omega|exact jb|exact jc ‹False›|skip
 all_goals first
  |omega
  |rfl
  |with_reducible assumption
  |(simp only [jh,ji];omega)
  |(unfold wZ;simp only;omega)
  |(simp;done)
def Vz (I:Alg):KU
 |[.v (.one (.ptr 0 0)),.v (.one (.p (.int .i64 c)))],[.abs (.fm f)]=>some (.one ⟨I.hid (wZ f),(.ret (.tup [])),[.abs (.fm (I.hid (xk f c)))]⟩)
 |_,_=>none
theorem zgy:zx Tryz.prog 291 (Vz alg):=by
 intro args hp r h;unfold Vz at h;split at h<;>cases h
 rename_i c f;simp only [CT.Good,zh];intro hneed;obtain⟨m,hd,bs,p,ln,fs,pa,sk,co,out⟩:=f
 cases ln with
 |none=>exact zkz m hd bs p fs pa sk co out c hneed
 |some ln=>exact zsa m hd bs p ln fs pa sk co out c hneed
def uM:Know Tryz.prog:=⟨291,Vz,zgy⟩
def uK:Know Tryz.prog:=⟨291,fun I=>zu I (Vz I),zf zgy⟩
theorem zcE (m:Str) (hd:Int) (bs:List Int) (p:Int) (fs:List Fld) (pa sk co:Int) (out:List Evt) (k:Int) (hneed:wZ ⟨m,hd,bs,p,none,fs,pa,sk,co,out⟩∧0≤k∧k≤255):Spc Tryz.prog 290 [.v (.one (.ptr 0 0)),.v (.one (.p (.int .u8 k)))] [.abs (.fm ⟨m,hd,bs,p,none,fs,pa,sk,co,out⟩)] (.ret (.tup [])) [.abs (.fm ((wB ⟨m,hd,bs,p,none,fs,pa,sk,co,out⟩ (UInt8.ofNat k.toNat))))]:=by
 obtain⟨hneed,h0,h1⟩:=hneed;have hc:=fun n=>u8k h0 h1 n
 have h45:(UInt8.ofNat k.toNat=45)=(k=45):=hc 45 (by decide)
 have h32:(UInt8.ofNat k.toNat=32)=(k=32):=hc 32 (by decide)
 have h9:(UInt8.ofNat k.toNat=9)=(k=9):=hc 9 (by decide)
 have h13:(UInt8.ofNat k.toNat=13)=(k=13):=hc 13 (by decide)
 clear hc;generalize UInt8.ofNat k.toNat=c at *;unfold wZ at hneed;simp only at hneed;generalize hr:wB ⟨m,hd,bs,p,none,fs,pa,sk,co,out⟩ c=r;unfold wB at hr;simp only [h45,h32,h9,h13] at hr
 refine spH Tryz.func290 (by kernel_rfl) { cfgF with keep:=some [0,1,4]} [vH,vG,uI,uH,uM,uK] (by kernel_rfl) ?_
 intro I X hI hX
 refine orcL ?_;go_invoke;refine orcS (by kernel_rfl) ?_
 simp only [zi,Nat.reduceAdd];subst hI;simp only [nrmA,nrmB,nrlB,reduceCtorEq,HO.abs.injEq,Gh.fm.injEq]
 (repeat' (first|refine ja ?_ ?_|intro _))<;>first|omega|exact jb|exact jc ‹False›|skip
 all_goals first
  |omega
  |(unfold wZ;simp only;omega)
  |(subst hr;simp [*,xk,evE,hd0,prt0];done)
def qi (I:Alg):KU
 |[.v (.one (.ptr 0 0)),.v (.one (.p (.int .u8 k)))],[.abs (.fm ⟨m,hd,bs,p,none,fs,pa,sk,co,out⟩)]=>(fun(m:Str) (bs:List Int) (fs:List Fld) (out:List Evt)=>(some (.one ⟨I.hid (wZ ⟨m,hd,bs,p,none,fs,pa,sk,co,out⟩∧0≤k∧k≤255),(.ret (.tup [])),[.abs (.fm (I.hid (wB ⟨m,hd,bs,p,none,fs,pa,sk,co,out⟩ (UInt8.ofNat k.toNat))))]⟩):Option CT)) m bs fs out
 |_,_=>none
theorem TD:zx Tryz.prog 290 (qi alg):=by
 intro args hp r h;unfold qi at h
 split at h
 · cases h;exact fun hn=>zcE _ _ _ _ _ _ _ _ _ _ hn
 · cases h
def zgB:Know Tryz.prog:=⟨290,qi,TD⟩
def zgA:Know Tryz.prog:=⟨290,fun I=>zu I (qi I),zf TD⟩
theorem zml (m:Str) (hd:Int) (bs:List Int) (p:Int) (ln:Ln) (fs:List Fld) (pa sk co:Int) (out:List Evt) (k:Int) (hneed:wZ ⟨m,hd,bs,p,some ln,fs,pa,sk,co,out⟩∧0≤k∧k≤255):Spc Tryz.prog 290 [.v (.one (.ptr 0 0)),.v (.one (.p (.int .u8 k)))] [.abs (.fm ⟨m,hd,bs,p,some ln,fs,pa,sk,co,out⟩)] (.ret (.tup [])) [.abs (.fm ((wB ⟨m,hd,bs,p,some ln,fs,pa,sk,co,out⟩ (UInt8.ofNat k.toNat))))]:=by
 obtain⟨hneed,h0,h1⟩:=hneed;have hc:=fun n=>u8k h0 h1 n
 have h45:(UInt8.ofNat k.toNat=45)=(k=45):=hc 45 (by decide)
 have h32:(UInt8.ofNat k.toNat=32)=(k=32):=hc 32 (by decide)
 have h9:(UInt8.ofNat k.toNat=9)=(k=9):=hc 9 (by decide)
 have h13:(UInt8.ofNat k.toNat=13)=(k=13):=hc 13 (by decide)
 clear hc;generalize UInt8.ofNat k.toNat=c at *;unfold wZ at hneed;simp only at hneed;generalize hr:wB ⟨m,hd,bs,p,some ln,fs,pa,sk,co,out⟩ c=r;unfold wB at hr;simp only [h45,h32,h9,h13] at hr
 refine spH Tryz.func290 (by kernel_rfl) { cfgF with keep:=some [0,1,4]} [vH,vG,uI,uH,uM,uK,zgB,zgA] (by kernel_rfl) ?_
 intro I X hI hX
 refine orcL ?_;go_invoke;refine orcS (by kernel_rfl) ?_
 simp only [zi,Nat.reduceAdd];subst hI;simp only [nrmA,nrmB,nrlB,reduceCtorEq,HO.abs.injEq,Gh.fm.injEq]
 (repeat' (first|refine ja ?_ ?_|intro _))<;>first|omega|exact jb|exact jc ‹False›|skip
 all_goals first
  |omega
  |(unfold wZ;simp only;omega)
  |(subst hr;simp [*,xk,evE,hd0,prt0];done)
def Zv (I:Alg):KU
 |[.v (.one (.ptr 0 0)),.v (.one (.p (.int .u8 k)))],[.abs (.fm f)]=>some (.one ⟨I.hid (wZ f∧0≤k∧k≤255),(.ret (.tup [])),[.abs (.fm (I.hid (wB f (UInt8.ofNat k.toNat))))]⟩)
 |_,_=>none
theorem za7:zx Tryz.prog 290 (Zv alg):=by
 intro args hp r h;unfold Zv at h;split at h<;>cases h
 rename_i k f;simp only [CT.Good,zh];intro hneed;obtain⟨m,hd,bs,p,ln,fs,pa,sk,co,out⟩:=f
 cases ln with
 |none=>exact zcE m hd bs p fs pa sk co out k hneed
 |some ln=>exact zml m hd bs p ln fs pa sk co out k hneed
def za6:Know Tryz.prog:=⟨290,Zv,za7⟩
def za5:Know Tryz.prog:=⟨290,fun I=>zu I (Zv I),zf za7⟩
structure FmS (f:Fm):Prop where
 bs:f.bs=Si f.mark
 ml:f.mark.length≤1000000
 h0:0≤f.held
 h1:f.mark=[]∨f.held<f.mark.length
 s0:0≤f.skip∧f.skip≤2
theorem zgz (m:Str) (hd:Int) (bs:List Int) (p:Int) (fs:List Fld) (pa sk co:Int) (out:List Evt) (k:Int) (hneed:fm9 ⟨m,hd,bs,p,none,fs,pa,sk,co,out⟩∧FmS ⟨m,hd,bs,p,none,fs,pa,sk,co,out⟩∧0≤k∧k≤255):Spc Tryz.prog 289 [.v (.one (.ptr 0 0)),.v (.one (.p (.int .u8 k)))] [.abs (.fm ⟨m,hd,bs,p,none,fs,pa,sk,co,out⟩)] (.ret (.tup [])) [.abs (.fm ((vI ⟨m,hd,bs,p,none,fs,pa,sk,co,out⟩ (UInt8.ofNat k.toNat))))]:=by
 obtain⟨hneed,⟨hbs,hml,hh0,hh1,hs0⟩,h0,h1⟩:=hneed;unfold fm9 at hneed;simp only at hneed hbs hml hh0 hh1 hs0;generalize hr:vI ⟨m,hd,bs,p,none,fs,pa,sk,co,out⟩ (UInt8.ofNat k.toNat)=r;unfold vI uP fmSk at hr;simp only [Int.min_def] at hr
 refine spH Tryz.func289 (by kernel_rfl) { cfgF with fz:=[296],keep:=some [0,1,4,5,6]} [UQ,UO,vH,vG,uI,uH] (by kernel_rfl) ?_
 intro I X hI hX
 refine orcL ?_;go_invoke;refine orcS (by kernel_rfl) ?_
 simp only [zi,Nat.reduceAdd];generalize sZ m hd.toNat (UInt8.ofNat k.toNat)=q at *;obtain⟨o,n2,fd⟩:=q;subst hI;simp only [nrmA,nrmB,nrlB,reduceCtorEq,HO.abs.injEq,Gh.fm.injEq];simp only at hr
 have hn:0≤(if sk≤(o.length:Int) then sk else(o.length:Int))∧(if sk≤(o.length:Int) then sk else(o.length:Int))≤o.length∧(if sk≤(o.length:Int) then sk else(o.length:Int))≤sk:=by split<;>omega
 generalize(if sk≤(o.length:Int) then sk else(o.length:Int))=n at *
 rw [jq (show(o.drop n.toNat).length≤o.length - n.toNat by rw [jC];exact jL _)]
 have hne:0<(o.length:Int) - n→¬ o.drop n.toNat=[]:=fun h k=>by have:=congrArg List.length k;rw [jC,ji] at this;omega
 have hnn: ¬ 0<(o.length:Int) - n→o.drop n.toNat=[]:=fun h=>jF (by omega)
 generalize o.drop n.toNat=D at *
 (repeat' (first|refine ja ?_ ?_|intro _))<;>first|omega|exact jb|exact jc ‹False›|skip
 all_goals first
  |omega
  |with_reducible assumption
  |(unfold wZ;simp only [jk,jr];omega)
  |(have hne:=hne (by omega);clear hnn;subst hr;simp [*,evB,evO,hd0,prt0];done)
  |(have hnn:=hnn (by omega);clear hne;subst hr;simp [*,evB,evO,hd0,prt0];done)
  |(clear hne hnn;subst hr;simp [*,evB,evO,hd0,prt0];done)
def Zu (I:Alg):KU
 |[.v (.one (.ptr 0 0)),.v (.one (.p (.int .u8 k)))],[.abs (.fm ⟨m,hd,bs,p,none,fs,pa,sk,co,out⟩)]=>(fun(m:Str) (bs:List Int) (fs:List Fld) (out:List Evt)=>(some (.one ⟨I.hid (fm9 ⟨m,hd,bs,p,none,fs,pa,sk,co,out⟩∧FmS ⟨m,hd,bs,p,none,fs,pa,sk,co,out⟩∧0≤k∧k≤255),(.ret (.tup [])),[.abs (.fm (I.hid (vI ⟨m,hd,bs,p,none,fs,pa,sk,co,out⟩ (UInt8.ofNat k.toNat))))]⟩):Option CT)) m bs fs out
 |_,_=>none
theorem za4:zx Tryz.prog 289 (Zu alg):=by
 intro args hp r h;unfold Zu at h
 split at h
 · cases h;exact fun hn=>zgz _ _ _ _ _ _ _ _ _ _ hn
 · cases h
def zh8:Know Tryz.prog:=⟨289,Zu,za4⟩
def zh7:Know Tryz.prog:=⟨289,fun I=>zu I (Zu I),zf za4⟩
theorem zpo (m:Str) (hd:Int) (bs:List Int) (p:Int) (ln:Ln) (fs:List Fld) (pa sk co:Int) (out:List Evt) (k:Int) (hneed:fm9 ⟨m,hd,bs,p,some ln,fs,pa,sk,co,out⟩∧FmS ⟨m,hd,bs,p,some ln,fs,pa,sk,co,out⟩∧0≤k∧k≤255):Spc Tryz.prog 289 [.v (.one (.ptr 0 0)),.v (.one (.p (.int .u8 k)))] [.abs (.fm ⟨m,hd,bs,p,some ln,fs,pa,sk,co,out⟩)] (.ret (.tup [])) [.abs (.fm ((vI ⟨m,hd,bs,p,some ln,fs,pa,sk,co,out⟩ (UInt8.ofNat k.toNat))))]:=by
 obtain⟨hneed,⟨hbs,hml,hh0,hh1,hs0⟩,h0,h1⟩:=hneed;unfold fm9 at hneed;simp only at hneed hbs hml hh0 hh1 hs0;generalize hr:vI ⟨m,hd,bs,p,some ln,fs,pa,sk,co,out⟩ (UInt8.ofNat k.toNat)=r;unfold vI uP fmSk at hr;simp only [Int.min_def] at hr
 refine spH Tryz.func289 (by kernel_rfl) { cfgF with fz:=[296],keep:=some [0,1,4,5,6]} [UQ,UO,vH,vG,uI,uH,zh8,zh7] (by kernel_rfl) ?_
 intro I X hI hX
 refine orcL ?_;go_invoke;refine orcS (by kernel_rfl) ?_
 simp only [zi,Nat.reduceAdd];generalize sZ m hd.toNat (UInt8.ofNat k.toNat)=q at *;obtain⟨o,n2,fd⟩:=q;subst hI;simp only [nrmA,nrmB,nrlB,reduceCtorEq,HO.abs.injEq,Gh.fm.injEq];simp only at hr
 have hn:0≤(if sk≤(o.length:Int) then sk else(o.length:Int))∧(if sk≤(o.length:Int) then sk else(o.length:Int))≤o.length∧(if sk≤(o.length:Int) then sk else(o.length:Int))≤sk:=by split<;>omega
 generalize(if sk≤(o.length:Int) then sk else(o.length:Int))=n at *
 rw [jq (show(o.drop n.toNat).length≤o.length - n.toNat by rw [jC];exact jL _)]
 have hne:0<(o.length:Int) - n→¬ o.drop n.toNat=[]:=fun h k=>by have:=congrArg List.length k;rw [jC,ji] at this;omega
 have hnn: ¬ 0<(o.length:Int) - n→o.drop n.toNat=[]:=fun h=>jF (by omega)
 generalize o.drop n.toNat=D at *
 (repeat' (first|refine ja ?_ ?_|intro _))<;>first|omega|exact jb|exact jc ‹False›|skip
 all_goals first
  |omega
  |with_reducible assumption
  |(unfold wZ;simp only [jk,jr];omega)
  |(have hne:=hne (by omega);clear hnn;subst hr;simp [*,evB,evO,hd0,prt0];done)
  |(have hnn:=hnn (by omega);clear hne;subst hr;simp [*,evB,evO,hd0,prt0];done)
  |(clear hne hnn;subst hr;simp [*,evB,evO,hd0,prt0];done)
def Xe (I:Alg):KU
 |[.v (.one (.ptr 0 0)),.v (.one (.p (.int .u8 k)))],[.abs (.fm f)]=>some (.one ⟨I.hid (fm9 f∧FmS f∧0≤k∧k≤255),(.ret (.tup [])),[.abs (.fm (I.hid (vI f (UInt8.ofNat k.toNat))))]⟩)
 |_,_=>none
theorem zcD:zx Tryz.prog 289 (Xe alg):=by
 intro args hp r h;unfold Xe at h;split at h<;>cases h
 rename_i k f;simp only [CT.Good,zh];intro hneed;obtain⟨m,hd,bs,p,ln,fs,pa,sk,co,out⟩:=f
 cases ln with
 |none=>exact zgz m hd bs p fs pa sk co out k hneed
 |some ln=>exact zpo m hd bs p ln fs pa sk co out k hneed
def zcC:Know Tryz.prog:=⟨289,Xe,zcD⟩
def zcB:Know Tryz.prog:=⟨289,fun I=>zu I (Xe I),zf zcD⟩
end Go.Proofs.YtkjepecoodjbmaaGreatDoor
namespace Go.Proofs.YtkjepecoodjbmaaGreatDoor
open Go Go.Sep Go.Ab
set_option maxRecDepth 100000
theorem zsg (m:Str) (n:Nat) (c:UInt8):m=[]∨(sZ m n c).2.1<m.length:=by
 unfold sZ
 by_cases h:m=[]
 · exact .inl h
 · rw [if_neg h]
   have h0:0<m.length:=by cases m<;>simp_all
   unfold P.feed;simp only
   repeat' split
   all_goals first|exact .inr h0|(right;assumption)
theorem VD (m:Str) (n:Nat) (c:UInt8):m=[]∨(((sZ m n c).2.1:Nat):Int)<m.length:=(zsg m n c).imp id fun h=>by omega
theorem zhH (l:List Fld):(Zj l).1.bytes=[]:=by
 unfold Zj zry
 repeat' split
 all_goals rfl
def FdOk (f:List Fld):Prop:=f.length≤1000∧∀ x ∈ f,x.name.length≤1000000∧x.value.length≤1000000
structure FmB (f:Fm):Prop where
 few:f.out.length≤9000000
 sk:FmS f
 fd:FdOk f.fields
 p0:0≤f.parts∧f.parts≤12
theorem zpr (m:Str) (hd:Int) (bs:List Int) (p:Int) (fs:List Fld) (pa sk co:Int) (out:List Evt) (hneed:FmB ⟨m,hd,bs,p,none,fs,pa,sk,co,out⟩):Spc Tryz.prog 297 [.v (.one (.ptr 0 0))] [.abs (.fm ⟨m,hd,bs,p,none,fs,pa,sk,co,out⟩)] (.ret (.tup [])) [.abs (.fm ((wG ⟨m,hd,bs,p,none,fs,pa,sk,co,out⟩)))]:=by
 obtain⟨h9,⟨hbs,hml,hh0,hh1,hs0⟩,⟨hfl,hff⟩,hp0⟩:=hneed;simp only at h9 hbs hml hh0 hh1 hs0 hfl hff hp0;generalize hr:wG ⟨m,hd,bs,p,none,fs,pa,sk,co,out⟩=r;have hb:=zhH fs;unfold wG at hr;simp only [xk,fmSk,evP,evF,jJ] at hr
 refine spH Tryz.func297 (by kernel_rfl) { cfgF with keep:=some [0,2,3]} [UQ,UO,zkJ,zkI,vH,vG,uI,uH,uM,uK] (by kernel_rfl) ?_
 intro I X hI hX
 refine orcL ?_;go_invoke;refine orcS (by kernel_rfl) ?_
 simp only [zi,Nat.reduceAdd];have hl1:=VD m hd.toNat 13;generalize Zj fs=P at *;obtain⟨⟨a,b,c,d⟩,e⟩:=P;simp only at hb hr;subst hb;subst hI;simp only [nrmA,nrmB,nrlB,reduceCtorEq,HO.abs.injEq,Gh.fm.injEq]
 (repeat' (first|refine ja ?_ ?_|intro _))<;>first|omega|exact jb|exact jc ‹False›|skip
 all_goals first
  |omega
  |with_reducible assumption
  |exact(hff _ ‹_›).1
  |exact(hff _ ‹_›).2
  |(unfold wZ;simp only [jk,jr];omega)
  |exact hl1
  |(subst hr;simp [*,evF,hd0,prt0,xk];done)
theorem zpq (m:Str) (hd:Int) (bs:List Int) (p:Int) (ln:Ln) (fs:List Fld) (pa sk co:Int) (out:List Evt) (hneed:FmB ⟨m,hd,bs,p,some ln,fs,pa,sk,co,out⟩):Spc Tryz.prog 297 [.v (.one (.ptr 0 0))] [.abs (.fm ⟨m,hd,bs,p,some ln,fs,pa,sk,co,out⟩)] (.ret (.tup [])) [.abs (.fm ((wG ⟨m,hd,bs,p,some ln,fs,pa,sk,co,out⟩)))]:=by
 obtain⟨h9,⟨hbs,hml,hh0,hh1,hs0⟩,⟨hfl,hff⟩,hp0⟩:=hneed;simp only at h9 hbs hml hh0 hh1 hs0 hfl hff hp0;generalize hr:wG ⟨m,hd,bs,p,some ln,fs,pa,sk,co,out⟩=r;have hb:=zhH fs;unfold wG at hr;simp only [xk,fmSk,evP,evF,jJ] at hr
 refine spH Tryz.func297 (by kernel_rfl) { cfgF with keep:=some [0,2,3]} [UQ,UO,zkJ,zkI,vH,vG,uI,uH,uM,uK] (by kernel_rfl) ?_
 intro I X hI hX
 refine orcL ?_;go_invoke;refine orcS (by kernel_rfl) ?_
 simp only [zi,Nat.reduceAdd];have hl1:=VD m hd.toNat 13;generalize Zj fs=P at *;obtain⟨⟨a,b,c,d⟩,e⟩:=P;simp only at hb hr;subst hb;subst hI;simp only [nrmA,nrmB,nrlB,reduceCtorEq,HO.abs.injEq,Gh.fm.injEq]
 (repeat' (first|refine ja ?_ ?_|intro _))<;>first|omega|exact jb|exact jc ‹False›|skip
 all_goals first
  |omega
  |with_reducible assumption
  |exact(hff _ ‹_›).1
  |exact(hff _ ‹_›).2
  |(unfold wZ;simp only [jk,jr];omega)
  |exact hl1
  |(subst hr;simp [*,evF,hd0,prt0,xk];done)
def Xf (I:Alg):KU
 |[.v (.one (.ptr 0 0))],[.abs (.fm f)]=>some (.one ⟨I.hid (FmB f),(.ret (.tup [])),[.abs (.fm (I.hid (wG f)))]⟩)
 |_,_=>none
theorem zcH:zx Tryz.prog 297 (Xf alg):=by
 intro args hp r h;unfold Xf at h;split at h<;>cases h
 rename_i f;simp only [CT.Good,zh];intro hneed;obtain⟨m,hd,bs,p,ln,fs,pa,sk,co,out⟩:=f
 cases ln with
 |none=>exact zpr m hd bs p fs pa sk co out hneed
 |some ln=>exact zpq m hd bs p ln fs pa sk co out hneed
def zcG:Know Tryz.prog:=⟨297,Xf,zcH⟩
def zcF:Know Tryz.prog:=⟨297,fun I=>zu I (Xf I),zf zcH⟩
theorem zr5 (m:Str) (hd:Int) (bs:List Int) (p:Int) (fs:List Fld) (pa sk co:Int) (out:List Evt) (s:Str) (hneed:FmB ⟨m,hd,bs,p,none,fs,pa,sk,co,out⟩∧s.length≤1000000):Spc Tryz.prog 292 [.v (.one (.ptr 0 0)),.v (.one (.p (.str s)))] [.abs (.fm ⟨m,hd,bs,p,none,fs,pa,sk,co,out⟩)] (.ret (.tup [])) [.abs (.fm ((uJ ⟨m,hd,bs,p,none,fs,pa,sk,co,out⟩ s)))]:=by
 obtain⟨⟨h9,hS,⟨hfl,hff⟩,hp0⟩,hs⟩:=hneed;simp only at h9 hfl hff hp0;generalize hr:uJ ⟨m,hd,bs,p,none,fs,pa,sk,co,out⟩ s=r;unfold uJ at hr;simp only at hr
 refine spH Tryz.func292 (by kernel_rfl) { cfgF with keep:=some [0,1,4,5]} [WS,WR,uM,uK,zcG,zcF] (by kernel_rfl) ?_
 intro I X hI hX
 refine orcL ?_;go_invoke;refine orcS (by kernel_rfl) ?_
 simp only [zi,Nat.reduceAdd];generalize uq s=y at *;obtain⟨⟨a,b⟩,e⟩:=y;subst hI;simp only [nrmA,nrmB,nrlB,reduceCtorEq,HO.abs.injEq,Gh.fm.injEq]
 (repeat' (first|refine ja ?_ ?_|intro _))<;>first|omega|exact jb|exact jc ‹False›|skip
 all_goals first
  |omega
  |with_reducible assumption
  |exact⟨h9,hS,⟨hfl,hff⟩,hp0⟩
  |(unfold wZ;simp only;omega)
  |(simp only [jr];omega)
  |(subst hr;simp [*,xk];done)
  |(subst hr;rw [if_pos ‹s=[]›];done)
  |(subst hr;rw [if_neg ‹¬ s=[]›,if_pos (by omega)];done)
  |(subst hr;rw [if_neg ‹¬ s=[]›,if_neg (by omega),if_pos ‹¬ e=0›];done)
  |(subst hr;rw [if_neg ‹¬ s=[]›,if_neg (by omega),if_neg (fun h=>h ‹e=0›)];done)
theorem zr4 (m:Str) (hd:Int) (bs:List Int) (p:Int) (ln:Ln) (fs:List Fld) (pa sk co:Int) (out:List Evt) (s:Str) (hneed:FmB ⟨m,hd,bs,p,some ln,fs,pa,sk,co,out⟩∧s.length≤1000000):Spc Tryz.prog 292 [.v (.one (.ptr 0 0)),.v (.one (.p (.str s)))] [.abs (.fm ⟨m,hd,bs,p,some ln,fs,pa,sk,co,out⟩)] (.ret (.tup [])) [.abs (.fm ((uJ ⟨m,hd,bs,p,some ln,fs,pa,sk,co,out⟩ s)))]:=by
 obtain⟨⟨h9,hS,⟨hfl,hff⟩,hp0⟩,hs⟩:=hneed;simp only at h9 hfl hff hp0;generalize hr:uJ ⟨m,hd,bs,p,some ln,fs,pa,sk,co,out⟩ s=r;unfold uJ at hr;simp only at hr
 refine spH Tryz.func292 (by kernel_rfl) { cfgF with keep:=some [0,1,4,5]} [WS,WR,uM,uK,zcG,zcF] (by kernel_rfl) ?_
 intro I X hI hX
 refine orcL ?_;go_invoke;refine orcS (by kernel_rfl) ?_
 simp only [zi,Nat.reduceAdd];generalize uq s=y at *;obtain⟨⟨a,b⟩,e⟩:=y;subst hI;simp only [nrmA,nrmB,nrlB,reduceCtorEq,HO.abs.injEq,Gh.fm.injEq]
 (repeat' (first|refine ja ?_ ?_|intro _))<;>first|omega|exact jb|exact jc ‹False›|skip
 all_goals first
  |omega
  |with_reducible assumption
  |exact⟨h9,hS,⟨hfl,hff⟩,hp0⟩
  |(unfold wZ;simp only;omega)
  |(simp only [jr];omega)
  |(subst hr;simp [*,xk];done)
  |(subst hr;rw [if_pos ‹s=[]›];done)
  |(subst hr;rw [if_neg ‹¬ s=[]›,if_pos (by omega)];done)
  |(subst hr;rw [if_neg ‹¬ s=[]›,if_neg (by omega),if_pos ‹¬ e=0›];done)
  |(subst hr;rw [if_neg ‹¬ s=[]›,if_neg (by omega),if_neg (fun h=>h ‹e=0›)];done)
def Vx (I:Alg):KU
 |[.v (.one (.ptr 0 0)),.v (.one (.p (.str s)))],[.abs (.fm f)]=>(fun(s:Str)=>(some (.one ⟨I.hid (FmB f∧s.length≤1000000),(.ret (.tup [])),[.abs (.fm (I.hid (uJ f s)))]⟩):Option CT)) s
 |_,_=>none
theorem zgv:zx Tryz.prog 292 (Vx alg):=by
 intro args hp r h;unfold Vx at h;split at h<;>cases h
 rename_i s f;simp only [CT.Good,zh];intro hneed;obtain⟨m,hd,bs,p,ln,fs,pa,sk,co,out⟩:=f
 cases ln with
 |none=>exact zr5 m hd bs p fs pa sk co out s hneed
 |some ln=>exact zr4 m hd bs p ln fs pa sk co out s hneed
def zgu:Know Tryz.prog:=⟨292,Vx,zgv⟩
def zgt:Know Tryz.prog:=⟨292,fun I=>zu I (Vx I),zf zgv⟩
end Go.Proofs.YtkjepecoodjbmaaGreatDoor
namespace Go.Proofs.YtkjepecoodjbmaaGreatDoor
open Go Go.Sep Go.Ab
set_option maxRecDepth 100000
theorem zfh (s:Str):(uq s).1.name.length≤s.length∧(uq s).1.value.length≤s.length:=by
 have h:=zed s 58;have ht:=ziR (cutB s 58).2.1 [32,9];unfold uq
 repeat' split
 all_goals simp only [ji]
 all_goals omega
end Go.Proofs.YtkjepecoodjbmaaGreatDoor
namespace Go.Proofs.YtkjepecoodjbmaaGreatDoor
open Go Go.Sep Go.Ab
set_option maxRecDepth 100000
structure FmI (f:Fm) (i:Nat):Prop where
 bs:f.bs=Si f.mark
 ml:f.mark.length≤1000
 h0:0≤f.held
 h1:f.held<f.mark.length
 s0:0≤f.skip∧f.skip≤2
 p0:0≤f.parts∧f.parts≤12
 fl:f.fields.length≤16
 ff: ∀ x ∈ f.fields,x.name.length≤i∧x.value.length≤i
 lb: ∀ l,f.ln=some l→l.b.length≤i
 p5:f.pos=5→f.ln≠none
 on:f.out.length≤4 * i
theorem zcx {f:Fm} {i:Nat} (h:FmI f i) (c:UInt8):FmI (fmSk f c) i:=by
 have hl:=(VD f.mark f.held.toNat c).resolve_left fun e=>by have h1:=h.h1;have h0:=h.h0;rw [e,ji] at h1;omega
 exact⟨h.bs,h.ml,Int.natCast_nonneg _,hl,h.s0,h.p0,h.fl,h.ff,h.lb,h.p5,h.on⟩
theorem zky {f:Fm} {i j:Nat} (h:FmI f i) (k:i≤j):FmI f j:=by
 obtain⟨a,b,c,d,e,f1,g,h1,h2,h3,h4⟩:=h
 exact⟨a,b,c,d,e,f1,g,fun x m=>by have:=h1 x m;omega,fun l e=>by have:=h2 l e;omega,h3,by omega⟩
theorem Ym {f:Fm} {i:Nat} (h:FmI f i) {p co sk pa:Int} {o:List Evt} (ho:o.length≤4 * i) (hp:p=5→f.ln≠none) (hs:0≤sk∧sk≤2) (hpa:0≤pa∧pa≤12):FmI { f with pos:=p,code:=co,out:=o,skip:=sk,parts:=pa} i:=
 ⟨h.bs,h.ml,h.h0,h.h1,hs,hpa,h.fl,h.ff,h.lb,hp,ho⟩
theorem Zt {f:Fm} {i:Nat} (h:FmI f i) (ho:f.out.length+1≤4 * i) (c:Int):FmI (xk f c) i:=
 Ym h (by simp only [jk,jr];omega) (fun h=>absurd h (by decide)) h.s0 h.p0
theorem zmm {f:Fm} {i:Nat} (h:FmI f i) (ho:f.out.length+1≤4 * i) (c:UInt8):FmI (wB f c) i:=by
 unfold wB
 repeat' split
 · exact Ym h h.on (fun h=>absurd h (by decide)) h.s0 h.p0
 · exact Ym h (by simp only [jk,jr];omega) (fun h=>absurd h (by decide)) h.s0 h.p0
 · exact Ym h h.on (fun h=>absurd h (by decide)) h.s0 h.p0
 · exact Ym h h.on (fun h=>absurd h (by decide)) h.s0 h.p0
 · exact Zt h ho 5
theorem zpp {f:Fm} {i:Nat} (h:FmI f i) (ho:f.out.length+2≤4 * i) (c:UInt8):FmI (vI f c) i:=by
 have hs:=zcx h c;have h2:=h.s0;unfold vI
 split
 · refine Ym (f:=fmSk f c) hs ?_ h.p5 ?_ h.p0
   · split
     · simp only [jk,jr];omega
     · exact h.on
   · rw [Int.min_def]
     split<;>omega
 · refine Ym (f:=fmSk f c) hs ?_ (fun h=>absurd h (by decide)) (by decide) h.p0
   repeat' split
   all_goals first|exact h.on|(simp only [jk,jr,jh,ji];omega)
theorem zps {f:Fm} {i:Nat} (h:FmI f i) (ho:f.out.length+1≤4 * i):FmI (wG f) i:=by
 have h2:=h.p0;unfold wG
 split
 · exact Zt h ho _
 · split
   · exact Zt h ho _
   · refine zcx (zcx ?_ _) _
     exact Ym h (by simp only [jk,jr];omega) (fun h=>absurd h (by decide)) (by decide) (by omega)
theorem zr6 {f:Fm} {i:Nat} (h:FmI f i) (ho:f.out.length+1≤4 * i) {s:Str} (hs:s.length≤i):FmI (uJ f s) i:=by
 unfold uJ
 split
 · exact zps h ho
 · split
   · exact Zt h ho _
   · split
     · exact Zt h ho _
     · rename_i h16 _
       have hp:=zfh s;refine⟨h.bs,h.ml,h.h0,h.h1,h.s0,h.p0,?_,fun x hx=> ?_,h.lb,h.p5,h.on⟩
       · have:=h.fl
         simp only [jk,jr];omega
       · rcases List.mem_append.1 hx with h5|h5
         · exact h.ff x h5
         · rw [List.mem_singleton.1 h5];omega
theorem zsb {f:Fm} {i:Nat} (h:FmI f i) (c:UInt8):FmI (fmF f c) (i+1):=by
 have hm:=zky h (show i≤i+1 by omega)
 have ho:f.out.length+2≤4 * (i+1):=by have:=h.on;omega
 unfold fmF
 split
 · exact zpp hm ho c
 · split
   · exact zmm hm (by omega) c
   · split
     · split
       · exact Zt hm (by omega) 2
       · exact⟨hm.bs,hm.ml,hm.h0,hm.h1,hm.s0,hm.p0,by simp,(fun x hx=>by cases hx),(fun l e=>by cases e;simp [ln0]),(fun _ e=>by cases e),hm.on⟩
     · split
       · have hb:=zrK (lnOf f) c
         have hl:=Yg (lnOf f) c
         have hn:(lnOf f).b.length≤i:=by
          unfold lnOf
          cases e:f.ln with
          |none=>simp [ln0]
          |some l=>exact h.lb l e
         have hk:FmI { f with ln:=some (lnF (lnOf f) c).1} (i+1):=⟨hm.bs,hm.ml,hm.h0,hm.h1,hm.s0,hm.p0,hm.fl,hm.ff,(fun l e=>by cases e;omega),(fun _ e=>by cases e),hm.on⟩
         split
         · exact Zt hk (by simp only;omega) _
         · split
           · exact zr6 hk (by simp only;omega) (by omega)
           · exact hk
       · exact hm
theorem zrJ (k:Int) (hneed:False):Spc Tryz.prog 121 [.v (.one (.p (.val (.pointer none)))),.v (.one (.p (.int .u8 k)))] [] (.ret (.tup [.one (.p (.str ([]))),.one (.p (.bool false)),.one (.p (.int .i64 0))])) []:=hneed.elim
def Y1 (I:Alg):KU
 |[.v (.one (.p (.val (.pointer none)))),.v (.one (.p (.int .u8 k)))],[]=>some (.one ⟨I.hid (False),(.ret (.tup [.one (.p (.str (I.hid ([])))),.one (.p (.bool false)),.one (.p (.int .i64 0))])),[]⟩)
 |_,_=>none
theorem zcd:zx Tryz.prog 121 (Y1 alg):=by
 intro args hp r h;unfold Y1 at h
 split at h
 · cases h;exact fun hn=>zrJ _ hn
 · cases h
def zcc:Know Tryz.prog:=⟨121,Y1,zcd⟩
def zcb:Know Tryz.prog:=⟨121,fun I=>zu I (Y1 I),zf zcd⟩
def fmN (f:Fm):Prop:=∃ i:Nat,i≤1000000∧FmI f i
theorem zuN (m:Str) (hd:Int) (bs:List Int) (p:Int) (fs:List Fld) (pa sk co:Int) (out:List Evt) (k:Int) (hneed:fmN ⟨m,hd,bs,p,none,fs,pa,sk,co,out⟩∧0≤k∧k≤255):Spc Tryz.prog 277 [.v (.one (.ptr 0 0)),.v (.one (.p (.int .u8 k)))] [.abs (.fm ⟨m,hd,bs,p,none,fs,pa,sk,co,out⟩)] (.ret (.tup [])) [.abs (.fm ((fmF ⟨m,hd,bs,p,none,fs,pa,sk,co,out⟩ (UInt8.ofNat k.toNat))))]:=by
 obtain⟨⟨i,hi,hI0⟩,hk0,hk1⟩:=hneed;obtain⟨g1,g2,g3,g4,g5,g6,g7,g8,g9,g10,g11⟩:=hI0;simp only at g1 g2 g3 g4 g5 g6 g7 g8 g9 g10 g11
 have g2:=Nat.le_trans g2 (show 1000≤1000000 by decide)
 have hfd:FdOk fs:=⟨by omega,fun x hx=>by have:=g8 x hx;omega⟩
 have h10:=u8k hk0 hk1 10 (by decide)
 have h10:(UInt8.ofNat k.toNat=10)=(k=10):=h10;generalize hr:fmF ⟨m,hd,bs,p,none,fs,pa,sk,co,out⟩ (UInt8.ofNat k.toNat)=r;unfold fmF lnOf at hr;simp only [h10] at hr;have hll:=trivial
 refine spH Tryz.func277 (by kernel_rfl) { cfgF with keep:=some [0,1,4,5,6,10,11,17]} [RY,RX,sO,sN,zcc,zcb,uM,uK,za6,za5,zcC,zcB,zgu,zgt] (by kernel_rfl) ?_
 intro I X hI hX
 refine orcL ?_;go_invoke;refine orcS (by kernel_rfl) ?_
 simp only [zi,Nat.reduceAdd];subst hI;simp only [nrmA,nrmB,nrlB,reduceCtorEq,HO.abs.injEq,Gh.fm.injEq]
 (repeat' (first|refine ja ?_ ?_|intro _))<;>first|omega|exact jb|exact jc ‹False›|skip
 all_goals first
  |omega
  |with_reducible assumption
  |(refine⟨by simp only;omega,⟨g1,g2,g3,.inr g4,g5⟩,?_⟩;done)
  |exact⟨g1,g2,g3,.inr g4,g5⟩
  |exact⟨by simp only;omega,⟨g1,g2,g3,.inr g4,g5⟩,hfd,g6⟩
  |exact Nat.le_trans hll (by omega)
  |(unfold wZ;simp only;omega)
  |(unfold fm9;simp only;omega)
  |(exact absurd rfl (g10 ‹_›))
  |(subst hr;simp [*,ln0];done)
theorem zuM (m:Str) (hd:Int) (bs:List Int) (p:Int) (ln:Ln) (fs:List Fld) (pa sk co:Int) (out:List Evt) (k:Int) (hneed:fmN ⟨m,hd,bs,p,some ln,fs,pa,sk,co,out⟩∧0≤k∧k≤255):Spc Tryz.prog 277 [.v (.one (.ptr 0 0)),.v (.one (.p (.int .u8 k)))] [.abs (.fm ⟨m,hd,bs,p,some ln,fs,pa,sk,co,out⟩)] (.ret (.tup [])) [.abs (.fm ((fmF ⟨m,hd,bs,p,some ln,fs,pa,sk,co,out⟩ (UInt8.ofNat k.toNat))))]:=by
 obtain⟨⟨i,hi,hI0⟩,hk0,hk1⟩:=hneed;obtain⟨g1,g2,g3,g4,g5,g6,g7,g8,g9,g10,g11⟩:=hI0;simp only at g1 g2 g3 g4 g5 g6 g7 g8 g9 g10 g11
 have g2:=Nat.le_trans g2 (show 1000≤1000000 by decide)
 have hfd:FdOk fs:=⟨by omega,fun x hx=>by have:=g8 x hx;omega⟩
 have h10:=u8k hk0 hk1 10 (by decide)
 have h10:(UInt8.ofNat k.toNat=10)=(k=10):=h10;generalize hr:fmF ⟨m,hd,bs,p,some ln,fs,pa,sk,co,out⟩ (UInt8.ofNat k.toNat)=r;unfold fmF lnOf at hr;simp only [h10] at hr;have hll:=Yg ln (UInt8.ofNat k.toNat);have hlb:=g9 ln rfl
 refine spH Tryz.func277 (by kernel_rfl) { cfgF with keep:=some [0,1,4,5,6,10,11,17]} [RY,RX,sO,sN,zcc,zcb,uM,uK,za6,za5,zcC,zcB,zgu,zgt] (by kernel_rfl) ?_
 intro I X hI hX
 refine orcL ?_;go_invoke;refine orcS (by kernel_rfl) ?_
 simp only [zi,Nat.reduceAdd];subst hI;simp only [nrmA,nrmB,nrlB,reduceCtorEq,HO.abs.injEq,Gh.fm.injEq]
 (repeat' (first|refine ja ?_ ?_|intro _))<;>first|omega|exact jb|exact jc ‹False›|skip
 all_goals first
  |omega
  |with_reducible assumption
  |(refine⟨by simp only;omega,⟨g1,g2,g3,.inr g4,g5⟩,?_⟩;done)
  |exact⟨g1,g2,g3,.inr g4,g5⟩
  |exact⟨by simp only;omega,⟨g1,g2,g3,.inr g4,g5⟩,hfd,g6⟩
  |exact Nat.le_trans hll (by omega)
  |(unfold wZ;simp only;omega)
  |(unfold fm9;simp only;omega)
  |(exact absurd rfl (g10 ‹_›))
  |(subst hr;simp [*,ln0];done)
def Ql (I:Alg):KU
 |[.v (.one (.ptr 0 0)),.v (.one (.p (.int .u8 k)))],[.abs (.fm f)]=>some (.one ⟨I.hid (fmN f∧0≤k∧k≤255),(.ret (.tup [])),[.abs (.fm (I.hid (fmF f (UInt8.ofNat k.toNat))))]⟩)
 |_,_=>none
theorem zkA:zx Tryz.prog 277 (Ql alg):=by
 intro args hp r h;unfold Ql at h;split at h<;>cases h
 rename_i k f;simp only [CT.Good,zh];intro hneed;obtain⟨m,hd,bs,p,ln,fs,pa,sk,co,out⟩:=f
 cases ln with
 |none=>exact zuN m hd bs p fs pa sk co out k hneed
 |some ln=>exact zuM m hd bs p ln fs pa sk co out k hneed
def Qk:Know Tryz.prog:=⟨277,Ql,zkA⟩
def Qj:Know Tryz.prog:=⟨277,fun I=>zu I (Ql I),zf zkA⟩
end Go.Proofs.YtkjepecoodjbmaaGreatDoor
namespace Go.Proofs.YtkjepecoodjbmaaGreatDoor
open Go Go.Sep Go.Ab
set_option maxRecDepth 100000
def zF (l:List Evt):Nat:=(l.map fun e=>e.bytes.length).sum
theorem yu (a b:List Evt):zF (a++b)=zF a+zF b:=by simp [zF]
theorem yZ (e:Evt):zF [e]=e.bytes.length:=by simp [zF]
theorem zoK (o:List Evt) (e:Evt):zF (uy o e)≤zF o+e.bytes.length:=by
 rcases List.eq_nil_or_concat o with rfl|⟨z,x,rfl⟩
 · rw [Yi,yZ];omega
 · rw [List.concat_eq_append,xu]
   split
   · rw [yu,yu,yZ,yZ];simp only [evB,jk];omega
   · rw [yu _ [e],yZ e];exact jL _
theorem Y2 (l:List Evt) (e:Evt):yK (l++[e])=uy (yK l) e:=by simp [yK,List.foldl_append]
theorem zaK (l:List Evt):zF (yK l)≤zF l:=by
 suffices ∀ l o:List Evt,zF (l.foldl uy o)≤zF o+zF l by have:=this l [];simpa [yK,zF] using this
 intro l
 induction l with
 |nil=>intro o;simp [zF]
 | cons e r ih=>
   intro o;have h1:=ih (uy o e);have h2:=zoK o e
   have h3:zF (e::r)=e.bytes.length+zF r:=by simp [zF]
   rw [List.foldl_cons];omega
theorem zoL (o:List Evt) (e:Evt):(uy o e).length≤o.length+1:=by
 rcases List.eq_nil_or_concat o with rfl|⟨z,x,rfl⟩
 · simp [Yi]
 · rw [List.concat_eq_append,xu]
   split<;>simp
theorem zmp (l:List Evt) (i:Nat):zF (l.take i)≤zF l:=by
 have:=yu (l.take i) (l.drop i);rw [List.take_append_drop] at this;omega
theorem VH {l:List Evt} {e:Evt} (h:e ∈ l):e.bytes.length≤zF l:=by
 obtain⟨a,b,rfl⟩:=List.append_of_mem h;have:=yu a (e::b)
 have h3:zF (e::b)=e.bytes.length+zF b:=by simp [zF]
 omega
theorem zaL (l:List Evt):(yK l).length≤l.length:=by
 suffices ∀ l o:List Evt,(l.foldl uy o).length≤o.length+l.length by have:=this l [];simpa [yK] using this
 intro l
 induction l with
 |nil=>intro o;simp
 | cons e r ih=>
   intro o;have h1:=ih (uy o e);have h2:=zoL o e;rw [List.foldl_cons,jh];omega
def Wy (I:Alg):KU
 |[.v (.one (.row 0))],[.row .evt 34 l]=>(fun(l:List Evt)=>(some (.one ⟨I.hid (zF l≤1000000∧l.length≤10000000),(.ret (.v (.one (.row 1)))),[.row .evt 34 l,.row .evt 34 (I.hid (yK l))]⟩):Option CT)) l
 |_,_=>none
theorem ze4:zx Tryz.prog 81 (Wy alg):=by
 intro args hp r h;unfold Wy at h;split at h<;>cases h
 rename_i l
 revert l;intro(l:List Evt)
 simp only [CT.Good,zh];intro hneed;obtain⟨hn1,hn2⟩:=hneed
 refine spH Tryz.func81 (by kernel_rfl) { nr:=[3],keep:=some [0,2,3,5,6,7,8,9,10]} [] (by kernel_rfl) ?_
 intro I X hI hX
 refine orcL ?_;go_invoke;refine orcS (by kernel_rfl) ?_
 simp only [zi,Nat.reduceAdd]
 refine lpH hI [] hX [0,3,8,9,10] (fun(g:Nat × List Evt)=>match g with|(i,o)=>i≤l.length∧o=yK (l.take i)) (fun(g:Nat × List Evt)=>match g with|(i,o)=>⟨[(0,.v (.one (.row 0))),(3,.v (.one (.row 1))),(8,.v (.one (.row 0))),(9,.v (.one (.p (.int .i64 ((I.len (α:=Evt) l)))))),(10,.v (.one (.p (.int .i64 i))))],[.row .evt 34 l,.row .evt 34 o],52,none⟩) (fun(g:Nat × List Evt)=>match g with|(i,o)=>l.length - i) (0,[]) (by kernel_rfl) (by kernel_rfl) ?_ ?_
 · exact⟨jM _,rfl⟩
 rintro⟨i,o⟩ ⟨h1,h2⟩ A hA;simp only at hA h1 h2
 refine orcL ?_;go_invoke;refine orcS (by kernel_rfl) ?_
 simp only [zi,Nat.reduceAdd];subst hI;simp only [nrmA,nrmB,nrlB,reduceCtorEq];have hl1:=zaL (l.take i)
 have hl2:(l.take i).length≤i:=by rw [jv];omega
 have hl3:=zaK (l.take i)
 have hl4: ∀ x ∈ yK (l.take i),x.bytes.length≤1000000:=fun x h=>by
  have a:=VH h;have b:=zmp l i;omega
 have hw: ¬ i<l.length→o=yK l:=fun h=>by rw [h2,jq (by omega)]
 have hy:i<l.length→yK (l.take (i+1))=uy o (l.getD i ⟨0,⟨[],[],0,[],0⟩,[],⟨[],[],[],[]⟩,0⟩):=fun h=>by rw [jB h,Y2,h2];simp [h]
 have hl5:i<l.length→(l.getD i ⟨0,⟨[],[],0,[],0⟩,[],⟨[],[],[],[]⟩,0⟩).bytes.length≤1000000:=fun h=>by
  have:l.getD i ⟨0,⟨[],[],0,[],0⟩,[],⟨[],[],[],[]⟩,0⟩ ∈ l:=by simp [h]
  have:=VH this;omega
 rw [← h2] at hl1 hl4
 refine⟨fun c=> ?_,fun c=>hw (by omega)⟩
 have hlt:i<l.length:=by omega
 have hy:=hy hlt;have hl5:=hl5 hlt;generalize l.getD i ⟨0,⟨[],[],0,[],0⟩,[],⟨[],[],[],[]⟩,0⟩=e at *
 have hgo: ∀ r:List Evt,r=uy o e→(fun p:Nat × List Evt=>p.1≤l.length∧p.2=yK (l.take p.1)) (i+1,r):=fun r h=>⟨by simp only;omega,by simp only;rw [hy,h]⟩
 rcases List.eq_nil_or_concat o with he|⟨z,x,he⟩
 · subst he
   rw [Yi] at hgo;simp only [jh,ji]
   (repeat' (first|refine ja ?_ ?_|intro _))<;>first|omega|exact jb|exact jc ‹False›|skip
   all_goals first
    |omega
    |exact hA (i+1,_) (hgo _ rfl) (by simp only;omega)
 · rw [List.concat_eq_append] at he
   subst he;have hx:=hl4 x (List.mem_append_right _ (List.mem_singleton.2 rfl))
   have hz:(((z++[x]).length:Int) - 1).toNat=z.length:=by rw [jk,jr];omega
   have hg: ∀ d,(z++[x]).getD z.length d=x:=fun d=>by simp
   have hs: ∀ d,(z++[x]).set z.length d=z++[d]:=fun d=>by simp
   rw [xu] at hgo;rw [jk,jr] at hl1;simp only [hz,hg,hs];simp only [jk,jh,ji];clear hz hg hs
   (repeat' (first|refine ja ?_ ?_|intro _))<;>first|omega|exact jb|exact jc ‹False›|skip
   all_goals first
    |omega
    |(rw [if_pos ⟨‹e.kind=2›,‹x.kind=2›⟩] at hgo;exact hA (i+1,_) (hgo _ rfl) (by simp only;omega))
    |(rw [if_neg (fun h=>‹¬ e.kind=2› h.1)] at hgo;exact hA (i+1,_) (hgo _ rfl) (by simp only;omega))
    |(rw [if_neg (fun h=>‹¬ x.kind=2› h.2)] at hgo;exact hA (i+1,_) (hgo _ rfl) (by simp only;omega))
def xJ:Know Tryz.prog:=⟨81,Wy,ze4⟩
def xI:Know Tryz.prog:=⟨81,fun I=>zu I (Wy I),zf ze4⟩
end Go.Proofs.YtkjepecoodjbmaaGreatDoor
namespace Go.Proofs.YtkjepecoodjbmaaGreatDoor
open Go Go.Sep Go.Ab
set_option maxRecDepth 100000
theorem zgG {m:Str} {n:Nat} (h:m=[]∨n<m.length) (c:UInt8):(sZ m n c).1.length+(sZ m n c).2.1≤n+1:=by
 unfold sZ
 by_cases h0:m=[]
 · rw [if_pos h0];simp only [jr];omega
 · rw [if_neg h0]
   have hn:n<m.length:=h.resolve_left h0
   have hf:=(P.zic m c P.take_len n n (jL _) (by omega)).le
   unfold P.feed;simp only
   repeat' split
   all_goals simp only [jk,jr,jv]
   all_goals omega
theorem zth (f:Fm) {i:Nat} (h:FmI f i) (c:UInt8):(fmSk f c).held.toNat≤f.held.toNat+1:=by
 have:=zgG (m:=f.mark) (n:=f.held.toNat) (.inr (by have:=h.h0;have:=h.h1;omega)) c
 show(((sZ f.mark f.held.toNat c).2.1:Nat):Int).toNat≤_
 rw [jJ];omega
theorem ru (o:List Evt) (e:Evt) (h:e.bytes=[]):zF (o++[e])=zF o:=by
 rw [yu,yZ,h];rfl
theorem zh9 {f:Fm} {i:Nat} (h:FmI f i):zF (wG f).out+(wG f).held.toNat≤zF f.out+f.held.toNat+2:=by
 have h2:=h.p0;unfold wG
 split
 · show zF (f.out++[evF _])+_≤_
   rw [ru _ _ rfl];simp only [xk];omega
 · split
   · show zF (f.out++[evF _])+_≤_
     rw [ru _ _ rfl];simp only [xk];omega
   · have hI:FmI { f with parts:=f.parts+1,pos:=6,out:=[],skip:=2} i:=⟨h.bs,h.ml,h.h0,h.h1,(show(0:Int)≤2∧(2:Int)≤2 by decide),by simp only;omega,h.fl,h.ff,h.lb,(fun e=>absurd (show(6:Int)=5 from e) (by decide)),jM _⟩
     have a:=zth _ hI 13;have b:=zth _ (zcx hI 13) 10
     show zF (f.out++[evP _])+(fmSk (fmSk { f with parts:=f.parts+1,pos:=6,out:=[],skip:=2} 13) 10).held.toNat≤_
     rw [ru _ _ rfl];simp only at a;omega
theorem zmg {f:Fm} {i:Nat} (h:FmI f i) (s:Str):zF (uJ f s).out+(uJ f s).held.toNat≤zF f.out+f.held.toNat+2:=by
 unfold uJ
 split
 · exact zh9 h
 · split
   · show zF (f.out++[evF _])+_≤_
     rw [ru _ _ rfl];simp only [xk];omega
   · split
     · show zF (f.out++[evF _])+_≤_
       rw [ru _ _ rfl];simp only [xk];omega
     · simp only;omega
theorem zh6 {f:Fm} {i:Nat} (h:FmI f i) (c:UInt8):zF (fmF f c).out+(fmF f c).held.toNat≤zF f.out+f.held.toNat+2:=by
 have hfail: ∀ (f:Fm) (c:Int),zF (xk f c).out=zF f.out∧(xk f c).held=f.held:=fun f c=>⟨ru _ _ rfl,rfl⟩;unfold fmF
 split
 · have hp:=zgG (m:=f.mark) (n:=f.held.toNat) (.inr (by have:=h.h0;have:=h.h1;omega)) c
   have hd:(uP f c).length≤(sZ f.mark f.held.toNat c).1.length:=by unfold uP;rw [jC];omega
   have e0:(fmSk f c).held.toNat=(sZ f.mark f.held.toNat c).2.1:=jJ _;unfold vI
   split
   · show zF (if f.pos=6∧uP f c≠[] then f.out++[evB (uP f c)] else f.out)+(fmSk f c).held.toNat≤_
     rw [e0]
     split
     · rw [yu,yZ];simp only [evB];omega
     · omega
   · show zF (if f.pos=6 then(if uP f c≠[] then f.out++[evB (uP f c),evO] else f.out++[evO]) else f.out)+(fmSk f c).held.toNat≤_
     rw [e0]
     have e1:zF [evB (uP f c),evO]=(uP f c).length:=by simp [zF,evB,evO]
     have e2:zF [evO]=0:=rfl
     split
     · split
       · rw [yu,e1];omega
       · rw [yu,e2];omega
     · omega
 · split
   · unfold wB
     repeat' split
     all_goals first
      |(simp only;omega)
      |(rw [(hfail _ _).1,(hfail _ _).2];omega)
      |(show zF (f.out++[evE])+_≤_;rw [ru _ _ rfl];simp only;omega)
   · split
     · split
       · rw [(hfail _ _).1,(hfail _ _).2];omega
       · simp only;omega
     · split
       · split
         · rw [(hfail _ _).1,(hfail _ _).2];simp only;omega
         · split
           · have hn:(lnOf f).b.length≤i:=by
              unfold lnOf
              cases e:f.ln with
              |none=>simp [ln0]
              |some l=>exact h.lb l e
             have hb:=zrK (lnOf f) c
             have hm:=zky h (show i≤i+1 by omega)
             exact zmg (i:=i+1) (f:= { f with ln:=some (lnF (lnOf f) c).1}) ⟨hm.bs,hm.ml,hm.h0,hm.h1,hm.s0,hm.p0,hm.fl,hm.ff,(fun l e=>by cases e;omega),(fun _ e=>by cases e),hm.on⟩ _
           · simp only;omega
       · omega
theorem zpj (f:Fm) (b:Str) {i:Nat} (h:i<b.length):Vr f (b.take (i+1))=fmF (Vr f (b.take i)) (b.getD i 0):=by
 rw [show b.getD i 0=b[i] by simp [h],jB h]
 unfold Vr;rw [List.foldl_append];rfl
theorem zh5: ∀ (b:Str) (f:Fm) (i:Nat),FmI f i→FmI (Vr f b) (i+b.length)
 |[],f,i,h=>h
 | c::r,f,i,h=>by
   have:=zh5 r (fmF f c) (i+1) (zsb h c)
   rw [jh,show i+(r.length+1)=i+1+r.length by omega]
   exact this
def fmN0 (f:Fm) (b:Str):Prop:=∃ n,FmI { f with out:=[]} n∧n+b.length≤400000
theorem zr8 (m:Str) (hd:Int) (bs:List Int) (p:Int) (fs:List Fld) (pa sk co:Int) (out:List Evt) (b:Str) (hneed:fmN0 ⟨m,hd,bs,p,none,fs,pa,sk,co,out⟩ b):Spc Tryz.prog 247 [.v (.one (.ptr 0 0)),.v (.one (.p (.list .byte b)))] [.abs (.fm ⟨m,hd,bs,p,none,fs,pa,sk,co,out⟩)] (.ret (.v (.one (.row 1)))) [.abs (.fm ((xh ⟨m,hd,bs,p,none,fs,pa,sk,co,out⟩ b))),.row .evt 34 ((yK (xh ⟨m,hd,bs,p,none,fs,pa,sk,co,out⟩ b).out))]:=by
 obtain⟨n,hI0,hnb⟩:=hneed;have hml:=hI0.ml;have hh1:=hI0.h1;have hh0:=hI0.h0;simp only at hml hh1 hh0
 have hh:hd.toNat≤1000:=by
  omega
 refine spH Tryz.func247 (by kernel_rfl) { cfgF with keep:=some [0,1,4,6,10,11,12]} [Qk,Qj,xJ,xI] (by kernel_rfl) ?_
 intro I X hI hX
 refine orcL ?_;go_invoke;refine orcS (by kernel_rfl) ?_
 simp only [zi,Nat.reduceAdd];unfold xh;simp only at hI0 ⊢
 refine lpH hI [Qk,Qj,xJ,xI] hX [0,10,11,12] (fun(g:Nat × Fm)=>match g with|(i,r)=>i≤b.length∧r=Vr (⟨m,hd,bs,p,none,fs,pa,sk,co,[]⟩:Fm) (b.take i)∧FmI r (n+i)∧zF r.out+r.held.toNat≤hd.toNat+2 * i) (fun(g:Nat × Fm)=>match g with|(i,r)=>⟨[(0,.v (.one (.ptr 0 0))),(10,.v (.one (.p (.list .byte b)))),(11,.v (.one (.p (.int .i64 ((I.len (α:=UInt8) b)))))),(12,.v (.one (.p (.int .i64 i))))],[.abs (.fm r)],25,none⟩) (fun(g:Nat × Fm)=>match g with|(i,r)=>b.length - i) (0,(⟨m,hd,bs,p,none,fs,pa,sk,co,[]⟩:Fm)) (by kernel_rfl) (by kernel_rfl) ?_ ?_
 · exact⟨jM _,rfl,hI0,by simp [zF]⟩
 rintro⟨i,⟨m2,hd2,bs2,p2,ln2,fs2,pa2,sk2,co2,out2⟩⟩ ⟨h1,h2,h3,h4⟩ A hA;simp only at hA h1 h2 h3 h4
 have hrn:i<b.length→fmN _:=fun h=>⟨n+i,by omega,h3⟩
 have hgo:i<b.length→_:=fun h=>hA (i+1,fmF ⟨m2,hd2,bs2,p2,ln2,fs2,pa2,sk2,co2,out2⟩ (b.getD i 0)) ⟨by simp only;omega,by simp only;rw [zpj _ _ h,← h2],by simp only;exact zsb h3 _,by simp only;have:=zh6 h3 (b.getD i 0);simp only at this;omega⟩ (by simp only;omega)
 have hend: ¬ i<b.length→_:=fun h=>h2.trans (by rw [jq (by omega)])
 rcases ln2 with _|l2
 · have h0:=h1
   refine orcL ?_;go_invoke;refine orcS (by kernel_rfl) ?_
   simp only [zi,Nat.reduceAdd];subst hI;simp only [nrmA,nrmB,nrlB,reduceCtorEq,HO.abs.injEq,Gh.fm.injEq]
   by_cases hi:i<b.length
   · have hg:=hgo hi
     have hn:=hrn hi
     (repeat' (first|refine ja ?_ ?_|intro _))<;>first|omega|exact jb|exact jc ‹False›|skip
     all_goals first|omega|exact hg|exact hn|contradiction|(have:=(b.getD i 0).toNat_lt;omega)|trace_state
   · have hg:=hend hi
     rw [← hg];have hon:=h3.on;simp only at hon
     (repeat' (first|refine ja ?_ ?_|intro _))<;>first|omega|exact jb|exact jc ‹False›|skip
     all_goals first|omega|rfl|contradiction|exact⟨by omega,by omega⟩|trace_state
 · have h0:=h1
   refine orcL ?_;go_invoke;refine orcS (by kernel_rfl) ?_
   simp only [zi,Nat.reduceAdd];subst hI;simp only [nrmA,nrmB,nrlB,reduceCtorEq,HO.abs.injEq,Gh.fm.injEq]
   by_cases hi:i<b.length
   · have hg:=hgo hi
     have hn:=hrn hi
     (repeat' (first|refine ja ?_ ?_|intro _))<;>first|omega|exact jb|exact jc ‹False›|skip
     all_goals first|omega|exact hg|exact hn|contradiction|(have:=(b.getD i 0).toNat_lt;omega)|trace_state
   · have hg:=hend hi
     rw [← hg];have hon:=h3.on;simp only at hon
     (repeat' (first|refine ja ?_ ?_|intro _))<;>first|omega|exact jb|exact jc ‹False›|skip
     all_goals first|omega|rfl|contradiction|exact⟨by omega,by omega⟩|trace_state
theorem zr7 (m:Str) (hd:Int) (bs:List Int) (p:Int) (ln:Ln) (fs:List Fld) (pa sk co:Int) (out:List Evt) (b:Str) (hneed:fmN0 ⟨m,hd,bs,p,some ln,fs,pa,sk,co,out⟩ b):Spc Tryz.prog 247 [.v (.one (.ptr 0 0)),.v (.one (.p (.list .byte b)))] [.abs (.fm ⟨m,hd,bs,p,some ln,fs,pa,sk,co,out⟩)] (.ret (.v (.one (.row 1)))) [.abs (.fm ((xh ⟨m,hd,bs,p,some ln,fs,pa,sk,co,out⟩ b))),.row .evt 34 ((yK (xh ⟨m,hd,bs,p,some ln,fs,pa,sk,co,out⟩ b).out))]:=by
 obtain⟨n,hI0,hnb⟩:=hneed;have hml:=hI0.ml;have hh1:=hI0.h1;have hh0:=hI0.h0;simp only at hml hh1 hh0
 have hh:hd.toNat≤1000:=by
  omega
 refine spH Tryz.func247 (by kernel_rfl) { cfgF with keep:=some [0,1,4,6,10,11,12]} [Qk,Qj,xJ,xI] (by kernel_rfl) ?_
 intro I X hI hX
 refine orcL ?_;go_invoke;refine orcS (by kernel_rfl) ?_
 simp only [zi,Nat.reduceAdd];unfold xh;simp only at hI0 ⊢
 refine lpH hI [Qk,Qj,xJ,xI] hX [0,10,11,12] (fun(g:Nat × Fm)=>match g with|(i,r)=>i≤b.length∧r=Vr (⟨m,hd,bs,p,some ln,fs,pa,sk,co,[]⟩:Fm) (b.take i)∧FmI r (n+i)∧zF r.out+r.held.toNat≤hd.toNat+2 * i) (fun(g:Nat × Fm)=>match g with|(i,r)=>⟨[(0,.v (.one (.ptr 0 0))),(10,.v (.one (.p (.list .byte b)))),(11,.v (.one (.p (.int .i64 ((I.len (α:=UInt8) b)))))),(12,.v (.one (.p (.int .i64 i))))],[.abs (.fm r)],25,none⟩) (fun(g:Nat × Fm)=>match g with|(i,r)=>b.length - i) (0,(⟨m,hd,bs,p,some ln,fs,pa,sk,co,[]⟩:Fm)) (by kernel_rfl) (by kernel_rfl) ?_ ?_
 · exact⟨jM _,rfl,hI0,by simp [zF]⟩
 rintro⟨i,⟨m2,hd2,bs2,p2,ln2,fs2,pa2,sk2,co2,out2⟩⟩ ⟨h1,h2,h3,h4⟩ A hA;simp only at hA h1 h2 h3 h4
 have hrn:i<b.length→fmN _:=fun h=>⟨n+i,by omega,h3⟩
 have hgo:i<b.length→_:=fun h=>hA (i+1,fmF ⟨m2,hd2,bs2,p2,ln2,fs2,pa2,sk2,co2,out2⟩ (b.getD i 0)) ⟨by simp only;omega,by simp only;rw [zpj _ _ h,← h2],by simp only;exact zsb h3 _,by simp only;have:=zh6 h3 (b.getD i 0);simp only at this;omega⟩ (by simp only;omega)
 have hend: ¬ i<b.length→_:=fun h=>h2.trans (by rw [jq (by omega)])
 rcases ln2 with _|l2
 · have h0:=h1
   refine orcL ?_;go_invoke;refine orcS (by kernel_rfl) ?_
   simp only [zi,Nat.reduceAdd];subst hI;simp only [nrmA,nrmB,nrlB,reduceCtorEq,HO.abs.injEq,Gh.fm.injEq]
   by_cases hi:i<b.length
   · have hg:=hgo hi
     have hn:=hrn hi
     (repeat' (first|refine ja ?_ ?_|intro _))<;>first|omega|exact jb|exact jc ‹False›|skip
     all_goals first|omega|exact hg|exact hn|contradiction|(have:=(b.getD i 0).toNat_lt;omega)|trace_state
   · have hg:=hend hi
     rw [← hg];have hon:=h3.on;simp only at hon
     (repeat' (first|refine ja ?_ ?_|intro _))<;>first|omega|exact jb|exact jc ‹False›|skip
     all_goals first|omega|rfl|contradiction|exact⟨by omega,by omega⟩|trace_state
 · have h0:=h1
   refine orcL ?_;go_invoke;refine orcS (by kernel_rfl) ?_
   simp only [zi,Nat.reduceAdd];subst hI;simp only [nrmA,nrmB,nrlB,reduceCtorEq,HO.abs.injEq,Gh.fm.injEq]
   by_cases hi:i<b.length
   · have hg:=hgo hi
     have hn:=hrn hi
     (repeat' (first|refine ja ?_ ?_|intro _))<;>first|omega|exact jb|exact jc ‹False›|skip
     all_goals first|omega|exact hg|exact hn|contradiction|(have:=(b.getD i 0).toNat_lt;omega)|trace_state
   · have hg:=hend hi
     rw [← hg];have hon:=h3.on;simp only at hon
     (repeat' (first|refine ja ?_ ?_|intro _))<;>first|omega|exact jb|exact jc ‹False›|skip
     all_goals first|omega|rfl|contradiction|exact⟨by omega,by omega⟩|trace_state
def Vy (I:Alg):KU
 |[.v (.one (.ptr 0 0)),.v (.one (.p (.list .byte b)))],[.abs (.fm f)]=>(fun(b:Str)=>(some (.one ⟨I.hid (fmN0 f b),(.ret (.v (.one (.row 1)))),[.abs (.fm (I.hid (xh f b))),.row .evt 34 (I.hid (yK (xh f b).out))]⟩):Option CT)) b
 |_,_=>none
theorem zgx:zx Tryz.prog 247 (Vy alg):=by
 intro args hp r h;unfold Vy at h;split at h<;>cases h
 rename_i b f;simp only [CT.Good,zh];intro hneed;obtain⟨m,hd,bs,p,ln,fs,pa,sk,co,out⟩:=f
 cases ln with
 |none=>exact zr8 m hd bs p fs pa sk co out b hneed
 |some ln=>exact zr7 m hd bs p ln fs pa sk co out b hneed
def za3:Know Tryz.prog:=⟨247,Vy,zgx⟩
def za2:Know Tryz.prog:=⟨247,fun I=>zu I (Vy I),zf zgx⟩
theorem zpn (m:Str) (hd:Int) (bs:List Int) (p:Int) (fs:List Fld) (pa sk co:Int) (out:List Evt):Spc Tryz.prog 248 [.v (.one (.ptr 0 0))] [.abs (.fm ⟨m,hd,bs,p,none,fs,pa,sk,co,out⟩)] (.ret (.v (.one (.p (.int .i64 ((sS ⟨m,hd,bs,p,none,fs,pa,sk,co,out⟩))))))) [.abs (.fm ⟨m,hd,bs,p,none,fs,pa,sk,co,out⟩)]:=by
 generalize hr:sS ⟨m,hd,bs,p,none,fs,pa,sk,co,out⟩=r;unfold sS at hr;simp only at hr
 refine spH Tryz.func248 (by kernel_rfl) { cfgF with keep:=some [0,2,6]} [] (by kernel_rfl) ?_
 intro I X hI hX
 refine orcL ?_;go_invoke;refine orcS (by kernel_rfl) ?_
 simp only [zi,Nat.reduceAdd];subst hI;simp only [nrmA,nrmB,nrlB,reduceCtorEq,HO.abs.injEq,Gh.fm.injEq]
 (repeat' (first|refine ja ?_ ?_|intro _))<;>first|omega|exact jb|exact jc ‹False›|skip
 all_goals first|omega|rfl|(subst hr;simp [*];done)|trace_state
theorem zpm (m:Str) (hd:Int) (bs:List Int) (p:Int) (ln:Ln) (fs:List Fld) (pa sk co:Int) (out:List Evt):Spc Tryz.prog 248 [.v (.one (.ptr 0 0))] [.abs (.fm ⟨m,hd,bs,p,some ln,fs,pa,sk,co,out⟩)] (.ret (.v (.one (.p (.int .i64 ((sS ⟨m,hd,bs,p,some ln,fs,pa,sk,co,out⟩))))))) [.abs (.fm ⟨m,hd,bs,p,some ln,fs,pa,sk,co,out⟩)]:=by
 generalize hr:sS ⟨m,hd,bs,p,some ln,fs,pa,sk,co,out⟩=r;unfold sS at hr;simp only at hr
 refine spH Tryz.func248 (by kernel_rfl) { cfgF with keep:=some [0,2,6]} [] (by kernel_rfl) ?_
 intro I X hI hX
 refine orcL ?_;go_invoke;refine orcS (by kernel_rfl) ?_
 simp only [zi,Nat.reduceAdd];subst hI;simp only [nrmA,nrmB,nrlB,reduceCtorEq,HO.abs.injEq,Gh.fm.injEq]
 (repeat' (first|refine ja ?_ ?_|intro _))<;>first|omega|exact jb|exact jc ‹False›|skip
 all_goals first|omega|rfl|(subst hr;simp [*];done)|trace_state
def Xd (I:Alg):KU
 |[.v (.one (.ptr 0 0))],[.abs (.fm f)]=>some (.one ⟨I.hid (True),(.ret (.v (.one (.p (.int .i64 (I.hid (sS f))))))),[.abs (.fm f)]⟩)
 |_,_=>none
theorem zcA:zx Tryz.prog 248 (Xd alg):=by
 intro args hp r h;unfold Xd at h;split at h<;>cases h
 rename_i f;simp only [CT.Good,zh];intro _;obtain⟨m,hd,bs,p,ln,fs,pa,sk,co,out⟩:=f
 cases ln with
 |none=>exact zpn m hd bs p fs pa sk co out
 |some ln=>exact zpm m hd bs p ln fs pa sk co out
def UL:Know Tryz.prog:=⟨248,Xd,zcA⟩
def UK:Know Tryz.prog:=⟨248,fun I=>zu I (Xd I),zf zcA⟩
def Vw (I:Alg):KU
 |[.v (.one (.p (.str s)))],[]=>(fun(s:Str)=>(some (.one ⟨I.hid (s.length≤140737488355328∧WX s=true),(.ret (.tup [.one (.ptr 0 0),.one (.p (.int .i64 0))])),[.abs (.fm (I.hid (fm0 s)))]⟩):Option CT)) s
 |_,_=>none
theorem zgs:zx Tryz.prog 246 (Vw alg):=by
 intro args hp r h;unfold Vw at h;split at h<;>cases h
 rename_i s;simp only [CT.Good,zh];intro hneed;obtain⟨hs,hm⟩:=hneed
 have hl:s.length≤70:=by unfold WX at hm;simp at hm;omega
 generalize hr:fm0 s=r;unfold fm0 fmSk at hr;simp only [jJ] at hr
 refine spH Tryz.func246 (by kernel_rfl) { cfgF with keep:=some [0,2,3,4]} [UQ,UO,zsY,zsX,zkM,zkL] (by kernel_rfl) ?_
 intro I X hI hX
 refine orcL ?_;go_invoke;refine orcS (by kernel_rfl) ?_
 simp only [zi,Nat.reduceAdd];unfold za1 at hr;subst hI;simp only [nrmA,nrmB,nrlB,reduceCtorEq,HO.abs.injEq,Gh.fm.injEq]
 have hM:([13,10,45,45]++s).length=s.length+4:=by simp
 generalize([13,10,45,45]++s:Str)=M at *;have h1:=VD M 0 13
 (repeat' (first|refine ja ?_ ?_|intro _))<;>first|omega|exact jb|exact jc ‹False›|skip
 all_goals first
  |omega
  |exact .inr (by omega)
  |exact h1
  |exact Int.natCast_nonneg _
  |exact absurd (hm.symm.trans ‹WX s=false›) (by decide)
  |(subst hr;rfl)
  |(simp only [jh,ji];omega)
def za0:Know Tryz.prog:=⟨246,Vw,zgs⟩
def zaZ:Know Tryz.prog:=⟨246,fun I=>zu I (Vw I),zf zgs⟩
theorem zuL (s:Str) (hneed:s.length≤140737488355328∧WX s=false):Spc Tryz.prog 246 [.v (.one (.p (.str s)))] [] (.ret (.tup [.one (.p (.val (.pointer none))),.one (.p (.int .i64 5))])) []:=by
 obtain⟨hs,hm⟩:=hneed
 refine spH Tryz.func246 (by kernel_rfl) { cfgF with keep:=some [0,2,3,4]} [UQ,UO,zsY,zsX,zkM,zkL,za0,zaZ] (by kernel_rfl) ?_
 intro I X hI hX
 refine orcL ?_;go_invoke;refine orcS (by kernel_rfl) ?_
 simp only [zi,Nat.reduceAdd];subst hI;simp only [nrmA,nrmB,nrlB,reduceCtorEq]
 exact⟨hs,fun _=>trivial,by simp [hm]⟩
end Go.Proofs.YtkjepecoodjbmaaGreatDoor
namespace Go.Proofs.YtkjepecoodjbmaaGreatDoor
open Go Go.Sep Go.Ab
inductive GR:List Evt→Prop
 |nil:GR []
 |other {l:List Evt} {e:Evt} (h:GR l) (h2:e.kind≠2) (h5:e.kind=5→e.part.bytes=[]):GR (l++[e])
 |body {l:List Evt} {x e:Evt} (h:GR (l++[x])) (hx:x.kind=5∨x.kind=2) (h2:e.kind=2) (hb:e.bytes≠[]):GR (l++[x]++[e])
inductive GJ:List Evt→Prop
 |nil:GJ []
 |other {l:List Evt} {e:Evt} (h:GJ l) (h2:e.kind≠2) (h5:e.kind=5→e.part.bytes=[]):GJ (l++[e])
 |body {l:List Evt} {x e:Evt} (h:GJ (l++[x])) (hx:x.kind=5) (h2:e.kind=2) (hb:e.bytes≠[]):GJ (l++[x]++[e])
theorem zuv {l:List Evt} {x:Evt} (h:GR (l++[x])): ∃ z y,yK (l++[x])=z++[y]∧y.kind=x.kind∧(x.kind≠2→y=x):=by
 rw [Y2]
 rcases List.eq_nil_or_concat (yK l) with hn|⟨z,y,hz⟩
 · rw [hn,Yi];exact⟨[],x,rfl,rfl,fun _=>rfl⟩
 · rw [hz,List.concat_eq_append,xu]
   split
   · rename_i h;exact⟨z,_,rfl,h.1.symm,fun k=>absurd h.1 k⟩
   · exact⟨z++[y],x,rfl,rfl,fun _=>rfl⟩
theorem zux {z:List Evt} {y:Evt} (h:GJ (z++[y])) (k:y.kind=2): ∃ l x,z=l++[x]∧GJ (l++[x])∧x.kind=5∧y.bytes≠[]:=by
 generalize hw:z++[y]=w at h
 cases h with
 |nil=>simp at hw
 | other h h2 h5=>
   have:=List.append_inj' hw rfl;have e:=List.singleton_inj.1 this.2;exact absurd (e▸k) h2
 | body h hx h2 hb=>
   have:=List.append_inj' hw rfl;have e:=List.singleton_inj.1 this.2
   exact⟨_,_,this.1,h,hx,by rw [e];exact hb⟩
theorem zw7 {l:List Evt} (h:GR l):GJ (yK l):=by
 induction h with
 |nil=>exact .nil
 | @other l e h h2 h5 ih=>
   rw [Y2]
   rcases List.eq_nil_or_concat (yK l) with hn|⟨z,y,hz⟩
   · rw [hn,Yi];exact GJ.other (l:=[]) .nil h2 h5
   · rw [hz,List.concat_eq_append] at ih ⊢
     rw [xu,if_neg (fun k=>h2 k.1)];exact .other ih h2 h5
 | @body l x e h hx h2 hb ih=>
   obtain⟨z,y,hz,hk,hy⟩:=zuv h;rw [Y2,hz,xu];rw [hz] at ih
   by_cases k:y.kind=2
   · rw [if_pos ⟨h2,k⟩]
     obtain⟨l',x',rfl,g1,g2,g3⟩:=zux ih k;refine .body g1 g2 rfl ?_;simp only [evB];intro h;exact g3 (List.append_eq_nil_iff.1 h).1
   · rw [if_neg (fun h=>k h.2)]
     exact .body ih (by rcases hx with hx|hx;rw [hk];exact hx;exact absurd (hk.trans hx) k) h2 hb
def GI (l:List Evt) (i:Nat) (d:Evt):Prop:=((l.getD i d).kind=2→(l.getD i d).bytes≠[]∧∃ j,i=j+1∧(l.getD j d).kind=5)∧((l.getD i d).kind=5→(l.getD i d).part.bytes=[])
theorem zfT {a b:List Evt} {i:Nat} (h:i<a.length) (d:Evt):(a++b).getD i d=a.getD i d:=by
 rw [jH,jy h,← jH]
theorem zw8 {l:List Evt} (h:GJ l) (d:Evt): ∀ i,i<l.length→GI l i d:=by
 induction h with
 |nil=>intro i hi;simp at hi
 | @other l e h h2 h5 ih=>
   intro i hi;rw [jk,jr] at hi
   by_cases k:i<l.length
   · obtain⟨a,b⟩:=ih i k
     unfold GI;rw [zfT k];refine⟨fun q=> ?_,b⟩;obtain⟨a1,j,rfl,a2⟩:=a q
     exact⟨a1,j,rfl,by rw [zfT (by omega)];exact a2⟩
   · have e1:(l++[e]).getD i d=e:=by rw [show i=l.length by omega];simp
     unfold GI;rw [e1];exact⟨fun q=>absurd q h2,h5⟩
 | @body l x e h hx h2 hb ih=>
   intro i hi;rw [jk,jr] at hi
   by_cases k:i<(l++[x]).length
   · obtain⟨a,b⟩:=ih i k
     unfold GI;rw [zfT k];refine⟨fun q=> ?_,b⟩;obtain⟨a1,j,rfl,a2⟩:=a q
     exact⟨a1,j,rfl,by rw [zfT (by omega)];exact a2⟩
   · have hl:(l++[x]).length=l.length+1:=by simp
     have hi2:i=l.length+1:=by omega
     subst hi2
     have e1:(l++[x]++[e]).getD (l.length+1) d=e:=by rw [← hl];simp
     have e2:(l++[x]++[e]).getD l.length d=x:=by rw [zfT (by omega)];simp
     unfold GI;rw [e1]
     exact⟨fun _=>⟨hb,l.length,rfl,by rw [e2];exact hx⟩,fun q=>absurd (h2.symm.trans q) (by decide)⟩
def GM (f:Fm):Prop:=GR f.out∧(f.pos=6→∃ l x,f.out=l++[x]∧(x.kind=5∨x.kind=2))
theorem zo1 {f:Fm} (h:GR f.out) {e:Evt} (h2:e.kind≠2) (h5:e.kind=5→e.part.bytes=[]):GR (f.out++[e]):=.other h h2 h5
theorem XJ {f:Fm} (h:GM f) (c:Int):GM (xk f c):=⟨zo1 h.1 (show(4:Int)≠2 by decide) (fun e=>absurd (show(4:Int)=5 from e) (by decide)),fun e=>absurd (show(8:Int)=6 from e) (by decide)⟩
theorem zrV {f:Fm} (h:GM f):GM (wG f):=by
 unfold wG
 split
 · exact XJ h _
 · split
   · exact XJ h _
   · exact⟨zo1 h.1 (show(5:Int)≠2 by decide) (fun _=>zhH f.fields),fun _=>⟨_,_,rfl,.inl rfl⟩⟩
theorem zuw {f:Fm} (h:GM f) (s:Str):GM (uJ f s):=by
 unfold uJ
 split
 · exact zrV h
 · split
   · exact XJ h _
   · split
     · exact XJ h _
     · exact h
theorem gm_f {f:Fm} (h:GM f) (c:UInt8):GM (fmF f c):=by
 have hno: ∀ {n:Int},n≠6→n=6→∃ l x,f.out=l++[x]∧(x.kind=5∨x.kind=2):=fun a b=>absurd b a;unfold fmF
 split
 · unfold vI
   split
   · show GR (if f.pos=6∧uP f c≠[] then f.out++[evB (uP f c)] else f.out)∧(f.pos=6→∃ l x,(if f.pos=6∧uP f c≠[] then f.out++[evB (uP f c)] else f.out)=l++[x]∧(x.kind=5∨x.kind=2))
     split
     · rename_i k
       obtain⟨l,x,e,hx⟩:=h.2 k.1;refine⟨?_,fun _=>⟨f.out,_,rfl,.inr rfl⟩⟩;have:=h.1;rw [e] at this ⊢;exact .body this hx rfl k.2
     · exact h
   · show GR (if f.pos=6 then(if uP f c≠[] then f.out++[evB (uP f c),evO] else f.out++[evO]) else f.out)∧((1:Int)=6→_)
     refine⟨?_,fun e=>absurd e (by decide)⟩
     split
     · rename_i k
       obtain⟨l,x,e,hx⟩:=h.2 k
       split
       · rename_i k2
         rw [show f.out++[evB (uP f c),evO]=f.out++[evB (uP f c)]++[evO] by simp]
         refine .other ?_ (by decide) (fun q=>absurd (show(6:Int)=5 from q) (by decide))
         have:=h.1;rw [e] at this ⊢;exact .body this hx rfl k2
       · exact .other h.1 (by decide) (fun q=>absurd (show(6:Int)=5 from q) (by decide))
     · exact h.1
 · split
   · unfold wB
     split
     · exact⟨h.1,fun e=>absurd (show(2:Int)=6 from e) (by decide)⟩
     · split
       · exact⟨zo1 h.1 (show(3:Int)≠2 by decide) (fun e=>absurd (show(3:Int)=5 from e) (by decide)),fun e=>absurd (show(7:Int)=6 from e) (by decide)⟩
       · split
         · exact⟨h.1,fun e=>absurd (show(3:Int)=6 from e) (by decide)⟩
         · split
           · exact⟨h.1,fun e=>absurd (show(4:Int)=6 from e) (by decide)⟩
           · exact XJ h 5
   · split
     · split
       · exact XJ h 2
       · exact⟨h.1,fun e=>absurd (show(5:Int)=6 from e) (by decide)⟩
     · split
       · have hk:GM { f with ln:=some (lnF (lnOf f) c).1}:=h
         split
         · exact XJ hk _
         · split
           · exact zuw hk _
           · exact hk
       · exact h
theorem zta: ∀ (b:Str) (f:Fm),GM f→GM (Vr f b)
 |[],f,h=>h
 |c::r,f,h=>zta r (fmF f c) (gm_f h c)
theorem zn3 (s b:Str) (d:Evt): ∀ i,i<(yK (xh (fm0 s) b).out).length→GI (yK (xh (fm0 s) b).out) i d:=
 zw8 (zw7 (zta b { fm0 s with out:=[]} ⟨.nil,fun e=>absurd (show(0:Int)=6 from e) (by decide)⟩).1) d
theorem zuO {s:Str} (h:s.length≤70):FmI { fm0 s with out:=[]} 0:=by
 have h0:FmI ⟨za1 s,0,Si (za1 s),0,none,[],0,0,0,[]⟩ 0:=
  ⟨rfl,by unfold za1;simp;omega,Int.le_refl _,by unfold za1;simp;omega,⟨Int.le_refl _,(show(0:Int)≤2 by decide)⟩,⟨Int.le_refl _,(show(0:Int)≤12 by decide)⟩,jM _,(fun x hx=>by cases hx),(fun l e=>by cases e),(fun e=>absurd (show(0:Int)=5 from e) (by decide)),jM _⟩
 exact zcx (zcx h0 13) 10
theorem zfd (l:List Evt) (d:Evt) {i:Nat} (h:i<l.length):(l.take (i+1)).foldl prtS []=prtS ((l.take i).foldl prtS []) (l.getD i d):=by
 rw [jB h,List.foldl_append]
 simp [h]
theorem zn9 {l:List Evt} {d:Evt} {i:Nat} (h:i<l.length) (hg: ∀ j,j<l.length→GI l j d) (k:(l.getD i d).kind=2): ∃ z p,(l.take i).foldl prtS []=z++[p]∧p.bytes=[]∧(l.getD i d).bytes≠[]:=by
 obtain⟨hb,j,rfl,hj⟩:=(hg i h).1 k
 refine⟨(l.take j).foldl prtS [],(l.getD j d).part,?_,(hg j (by omega)).2 hj,hb⟩
 rw [zfd l d (show j<l.length by omega),prtS,if_pos hj]
theorem zrv (l:List Evt): ∀ o:List Prt,(l.foldl prtS o).length≤o.length+l.length:=by
 induction l with
 |nil=>intro o;simp
 | cons e r ih=>
   intro o;have h:=ih (prtS o e)
   have h2 :(prtS o e).length≤o.length+1:=by
    unfold prtS
    split
    · simp
    · split
      · split
        · rename_i p hp
          simp only [jk,List.length_dropLast,jr];omega
        · omega
      · omega
   rw [List.foldl_cons,jh];omega
theorem zgo: ∀ (b:Str) (f:Fm) (i:Nat),FmI f i→zF (Vr f b).out+(Vr f b).held.toNat≤zF f.out+f.held.toNat+2 * b.length
 |[],f,i,h=>by simp [Vr]
 | c::r,f,i,h=>by
   have h1:=zgo r (fmF f c) (i+1) (zsb h c);have h2:=zh6 h c;rw [jh]
   show zF (Vr (fmF f c) r).out+(Vr (fmF f c) r).held.toNat≤_
   omega
theorem zgw {s b:Str} (h:s.length≤70):(yK (xh (fm0 s) b).out).length≤4 * b.length∧zF (yK (xh (fm0 s) b).out)≤1000+2 * b.length:=by
 have hI:=zuO h;have h1:(xh (fm0 s) b).out.length≤4 * (0+b.length):=(zh5 b _ 0 hI).on;have h2:zF (xh (fm0 s) b).out+(xh (fm0 s) b).held.toNat≤0+(fm0 s).held.toNat+2 * b.length:=zgo b _ 0 hI;have h3:=zaL (xh (fm0 s) b).out;have h4:=zaK (xh (fm0 s) b).out;have h5:(fm0 s).held<(fm0 s).mark.length:=hI.h1;have h6:(fm0 s).mark.length≤1000:=hI.ml;have h7:0≤(fm0 s).held:=hI.h0;omega
end Go.Proofs.YtkjepecoodjbmaaGreatDoor
namespace Go.Proofs.YtkjepecoodjbmaaGreatDoor
open Go Go.Sep Go.Ab
set_option maxRecDepth 100000
theorem zuT (s b:Str) (hneed:(s.length≤1000000∧b.length≤300000)∧WX s=true):Spc Tryz.prog 216 [.v (.one (.p (.str s))),.v (.one (.p (.list .byte b)))] [] (.ret (.tup [.one (.p (.list .prt ((Z8 s b).1))),.one (.p (.int .i64 ((Z8 s b).2)))])) []:=by
 obtain⟨⟨hs,hb⟩,hm⟩:=hneed
 have hl:s.length≤70:=by unfold WX at hm;simp at hm;omega
 have hI0:=zuO hl;have hg:=zn3 s b ⟨0,⟨[],[],0,[],0⟩,[],⟨[],[],[],[]⟩,0⟩;have hle:=zgw (b:=b) hl
 have hN:fmN0 (fm0 s) b:=⟨0,hI0,by omega⟩
 generalize hr:Z8 s b=r;unfold Z8 at hr
 rw [hm,if_neg (by decide)] at hr
 refine spH Tryz.func216 (by kernel_rfl) { cfgF with rl:=[0],nr:=[8],keep:=some [0,1,4,5,6,7,8,10,11,12,23,24,25,30]} [za3,za2,UL,UK,za0,zaZ] (by kernel_rfl) ?_
 intro I X hI hX
 refine orcL ?_;go_invoke;refine orcS (by kernel_rfl) ?_
 simp only [zi,Nat.reduceAdd];generalize fm0 s=F0 at *;refine⟨?_,fun c=> ?_,fun _=>⟨?_,?_⟩⟩
 · subst hI;exact⟨by omega,hm⟩
 · subst hI;exact absurd c (by decide)
 · subst hI;exact hN
 rw [show I.hid F0=F0 by subst hI;rfl]
 rw [show I.hid (xh F0 b)=xh F0 b by subst hI;rfl]
 generalize xh F0 b=F at *
 rw [show I.hid (yK F.out)=yK F.out by subst hI;rfl]
 generalize yK F.out=L at *
 refine lpH hI [za3,za2,UL,UK,za0,zaZ] hX [6,8,23,24,25] (fun(g:Nat × List Prt)=>match g with|(i,o)=>i≤L.length∧o=(L.take i).foldl prtS []) (fun(g:Nat × List Prt)=>match g with|(i,o)=>⟨[(6,.v (.one (.ptr 0 0))),(8,.v (.one (.row 1))),(23,.v (.one (.row 2))),(24,.v (.one (.p (.int .i64 ((I.len (α:=Evt) L)))))),(25,.v (.one (.p (.int .i64 i))))],[.abs (.fm F),.row .prt 32 o,.row .evt 34 L],62,none⟩) (fun(g:Nat × List Prt)=>match g with|(i,o)=>L.length - i) (0,[]) (by kernel_rfl) (by kernel_rfl) ?_ ?_
 · exact⟨jM _,rfl⟩
 rintro⟨i,o⟩ ⟨h1,h2⟩ A hA;simp only at hA h1 h2
 refine orcL ?_;go_invoke;refine orcS (by kernel_rfl) ?_
 simp only [zi,Nat.reduceAdd];subst hI;simp only [nrmA,nrmB,nrlB,reduceCtorEq];have hlo:=zrv (L.take i) [];rw [← h2,jv,ji] at hlo;have hb2:i<L.length→_→_:=fun h k=>zn9 h hg k;have hs2:i<L.length→_:=fun h=>zfd L ⟨0,⟨[],[],0,[],0⟩,[],⟨[],[],[],[]⟩,0⟩ h
 have hsum:i<L.length→(L.getD i ⟨0,⟨[],[],0,[],0⟩,[],⟨[],[],[],[]⟩,0⟩).bytes.length≤zF L:=fun h=>by
  refine VH ?_
  rw [show L.getD i ⟨0,⟨[],[],0,[],0⟩,[],⟨[],[],[],[]⟩,0⟩=L[i] by simp [h]]
  exact List.getElem_mem h
 rw [← h2] at hb2 hs2
 have hgo:i<L.length→_:=fun h=>hA (i+1,prtS o (L.getD i ⟨0,⟨[],[],0,[],0⟩,[],⟨[],[],[],[]⟩,0⟩)) ⟨by simp only;omega,by simp only;rw [hs2 h]⟩ (by simp only;omega)
 have hend: ¬ i<L.length→L.foldl prtS []=o:=fun h=>by rw [h2,jq (by omega)]
 clear hg hs2 hA;generalize L.getD i ⟨0,⟨[],[],0,[],0⟩,[],⟨[],[],[],[]⟩,0⟩=x at *;simp only [Int.natCast_add,Int.natCast_one] at hgo;refine⟨fun c=> ?_,fun c=> ?_⟩
 · have hgo:=hgo (by omega)
   have hb2:=hb2 (by omega)
   have hsum:=hsum (by omega)
   by_cases k5:x.kind=5
   · rw [prtS,if_pos k5] at hgo
     (repeat' (first|refine ja ?_ ?_|intro _))<;>first|omega|exact jb|exact jc ‹False›|skip
     all_goals first
      |omega
      |(simp only [jr];omega)
      |exact hgo
      |exact absurd k5 ‹_›
   · by_cases k2:x.kind=2
     · obtain⟨z,p,hz,hp,hxb⟩:=hb2 k2
       have hxb:0<x.bytes.length:=by cases hq:x.bytes with|nil=>exact absurd hq hxb|cons _ _=>simp
       subst hz
       rw [show prtS (z++[p]) x=z++[⟨p.name,p.file,p.type,x.bytes⟩] by unfold prtS;rw [if_neg k5,if_pos k2];simp [hp]] at hgo
       have e1:(((z++[p]).length:Int) - 1).toNat=z.length:=by rw [jk,jr];omega
       have e2:(z++[p]).getD z.length ⟨[],[],[],[]⟩=p:=by simp
       have e3: ∀ q,(z++[p]).set z.length q=z++[q]:=fun q=>by simp
       simp only [e1,e2,e3,hp];simp only [jk,jr,ji];clear e1 e2 e3;rw [jk,jr] at hlo
       (repeat' (first|refine ja ?_ ?_|intro _))<;>first|omega|exact jb|exact jc ‹False›|skip
       all_goals first
        |omega
        |exact hgo
        |exact absurd k2 ‹_›
        |exact absurd ‹x.kind=5› k5
     · rw [prtS,if_neg k5,if_neg k2] at hgo
       (repeat' (first|refine ja ?_ ?_|intro _))<;>first|omega|exact jb|exact jc ‹False›|skip
       all_goals first
        |omega
        |exact hgo
        |exact absurd ‹x.kind=5› k5
        |exact absurd ‹x.kind=2› k2
 · have he:=hend (by omega)
   rw [he] at hr;subst hr
   (repeat' (first|refine ja ?_ ?_|intro _))<;>first|omega|exact jb|exact jc ‹False›|skip
   all_goals first
    |omega
    |(rw [if_pos ‹¬ sS F=0›];done)
    |(rw [if_neg (fun h=>h ‹sS F=0›)];done)
end Go.Proofs.YtkjepecoodjbmaaGreatDoor
namespace Go.Proofs.YtkjepecoodjbmaaGreatDoor
open Go Go.Sep Go.Ab
set_option maxRecDepth 100000
theorem zuK (s:Str) (hneed:s.length≤140737488355328∧WX s=false):Spc Tryz.prog 246 [.v (.one (.p (.str s)))] [] (.ret (.tup [.one (.p (.val (.pointer none))),.one (.p (.int .i64 5))])) []:=zuL s hneed
def Vu (I:Alg):KU
 |[.v (.one (.p (.str s)))],[]=>(fun(s:Str)=>(some (.one ⟨I.hid (s.length≤140737488355328∧WX s=false),(.ret (.tup [.one (.p (.val (.pointer none))),.one (.p (.int .i64 5))])),[]⟩):Option CT)) s
 |_,_=>none
theorem zgr:zx Tryz.prog 246 (Vu alg):=by
 intro args hp r h;unfold Vu at h
 split at h
 · cases h;exact fun hn=>zuK _ hn
 · cases h
def zpl:Know Tryz.prog:=⟨246,Vu,zgr⟩
def zpk:Know Tryz.prog:=⟨246,fun I=>zu I (Vu I),zf zgr⟩
theorem zr9 (b:Str) (hneed:False):Spc Tryz.prog 247 [.v (.one (.p (.val (.pointer none)))),.v (.one (.p (.list .byte b)))] [] (.ret (.v (.one (.row 0)))) [.row .evt 34 (([]:List Evt))]:=hneed.elim
def Xb (I:Alg):KU
 |[.v (.one (.p (.val (.pointer none)))),.v (.one (.p (.list .byte b)))],[]=>(fun(b:Str)=>(some (.one ⟨I.hid (False),(.ret (.v (.one (.row 0)))),[.row .evt 34 (I.hid ([]:List Evt))]⟩):Option CT)) b
 |_,_=>none
theorem zcy:zx Tryz.prog 247 (Xb alg):=by
 intro args hp r h;unfold Xb at h
 split at h
 · cases h;exact fun hn=>zr9 _ hn
 · cases h
def zmi:Know Tryz.prog:=⟨247,Xb,zcy⟩
def zmh:Know Tryz.prog:=⟨247,fun I=>zu I (Xb I),zf zcy⟩
theorem zuS (s b:Str) (hneed:(s.length≤1000000∧b.length≤300000)∧WX s=false):Spc Tryz.prog 216 [.v (.one (.p (.str s))),.v (.one (.p (.list .byte b)))] [] (.ret (.tup [.one (.p (.list .prt ((Z8 s b).1))),.one (.p (.int .i64 ((Z8 s b).2)))])) []:=by
 obtain⟨⟨hs,hb⟩,hm⟩:=hneed;generalize hr:Z8 s b=r;unfold Z8 at hr;rw [if_pos hm] at hr;subst hr
 refine spH Tryz.func216 (by kernel_rfl) { cfgF with rl:=[0],nr:=[8],keep:=some [0,1,4,5,6,7,8,10,11,12,23,24,25,30]} [za3,za2,zmi,zmh,UL,UK,zpl,zpk] (by kernel_rfl) ?_
 intro I X hI hX
 refine orcL ?_;go_invoke;refine orcS (by kernel_rfl) ?_
 simp only [zi,Nat.reduceAdd];subst hI;simp only [nrmA,nrmB,nrlB,reduceCtorEq]
 exact⟨⟨by omega,hm⟩,fun _=>trivial,by decide⟩
def Qn (I:Alg):KU
 |[.v (.one (.p (.str s))),.v (.one (.p (.list .byte b)))],[]=>(fun(s b:Str)=>(some (.one ⟨I.hid (s.length≤1000000∧b.length≤300000),(.ret (.tup [.one (.p (.list .prt (I.hid ((Z8 s b).1)))),.one (.p (.int .i64 (I.hid ((Z8 s b).2))))])),[]⟩):Option CT)) s b
 |_,_=>none
theorem zkH:zx Tryz.prog 216 (Qn alg):=by
 intro args hp r h;unfold Qn at h;split at h<;>cases h
 rename_i s b;simp only [CT.Good,zh];intro hneed
 cases hm:WX s with
 |true=>exact zuT s b ⟨hneed,hm⟩
 |false=>exact zuS s b ⟨hneed,hm⟩
def zsk:Know Tryz.prog:=⟨216,Qn,zkH⟩
def zsj:Know Tryz.prog:=⟨216,fun I=>zu I (Qn I),zf zkH⟩
end Go.Proofs.YtkjepecoodjbmaaGreatDoor
namespace Go.Proofs.YtkjepecoodjbmaaGreatDoor
open Go Go.Sep Go.Ab
def k5 (e:Evt):Bool:=decide (e.kind=5)
theorem zq0 (s:Str):(zhr s).length≤40:=by
 unfold zhr
 split
 · decide
 · rw [jv];omega
theorem zlO (l:List Fld):(Zj l).1.file.length≤40:=by
 unfold Zj zry zt2
 repeat' split
 all_goals first|exact zq0 _|(simp [prt0];done)|decide
def P5 (f:Fm):Prop:=((f.out.filter k5).length:Int)≤f.parts∧∀ e ∈ f.out,e.kind=5→e.part.file.length≤40
theorem Ti {f:Fm} (h:P5 f) {m:Str} {hd p co sk:Int} {bs:List Int} {ln:Option Ln} {fs:List Fld}:P5 ⟨m,hd,bs,p,ln,fs,f.parts,sk,co,f.out⟩:=h
theorem zb5 {f:Fm} (h:P5 f) (e:Evt) (he:e.kind≠5) {m:Str} {hd p co sk:Int} {bs:List Int} {ln:Option Ln} {fs:List Fld}:P5 ⟨m,hd,bs,p,ln,fs,f.parts,sk,co,f.out++[e]⟩:=by
 refine⟨?_,fun x hx k=> ?_⟩
 · show(((f.out++[e]).filter k5).length:Int)≤f.parts
   rw [List.filter_append]
   have:[e].filter k5=[]:=by simp [k5,he]
   rw [this,List.append_nil];exact h.1
 · rcases List.mem_append.1 hx with hx|hx
   · exact h.2 x hx k
   · rw [List.mem_singleton.1 hx] at k;exact absurd k he
theorem XC {f:Fm} (h:P5 f) (c:Int):P5 (xk f c):=zb5 h (evF c) (show(4:Int)≠5 by decide)
theorem zrD {f:Fm} (h:P5 f):P5 (wG f):=by
 unfold wG
 split
 · exact XC h _
 · split
   · exact XC h _
   · refine⟨?_,fun x hx k=> ?_⟩
     · show(((f.out++[evP (Zj f.fields).1]).filter k5).length:Int)≤f.parts+1
       rw [List.filter_append,jk];have:[evP (Zj f.fields).1].filter k5=[evP (Zj f.fields).1]:=rfl;rw [this,jr];have:=h.1;omega
     · rcases List.mem_append.1 (show x ∈ f.out++[evP (Zj f.fields).1] from hx) with hx|hx
       · exact h.2 x hx k
       · rw [List.mem_singleton.1 hx];exact zlO _
theorem zt7 {f:Fm} (h:P5 f) (s:Str):P5 (uJ f s):=by
 unfold uJ
 split
 · exact zrD h
 · split
   · exact XC h _
   · split
     · exact XC h _
     · exact Ti h
theorem p5_f {f:Fm} (h:P5 f) (c:UInt8):P5 (fmF f c):=by
 have hB:evB (uP f c)=⟨2,hd0,uP f c,prt0,0⟩:=rfl;unfold fmF
 split
 · unfold vI fmSk
   split
   · dsimp only
     split
     · exact zb5 h _ (show(2:Int)≠5 by decide)
     · exact Ti h
   · dsimp only
     split
     · split
       · have:=zb5 (zb5 h (evB (uP f c)) (show(2:Int)≠5 by decide) (m:=f.mark) (hd:=f.held) (p:=f.pos) (co:=f.code) (sk:=f.skip) (bs:=f.bs) (ln:=f.ln) (fs:=f.fields)) evO (show(6:Int)≠5 by decide) (m:=f.mark) (hd:=((sZ f.mark f.held.toNat c).2.1:Int)) (p:=1) (co:=f.code) (sk:=0) (bs:=f.bs) (ln:=f.ln) (fs:=f.fields)
         simpa using this
       · exact zb5 h _ (show(6:Int)≠5 by decide)
     · exact Ti h
 · split
   · unfold wB
     repeat' split
     all_goals first
      |exact Ti h
      |exact zb5 h _ (show(3:Int)≠5 by decide)
      |exact XC h _
   · split
     · split
       · exact XC h _
       · exact Ti h
     · split
       · split
         · exact XC (Ti h) _
         · split
           · exact zt7 (Ti h) _
           · exact Ti h
       · exact h
theorem zsU: ∀ (b:Str) {f:Fm},P5 f→P5 (Vr f b)
 |[],_,h=>h
 |c::b,_,h=>zsU b (p5_f h c)
theorem zrM (o:List Evt) (e:Evt):(uy o e).filter k5=o.filter k5++[e].filter k5:=by
 rcases List.eq_nil_or_concat o with rfl|⟨z,x,rfl⟩
 · rfl
 · rw [List.concat_eq_append,xu]
   split
   · rename_i h
     simp [k5,h.1,h.2,evB]
   · rw [List.filter_append]
theorem zke: ∀ (l o:List Evt),(l.foldl uy o).filter k5=o.filter k5++l.filter k5
 |[],o=>by simp
 |e::l,o=>by rw [List.foldl_cons,zke l,zrM,jo,← List.filter_append];rfl
theorem zrO (l:List Evt):(yK l).filter k5=l.filter k5:=zke l []
def prtZ (l:List Prt):Nat:=(l.map fun p=>p.bytes.length).sum
theorem zjK (a b:List Prt):prtZ (a++b)=prtZ a+prtZ b:=by simp [prtZ]
theorem zru {l:List Prt} {p:Prt} (h:p ∈ l):p.bytes.length≤prtZ l:=by
 induction l with
 |nil=>cases h
 | cons x r ih=>
   simp only [prtZ,List.map_cons,List.sum_cons]
   rcases List.mem_cons.1 h with rfl|h
   · omega
   · have:=ih h;unfold prtZ at this;omega
theorem zvB (o:List Prt) (e:Evt) (he:k5 e=true→e.part.bytes=[]):prtZ (prtS o e)≤prtZ o+e.bytes.length:=by
 unfold prtS
 split
 · rename_i h
   rw [zjK]
   have:prtZ [e.part]=0:=by simp [prtZ,he (by simp [k5,h])]
   omega
 · split
   · rcases List.eq_nil_or_concat o with rfl|⟨z,x,rfl⟩
     · simp
     · rw [List.concat_eq_append]
       simp only [List.getLast?_append,List.getLast?_singleton,Option.some_or,List.dropLast_concat,zjK]
       simp [prtZ];omega
   · omega
theorem zsP: ∀ (l:List Evt) (o:List Prt),(∀ e ∈ l,k5 e=true→e.part.bytes=[])→prtZ (l.foldl prtS o)≤prtZ o+zF l
 |[],o,_=>by simp [zF]
 | e::l,o,h=>by
   have h1:=zsP l (prtS o e) fun x hx=>h x (List.mem_cons_of_mem _ hx);have h2:=zvB o e (h e List.mem_cons_self);rw [List.foldl_cons];simp only [zF,List.map_cons,List.sum_cons] at h1 ⊢;omega
theorem zvC (o:List Prt) (e:Evt):(prtS o e).map Prt.file=o.map Prt.file++([e].filter k5).map fun x=>x.part.file:=by
 unfold prtS
 split
 · rename_i h;simp [k5,h]
 · rename_i h
   have hk:k5 e=false:=by simp [k5,h]
   split
   · rcases List.eq_nil_or_concat o with rfl|⟨z,x,rfl⟩
     · simp [hk]
     · simp [hk]
   · simp [hk]
theorem zsQ: ∀ (l:List Evt) (o:List Prt),(l.foldl prtS o).map Prt.file=o.map Prt.file++(l.filter k5).map fun x=>x.part.file
 |[],o=>by simp
 | e::l,o=>by
   rw [List.foldl_cons,zsQ l,zvC,jo,← List.map_append,← List.filter_append];rfl
theorem zhE (s b:Str):(Z8 s b).1.length≤12∧(∀ p ∈ (Z8 s b).1,p.file.length≤40)∧prtZ (Z8 s b).1≤1000+2 * b.length:=by
 have h0:([]:List Prt).length≤12∧(∀ p ∈ ([]:List Prt),p.file.length≤40)∧prtZ ([]:List Prt)≤1000+2 * b.length:=⟨by decide,(fun p h=>by cases h),by simp [prtZ]⟩
 unfold Z8
 split
 · exact h0
 · rename_i hm
   split
   · exact h0
   · have hs:s.length≤70:=by
      unfold WX at hm
      simp at hm
      omega
     have h5:P5 (xh (fm0 s) b):=zsU b ⟨Int.le_refl 0,fun e h=>by cases h⟩
     have hp:=(zh5 b _ 0 (zuO hs)).p0;have hle:=zgw (b:=b) hs;have hf:=zsQ (yK (xh (fm0 s) b).out) [];rw [zrO] at hf;simp only [List.map_nil,List.nil_append] at hf;dsimp only;refine⟨?_,fun p h=> ?_,?_⟩
     · have:=congrArg List.length hf
       rw [List.length_map,List.length_map] at this;have h1:=h5.1;have h2:(xh (fm0 s) b).parts≤12:=hp.2;omega
     · have h1:p.file ∈ ((xh (fm0 s) b).out.filter k5).map fun x=>x.part.file:=by rw [← hf];exact List.mem_map_of_mem h
       obtain⟨e,he,e2⟩:=List.mem_map.1 h1;rw [← e2]
       exact h5.2 e (List.mem_filter.1 he).1 (by simpa [k5] using (List.mem_filter.1 he).2)
     · have:=zsP (yK (xh (fm0 s) b).out) [] fun e he hk=> ?_
       · have h1:=hle.2
         have h2:prtZ []=0:=rfl;omega
       · obtain⟨i,hi,rfl⟩:=List.getElem_of_mem he
         have h1:=(zn3 s b ⟨0,hd0,[],prt0,0⟩ i hi).2;rw [jH,jm hi] at h1
         exact h1 (by simpa [k5] using hk)
end Go.Proofs.YtkjepecoodjbmaaGreatDoor
namespace Go.Proofs.YtkjepecoodjbmaaGreatDoor
open Go Go.Sep Go.Ab
set_option maxRecDepth 100000
def cfgG:Cfg:= { sl:=VW.sl++[⟨50,1000003,.byte,none⟩,⟨120,4,.fld,none⟩,⟨120,6,.byte,some 5⟩]}
def Vj (I:Alg):KU
 |[.v (.one (.p (.int .i64 st))),.v (.one (.p (.str b)))],[]=>(fun(b:Str)=>(some (.one ⟨I.hid (b.length≤1000000),(.ret (.v (.agg [.p (.int .i64 st),.p (.list .fld (I.hid ([]:List Fld))),.p (.list .byte b)]))),[]⟩):Option CT)) b
 |_,_=>none
theorem zfU:zx Tryz.prog 84 (Vj alg):=by
 intro args hp r h;unfold Vj at h;split at h<;>cases h
 rename_i st b;simp only [CT.Good,zh];intro hneed
 refine spH Tryz.func84 (by kernel_rfl) { cfgG with keep:=some [0,1,4]} [] (by kernel_rfl) ?_
 intro I X hI hX
 refine orcL ?_;go_invoke;refine orcS (by kernel_rfl) ?_
 simp only [zi,Nat.reduceAdd];subst hI;simp only [nrmA,nrmB,nrlB,reduceCtorEq,V0.agg.injEq]
def qR:Know Tryz.prog:=⟨84,Vj,zfU⟩
def qQ:Know Tryz.prog:=⟨84,fun I=>zu I (Vj I),zf zfU⟩
def Vm (I:Alg):KU
 |[.v (.agg [.p (.str m),.p (.str t),.p (.int .i64 mi),.p (.list .fld f),.p (.int .i64 le)]),.v (.one (.p (.list .byte body)))],[]=>(fun(m t:Str) (f:List Fld) (body:Str)=>(some (.one ⟨I.hid (FOk f∧body.length≤100000),(.ret (.tup [.one (.p (.list .prt (I.hid ((rV f body).1)))),.one (.p (.int .i64 (I.hid ((rV f body).2))))])),[]⟩):Option CT)) m t f body
 |_,_=>none
set_option maxHeartbeats 1000000 in
theorem zfV:zx Tryz.prog 175 (Vm alg):=by
 intro args hp r h;unfold Vm at h;split at h<;>cases h
 rename_i m t mi f le body
 revert f;intro(f:List Fld)
 simp only [CT.Good,zh];intro hneed;obtain⟨hf,hb⟩:=hneed;have hv:=zdF hf Zy;have hp:=zfi (oneT f Zy).1;have hg:=zkn hp.2 bndT;have hpl:=hp.1;clear hp;generalize hr:rV f body=r;unfold rV at hr;unfold oneT at hr hv hg hpl
 refine spH Tryz.func175 (by kernel_rfl) { cfgG with rl:=[0],keep:=some [0,1,2,4,5,6,7,8,9,10,11]} [Uu,Ut,wR,wQ,Yp,Yo,zsk,zsj] (by kernel_rfl) ?_
 intro I X hI hX
 refine orcL ?_;go_invoke;refine orcS (by kernel_rfl) ?_
 simp only [zi,Nat.reduceAdd];rw [show([99,111,110,116,101,110,116,45,116,121,112,101]:Str)=Zy from rfl,show([98,111,117,110,100,97,114,121]:Str)=bndT from rfl,show([109,117,108,116,105,112,97,114,116,47,102,111,114,109,45,100,97,116,97]:Str)=zvV from rfl]
 have hc:Zy.length≤1000000:=by decide
 have hh: ∀ {α:Type} (y:α),I.hid y=y:=fun y=>by subst hI;rfl
 simp only [hh];generalize oneF (valsF f Zy)=o at *;generalize xK o.1=M at *;generalize getP M.1.params bndT=g at *;generalize Z8 g.1 body=Y at *;subst hI;simp only [nrmA,nrmB,nrlB,reduceCtorEq,V0.agg.injEq]
 (repeat' (first|refine ja ?_ ?_|intro _))<;>first|omega|exact jb|exact jc ‹False›|skip
 all_goals first
  |omega
  |assumption
  |exact hf.1
  |(exact(hf.2 _ ‹_›).1)
  |(exact(hf.2 _ ‹_›).2)
  |(((repeat(first|rewrite [if_pos (by first|omega|assumption|(simp only [*,or_self,or_true,true_or,or_false,false_or,jf,jg,jd,je,and_self,and_true,true_and];done)|(simp only [*];omega)|(simp [*];done)|(simp [*];omega))] at hr|rewrite [if_neg (by first|omega|assumption|(simp only [*,or_self,or_true,true_or,or_false,false_or,jf,jg,jd,je,and_self,and_true,true_and];done)|(simp only [*];omega)|(simp [*];done)|(simp [*];omega))] at hr)));subst hr;rfl)
  |(simp_all;done)
def Vl:Know Tryz.prog:=⟨175,Vm,zfV⟩
def Vk:Know Tryz.prog:=⟨175,fun I=>zu I (Vm I),zf zfV⟩
theorem zs6 (q:Sto) (e:Ent):q.n≤(wsS q e).n∧(wsS q e).n≤q.n+1:=zmB _ _ _ _
def Qe (I:Alg):KU
 |[.v (.one (.ptr 0 0)),.v (.agg [.p (.str pn),.p (.str pf),.p (.str pt),.p (.nl pb)])],[.obj 50 [.ptr 1 0,.ptr 2 0,.ptr 3 0,.ptr 4 0,.ptr 5 0],.pack [.obj 54 [.ptr 1 0,.ptr 2 0],.pack [.obj 124 [.row 1,.p (.int .i64 n)],.row .upl 81 l],.pack [.obj 156 [.row 1,.p (.int .i64 s)],.row .byte 5 b]],.abs (.cn c0),.abs (.cn c1),.abs (.cn c2),.abs (.cn c3)]=>(fun(l:List Upl) (b pn pf pt pb:Str)=>(some (.one ⟨I.hid (zJ l n∧n≤200000 - 1∧b.length≤100000∧pf.length≤100000∧pb.length≤100000),(.ret (.tup [(.one (.p (.int .i64 (I.hid (if zdK ⟨l,n,b,s⟩ ⟨pn,pf,pt,pb⟩=0 then n+1 else 0))))),.one (.p (.int .i64 (I.hid (zdK ⟨l,n,b,s⟩ ⟨pn,pf,pt,pb⟩))))])),[.obj 50 [.ptr 1 0,.ptr 2 0,.ptr 3 0,.ptr 4 0,.ptr 5 0],.pack [.obj 54 [.ptr 1 0,.ptr 2 0],.pack [.obj 124 [.row 1,.p (.int .i64 (I.hid ((tH ⟨l,n,b,s⟩ ⟨pn,pf,pt,pb⟩).n)))],.row .upl 81 (I.hid ((tH ⟨l,n,b,s⟩ ⟨pn,pf,pt,pb⟩).l))],.pack [.obj 156 [.row 1,.p (.int .i64 (I.hid ((tH ⟨l,n,b,s⟩ ⟨pn,pf,pt,pb⟩).s)))],.row .byte 5 (I.hid ((tH ⟨l,n,b,s⟩ ⟨pn,pf,pt,pb⟩).b))]],.abs (.cn c0),.abs (.cn c1),.abs (.cn c2),.abs (.cn c3)]⟩):Option CT)) l b pn pf pt pb
 |_,_=>none
set_option maxHeartbeats 1000000 in
theorem zkp:zx Tryz.prog 177 (Qe alg):=by
 intro args hp r h;unfold Qe at h;split at h<;>cases h
 rename_i pn pf pt pb n l s b c0 c1 c2 c3
 revert l;intro(l:List Upl)
 simp only [CT.Good,zh];intro hneed;obtain⟨hs,hn,hb,hf,hp⟩:=hneed
 have hl:(zmf++pf).length≤1000000:=by rw [jk];simp [zmf];omega
 have h1:=QD hs b (uO ⟨l,n,b,s⟩ ⟨pn,pf,pt,pb⟩);have h2:=zmB l n b (uO ⟨l,n,b,s⟩ ⟨pn,pf,pt,pb⟩);have h3:=qV (l:=l) (n:=n) (uO ⟨l,n,b,s⟩ ⟨pn,pf,pt,pb⟩) hb;generalize hc:zdK ⟨l,n,b,s⟩ ⟨pn,pf,pt,pb⟩=c;generalize hq:tH ⟨l,n,b,s⟩ ⟨pn,pf,pt,pb⟩=q';unfold zdK apCd wsC wsS uO creE apE at hc;unfold tH apCd apQ wsC wsS uO creE apE zby at hq;unfold uO creE at h1 h2 h3
 refine spH Tryz.func177 (by kernel_rfl) { cfgG with keep:=some [0,1,3,4,5,6,7,8]} [U3,U2,yV,yU,xP,xO] (by kernel_rfl) ?_
 intro I X hI hX
 refine orcL ?_;go_invoke;refine orcS (by kernel_rfl) ?_
 simp only [zi,Nat.reduceAdd];rw [show([102,105,108,101,110,97,109,101,32]:Str)=zmf from rfl];subst hI;simp only [nrmA,nrmB,nrlB,reduceCtorEq,V0.agg.injEq,HO.pack.injEq,HO.obj.injEq];dsimp only at hc hq h1 h2 h3
 have hlf:(zmf.length:Int)+pf.length≤1000000:=by rw [jk] at hl;omega
 obtain⟨nm,hnm⟩: ∃ nm,nm=zmf++pf:=⟨_,rfl⟩;simp only [← hnm] at hc hq h1 h2 h3 hl ⊢;clear hnm
 by_cases hw:wrtC l n b ⟨1,n+1,(pb.length:Int),nm⟩=0
 · simp only [hw,ne_eq,jf,jg,if_true,if_false] at hc hq ⊢
   generalize wrtL l n b ⟨1,n+1,(pb.length:Int),nm⟩=l1 at *;generalize wrtN l n b ⟨1,n+1,(pb.length:Int),nm⟩=n1 at *;generalize wrtB l n b ⟨1,n+1,(pb.length:Int),nm⟩=b1 at *
   by_cases hg:apG l1 (n+1) 0=true
   · simp only [hg,if_true,je,jf,jg,if_false,show ¬ (17:Int)=0 by decide] at hc hq ⊢
     subst hc hq
     (repeat' (first|refine ja ?_ ?_|intro _))<;>first|omega|exact jb|exact jc ‹False›|skip
     all_goals first|omega|assumption|rfl|trace_state
   · simp only [hg,if_false,jd] at hc hq ⊢
     have h4:=QD h1 b1 ⟨2,n+1,0,pb⟩
     have h5:=qI (l:=l1) (n:=n1) (b:=b1) (e:=⟨2,n+1,0,pb⟩) (show(2:Int)≠1 by decide)
     have h6:=qV (l:=l1) (n:=n1) (b:=b1) ⟨2,n+1,0,pb⟩ h3
     by_cases ha:wrtC l1 n1 b1 ⟨2,n+1,0,pb⟩=0
     · simp only [ha,jf,if_false,if_true] at hc hq ⊢
       subst hc hq
       (repeat' (first|refine ja ?_ ?_|intro _))<;>first|omega|exact jb|exact jc ‹False›|skip
       all_goals first|omega|assumption|rfl|trace_state
     · simp only [ha,jg,if_false,if_true] at hc hq ⊢
       subst hc hq
       (repeat' (first|refine ja ?_ ?_|intro _))<;>first|omega|exact jb|exact jc ‹False›|skip
       all_goals first|omega|assumption|rfl|trace_state
 · simp only [hw,ne_eq,jf,jg,if_true,if_false] at hc hq ⊢
   subst hc hq
   (repeat' (first|refine ja ?_ ?_|intro _))<;>first|omega|exact jb|exact jc ‹False›|skip
   all_goals first|omega|assumption|rfl|contradiction|trace_state
def Qd:Know Tryz.prog:=⟨177,Qe,zkp⟩
def Qc:Know Tryz.prog:=⟨177,fun I=>zu I (Qe I),zf zkp⟩
end Go.Proofs.YtkjepecoodjbmaaGreatDoor
namespace Go.Proofs.YtkjepecoodjbmaaGreatDoor
open Go Go.Sep Go.Ab
set_option maxRecDepth 100000
theorem Yc (f:List Fld) (body:Str):(rV f body).1.length≤12∧(∀ p ∈ (rV f body).1,p.file.length≤40)∧prtZ (rV f body).1≤1000+2 * body.length:=by
 have h0:([]:List Prt).length≤12∧(∀ p ∈ ([]:List Prt),p.file.length≤40)∧prtZ ([]:List Prt)≤1000+2 * body.length:=⟨by decide,(fun p h=>by cases h),by simp [prtZ]⟩
 unfold rV
 split
 · exact h0
 · split
   · exact h0
   · split
     · exact h0
     · exact zhE _ _
theorem zlK {ps:List Prt} {i:Nat} (h:i<ps.length):Xz (ps.drop i)=(((ps.getD i ⟨[],[],[],[]⟩).bytes.length:Int)+200)+Xz (ps.drop (i+1)):=by
 rw [jE h,Xz];simp [h]
theorem zia {q:Sto} {ids:List Int} {t:Str} {ps:List Prt} {i:Nat} (h:i<ps.length):vN q ids t (ps.drop i)=(if(ps.getD i ⟨[],[],[],[]⟩).file=[] then vN q ids t (ps.drop (i+1)) else if zdK q (ps.getD i ⟨[],[],[],[]⟩)≠0 then⟨V6 (if zdK q (ps.getD i ⟨[],[],[],[]⟩)=4 then 413 else 507),syS (Xt (tH q (ps.getD i ⟨[],[],[],[]⟩)) ids)⟩ else vN (tH q (ps.getD i ⟨[],[],[],[]⟩)) (ids++[q.n+1]) (zls t (q.n+1) (ps.getD i ⟨[],[],[],[]⟩)) (ps.drop (i+1))):=by
 have e:ps.getD i ⟨[],[],[],[]⟩=ps[i]:=by simp [h]
 rw [e,jE h,vN]
theorem zii {q:Sto} {ids:List Int} {j:Nat} (h:j<ids.length):Xt q (ids.drop j)=Xt (wsS q (zby (ids.getD j 0))) (ids.drop (j+1)):=by
 have e:ids.getD j 0=ids[j]:=by simp [h]
 rw [e,jE h,Xt]
theorem zrL {q:Sto} (hs:zJ q.l q.n) (hb:q.b.length≤100000) (p:Prt):zJ (tH q p).l (tH q p).n∧(tH q p).b.length≤100000∧q.n≤(tH q p).n∧(tH q p).n≤q.n+1∧(tH q p).s=q.s:=by
 have hw: ∀ {x:Sto} (e:Ent),zJ x.l x.n→x.b.length≤100000→zJ (wsS x e).l (wsS x e).n∧(wsS x e).b.length≤100000:=fun e h1 h2=>⟨QD h1 _ _,qV _ h2⟩;have h1:=hw (uO q p) hs hb;have n1:=zs6 q (uO q p)
 have h2:zJ (apQ (wsS q (uO q p)) (q.n+1) 0 p.bytes).l (apQ (wsS q (uO q p)) (q.n+1) 0 p.bytes).n∧(apQ (wsS q (uO q p)) (q.n+1) 0 p.bytes).b.length≤100000:=by
  unfold apQ
  split
  · exact h1
  · exact hw _ h1.1 h1.2
 have n2:(apQ (wsS q (uO q p)) (q.n+1) 0 p.bytes).n=(wsS q (uO q p)).n:=by
  unfold apQ
  split
  · rfl
  · exact qI (show(2:Int)≠1 by decide)
 have s2:(apQ (wsS q (uO q p)) (q.n+1) 0 p.bytes).s=q.s:=by unfold apQ;split<;>rfl
 unfold tH
 split
 · exact⟨h1.1,h1.2,n1.1,n1.2,rfl⟩
 · split
   · have n3:(wsS (apQ (wsS q (uO q p)) (q.n+1) 0 p.bytes) (zby (q.n+1))).n=(apQ (wsS q (uO q p)) (q.n+1) 0 p.bytes).n:=qI (show(4:Int)≠1 by decide)
     have h3:=hw (zby (q.n+1)) h2.1 h2.2
     exact⟨h3.1,h3.2,by rw [n3,n2];exact n1.1,by rw [n3,n2];exact n1.2,s2⟩
   · exact⟨h2.1,h2.2,by rw [n2];exact n1.1,by rw [n2];exact n1.2,s2⟩
theorem zjF: ∀ P:List Prt,0≤Xz P
 |[]=>Int.le_refl 0
 |p::r=>by have:=zjF r;simp only [Xz];omega
theorem zjG: ∀ P:List Prt,Xz P≤prtZ P+200 * P.length
 |[]=>by simp [Xz]
 | p::r=>by
   have:=zjG r;simp only [Xz,prtZ,List.map_cons,List.sum_cons,jh] at this ⊢;omega
theorem VB: ∀ (P:List Prt) (q:Sto) (ids:List Int) (t:Str),(vN q ids t P).r.fields=[]
 |[],_,_,_=>rfl
 | p ::r,q,ids,t=>by
   unfold vN
   split
   · exact VB r _ _ _
   · split
     · rfl
     · exact VB r _ _ _
def Qg (I:Alg):KU
 |[.v (.one (.ptr 0 0)),.v (.agg [.p (.str m),.p (.str t),.p (.int .i64 mi),.p (.list .fld f),.p (.int .i64 le)]),.v (.one (.p (.list .byte body)))],[.obj 50 [.ptr 1 0,.ptr 2 0,.ptr 3 0,.ptr 4 0,.ptr 5 0],.pack [.obj 54 [.ptr 1 0,.ptr 2 0],.pack [.obj 124 [.row 1,.p (.int .i64 n)],.row .upl 81 l],.pack [.obj 156 [.row 1,.p (.int .i64 s)],.row .byte 5 b]],.abs (.cn c0),.abs (.cn c1),.abs (.cn c2),.abs (.cn c3)]=>(fun(l:List Upl) (b m t:Str) (f:List Fld) (body:Str)=>(some (.one ⟨I.hid (FOk f∧zJ l n∧n≤200000 - 20∧b.length≤100000∧body.length≤30000),(.ret (.v (.agg [.p (.int .i64 (I.hid ((XK ⟨l,n,b,s⟩ f body).r.status))),.p (.list .fld (I.hid ([]:List Fld))),.p (.list .byte (I.hid ((XK ⟨l,n,b,s⟩ f body).r.body)))]))),[.obj 50 [.ptr 1 0,.ptr 2 0,.ptr 3 0,.ptr 4 0,.ptr 5 0],.pack [.obj 54 [.ptr 1 0,.ptr 2 0],.pack [.obj 124 [.row 1,.p (.int .i64 (I.hid ((XK ⟨l,n,b,s⟩ f body).q.n)))],.row .upl 81 (I.hid ((XK ⟨l,n,b,s⟩ f body).q.l))],.pack [.obj 156 [.row 1,.p (.int .i64 (I.hid ((XK ⟨l,n,b,s⟩ f body).q.s)))],.row .byte 5 (I.hid ((XK ⟨l,n,b,s⟩ f body).q.b))]],.abs (.cn c0),.abs (.cn c1),.abs (.cn c2),.abs (.cn c3)]⟩):Option CT)) l b m t f body
 |_,_=>none
set_option maxHeartbeats 1000000 in
theorem zkq:zx Tryz.prog 125 (Qg alg):=by
 intro args hp r h;unfold Qg at h;split at h<;>cases h
 rename_i m t mi f le body n l s b c0 c1 c2 c3
 revert f l;intro(f:List Fld) (l:List Upl)
 simp only [CT.Good,zh];intro hneed;obtain⟨hf,hs,hn,hb,hbo⟩:=hneed;have hsm:=Yc f body;generalize hr:XK ⟨l,n,b,s⟩ f body=r;obtain⟨⟨st,fs,bd⟩,⟨l',n',b',s'⟩⟩:=r;unfold XK at hr
 refine spH Tryz.func125 (by kernel_rfl) { cfgG with nr:=[12],keep:=some [0,1,2,4,6,7,8,9,11,12,13,15,16,17,19,30,31,32,51,52,53,68,69,70]} [xP,xO,zL,zK,yR,yQ,qC,qB,qR,qQ,Vl,Vk,Qd,Qc] (by kernel_rfl) ?_
 intro I X hI hX
 refine orcL ?_;go_invoke;refine orcS (by kernel_rfl) ?_
 simp only [zi,Nat.reduceAdd]
 have hh: ∀ {α:Type} (y:α),I.hid y=y:=fun y=>by subst hI;rfl
 simp only [hh];generalize rV f body=Z at *;obtain⟨ps,code⟩:=Z
 (repeat' (first|refine ja ?_ ?_|intro _))
 all_goals try(subst hI;(simp only [nrmA,nrmB,nrlB,reduceCtorEq,V0.agg.injEq,HO.pack.injEq,HO.obj.injEq] at *);first|done|exact hf.1|(exact(hf.2 _ ‹_›).1)|(exact(hf.2 _ ‹_›).2)|omega|(exact jM _)|(((repeat(first|rewrite [if_pos (by first|omega|assumption|(simp only [*,or_self,or_true,true_or,or_false,false_or,jf,jg,jd,je,and_self,and_true,true_and];done)|(simp only [*];omega)|(simp [*];done)|(simp [*];omega))] at hr|rewrite [if_neg (by first|omega|assumption|(simp only [*,or_self,or_true,true_or,or_false,false_or,jf,jg,jd,je,and_self,and_true,true_and];done)|(simp only [*];omega)|(simp [*];done)|(simp [*];omega))] at hr)));cases hr;simp [V6];done))
 have hco:code=0:=by
  subst hI;simp only [nrmA,nrmB,nrlB,reduceCtorEq] at *;omega
 rw [if_neg (by simp [hco])] at hr
 dsimp only at hr hsm;have hrl:=zjG ps
 refine lpH hI [xP,xO,zL,zK,yR,yQ,qC,qB,qR,qQ,Vl,Vk,Qd,Qc] hX [0,6,7,9,30,31,32] (fun(g:Nat × Int)=>match g with|(i,r)=>i≤ps.length∧0≤r∧r+Xz (ps.drop i)=Xz ps) (fun(g:Nat × Int)=>match g with|(i,r)=>⟨[(0,.v (.one (.ptr 0 0))),(6,.v (.one (.ptr 6 0))),(7,.v (.one (.p (.list .prt ps)))),(9,.v (.one (.p (.int .i64 r)))),(30,.v (.one (.p (.list .prt ps)))),(31,.v (.one (.p (.int .i64 ((I.len (α:=Prt) ps)))))),(32,.v (.one (.p (.int .i64 i))))],[.obj 50 [.ptr 1 0,.ptr 2 0,.ptr 3 0,.ptr 4 0,.ptr 5 0],.pack [.obj 54 [.ptr 1 0,.ptr 2 0],.pack [.obj 124 [.row 1,.p (.int .i64 n)],.row .upl 81 l],.pack [.obj 156 [.row 1,.p (.int .i64 s)],.row .byte 5 b]],.abs (.cn c0),.abs (.cn c1),.abs (.cn c2),.abs (.cn c3),.pack [.obj 128 [.p (.int .i64 0),.nilS,.nilS]]],111,none⟩) (fun(g:Nat × Int)=>match g with|(i,r)=>ps.length - i) (0,0) (by kernel_rfl) (by kernel_rfl) ?_ ?_
 · exact⟨jM _,Int.le_refl 0,by simp⟩
 rintro⟨i,r⟩ ⟨h1,h2,h3⟩ A hA;simp only at hA h1 h2 h3;have hd:=fun h=>zlK (ps:=ps) (i:=i) h;have hnn:=zjF (ps.drop (i+1));have hbl:=Int.natCast_nonneg (ps.getD i ⟨[],[],[],[]⟩).bytes.length
 have hend: ¬ i<ps.length→r=Xz ps:=fun h=>by rw [jF (by omega)] at h3;simp only [Xz] at h3;omega
 refine orcL ?_;go_invoke;refine orcS (by kernel_rfl) ?_
 simp only [zi,Nat.reduceAdd]
 (repeat' (first|refine ja ?_ ?_|intro _))
 all_goals try(subst hI;(simp only [nrmA,nrmB,nrlB,reduceCtorEq,V0.agg.injEq,HO.pack.injEq,HO.obj.injEq] at *);first|done|omega|(exact jM _)|(have hd:=hd (by omega);omega)|(exact hA (i+1,_) ⟨by dsimp only;omega,by dsimp only;omega,by dsimp only;rw [hd (by omega)] at h3;omega⟩ (by dsimp only;omega))|(rw [hend (by omega)] at *;((repeat(first|rewrite [if_pos (by first|omega|assumption|(simp only [*,or_self,or_true,true_or,or_false,false_or,jf,jg,jd,je,and_self,and_true,true_and];done)|(simp only [*];omega)|(simp [*];done)|(simp [*];omega))] at hr|rewrite [if_neg (by first|omega|assumption|(simp only [*,or_self,or_true,true_or,or_false,false_or,jf,jg,jd,je,and_self,and_true,true_and];done)|(simp only [*];omega)|(simp [*];done)|(simp [*];omega))] at hr)));cases hr;simp [V6];done))
 have hil: ¬ i<ps.length:=by
  subst hI;simp only [nrmA,nrmB,nrlB,reduceCtorEq] at *;omega
 have hro:Uj b (Xz ps)=true:=by
  subst hI;simp only [nrmA,nrmB,nrlB,reduceCtorEq] at *;rw [hend hil] at *;assumption
 rw [if_neg (by simp [hro])] at hr
 clear hA hd hnn hbl hend h3 h2 h1
 refine lpH hI [xP,xO,zL,zK,yR,yQ,qC,qB,qR,qQ,Vl,Vk,Qd,Qc] hX [0,6,12,13,51,52,53] (fun(g:Nat × List Upl × Int × Str × List Int × Str)=>match g with|(i,l1,n1,b1,ids,t1)=>i≤ps.length∧vN ⟨l1,n1,b1,s⟩ ids t1 (ps.drop i)=⟨⟨st,fs,bd⟩,⟨l',n',b',s'⟩⟩∧zJ l1 n1∧n1≤n+i∧b1.length≤100000∧ids.length≤i∧t1.length≤60 * i) (fun(g:Nat × List Upl × Int × Str × List Int × Str)=>match g with|(i,l1,n1,b1,ids,t1)=>⟨[(0,.v (.one (.ptr 0 0))),(6,.v (.one (.ptr 6 0))),(12,.v (.one (.row 7))),(13,.v (.one (.p (.str t1)))),(51,.v (.one (.p (.list .prt ps)))),(52,.v (.one (.p (.int .i64 ((I.len (α:=Prt) ps)))))),(53,.v (.one (.p (.int .i64 i))))],[.obj 50 [.ptr 1 0,.ptr 2 0,.ptr 3 0,.ptr 4 0,.ptr 5 0],.pack [.obj 54 [.ptr 1 0,.ptr 2 0],.pack [.obj 124 [.row 1,.p (.int .i64 n1)],.row .upl 81 l1],.pack [.obj 156 [.row 1,.p (.int .i64 s)],.row .byte 5 b1]],.abs (.cn c0),.abs (.cn c1),.abs (.cn c2),.abs (.cn c3),.pack [.obj 128 [.p (.int .i64 0),.nilS,.nilS]],.row .int 3 ids],111,none⟩) (fun(g:Nat × List Upl × Int × Str × List Int × Str)=>match g with|(i,l1,n1,b1,ids,t1)=>ps.length - i) (0,l,n,b,[],[]) (by kernel_rfl) (by kernel_rfl) ?_ ?_
 · exact⟨jM _,hr,hs,by simp,hb,jM _,jM _⟩
 rintro⟨i,l1,n1,b1,ids,t1⟩ ⟨h1,h2,h3,h4,h5,h6,h7⟩ A hA;simp only at hA h1 h2 h3 h4 h5 h6 h7
 have hx:i<ps.length→(ps.getD i ⟨[],[],[],[]⟩) ∈ ps:=fun h=>by rw [show ps.getD i ⟨[],[],[],[]⟩=ps[i] by simp [h]];exact List.getElem_mem h
 have hfd:=fun h=>zia (q:=⟨l1,n1,b1,s⟩) (ids:=ids) (t:=t1) (ps:=ps) (i:=i) h
 have hend: ¬ i<ps.length→vN ⟨l1,n1,b1,s⟩ ids t1 (ps.drop i)=⟨⟨201,[],t1⟩,syS ⟨l1,n1,b1,s⟩⟩:=fun h=>by rw [jF (by omega)];rfl
 have hxf:i<ps.length→_:=fun h=>hsm.2.1 _ (hx h);have hxb:i<ps.length→_:=fun h=>zru (hx h);have hql:=fun p=>zrL (q:=⟨l1,n1,b1,s⟩) h3 h5 p;have hn0:=h3.n0;have hdl:=wL (n1+1)
 refine orcL ?_;go_invoke;refine orcS (by kernel_rfl) ?_
 simp only [zi,Nat.reduceAdd]
 have e1:I.get ps ⟨[],[],[],[]⟩ (i:Int)=ps.getD i ⟨[],[],[],[]⟩:=by subst hI;first|rfl|simp
 simp only [e1];generalize ps.getD i ⟨[],[],[],[]⟩=x at *;have e0:(⟨x.name,x.file,x.type,x.bytes⟩:Prt)=x:=rfl;have hql:=hql x;simp only [e0,hh];generalize zdK ⟨l1,n1,b1,s⟩ x=c at *;generalize tH ⟨l1,n1,b1,s⟩ x=Y at *;obtain⟨l2,n2,b2,s2⟩:=Y;obtain⟨g1,g2,g3,g4,g5⟩:=hql;dsimp only at g1 g2 g3 g4 g5 hfd;obtain rfl:s=s2:=g5.symm
 (repeat' (first|refine ja ?_ ?_|intro _))
 all_goals try(subst hI;(simp only [nrmA,nrmB,nrlB,reduceCtorEq,V0.agg.injEq,HO.pack.injEq,HO.obj.injEq] at *);first|done|omega|(with_reducible assumption)|(have hxf:=hxf (by omega);have hxb:=hxb (by omega);first|omega|with_reducible assumption)|(rw [if_pos (by with_reducible assumption)];first|omega|(have hxf:=hxf (by omega);rw [jk];simp only [jh,ji];omega))|(have hfd:=hfd (by omega);rw [h2] at hfd;((repeat(first|rewrite [if_pos (by first|omega|assumption|(simp only [*,or_self,or_true,true_or,or_false,false_or,jf,jg,jd,je,and_self,and_true,true_and];done)|(simp only [*];omega)|(simp [*];done)|(simp [*];omega))] at hfd|rewrite [if_neg (by first|omega|assumption|(simp only [*,or_self,or_true,true_or,or_false,false_or,jf,jg,jd,je,and_self,and_true,true_and];done)|(simp only [*];omega)|(simp [*];done)|(simp [*];omega))] at hfd)));exact hA (i+1,l1,n1,b1,ids,t1) ⟨by dsimp only;omega,hfd.symm,h3,by dsimp only;omega,h5,by dsimp only;omega,by dsimp only;omega⟩ (by dsimp only;omega))|(rw [if_pos (show c=0 by omega)];have hxf:=hxf (by omega);simp only [jk,jh,ji];omega)|(rw [if_pos (show c=0 by omega)];have hxf:=hxf (by omega);have hfd:=hfd (by omega);rw [h2] at hfd;((repeat(first|rewrite [if_pos (by first|omega|assumption|(simp only [*,or_self,or_true,true_or,or_false,false_or,jf,jg,jd,je,and_self,and_true,true_and];done)|(simp only [*];omega)|(simp [*];done)|(simp [*];omega))] at hfd|rewrite [if_neg (by first|omega|assumption|(simp only [*,or_self,or_true,true_or,or_false,false_or,jf,jg,jd,je,and_self,and_true,true_and];done)|(simp only [*];omega)|(simp [*];done)|(simp [*];omega))] at hfd)));exact hA (i+1,l2,n2,b2,ids++[n1+1],t1++(decS (n1+1)++[32]++x.file++[10])) ⟨by dsimp only;omega,hfd.symm,g1,by dsimp only;omega,g2,by simp only [jk,jh,ji];omega,by simp only [jk,jh,ji];omega⟩ (by dsimp only;omega))|(rw [hend (by omega)] at h2;simp only [GA.mk.injEq,Rpl.mk.injEq,syS,Sto.mk.injEq] at h2;obtain⟨⟨rfl,rfl,rfl⟩,rfl,rfl,rfl,rfl⟩:=h2;simp))
 have hil:i<ps.length:=by
  subst hI;simp only [nrmA,nrmB,nrlB,reduceCtorEq] at *;omega
 have hc: ¬ c=0:=by
  subst hI;simp only [nrmA,nrmB,nrlB,reduceCtorEq] at *
  first|omega|with_reducible assumption
 have hfi: ¬ x.file=[]:=by
  subst hI;simp only [nrmA,nrmB,nrlB,reduceCtorEq] at *
  first|omega|with_reducible assumption
 have hfd:=hfd hil;rw [h2,if_neg hfi,if_pos hc] at hfd;generalize hD:Xt ⟨l2,n2,b2,s⟩ ids=W at hfd;clear hA hend hxf hxb hdl h2
 refine lpH hI [xP,xO,zL,zK,yR,yQ,qC,qB,qR,qQ,Vl,Vk,Qd,Qc] hX [0,6,17,68,69,70] (fun(g:Nat × List Upl × Int × Str)=>match g with|(j,l3,n3,b3)=>j≤ids.length∧Xt ⟨l3,n3,b3,s⟩ (ids.drop j)=W∧zJ l3 n3∧n3≤200000∧b3.length≤100000) (fun(g:Nat × List Upl × Int × Str)=>match g with|(j,l3,n3,b3)=>⟨[(0,.v (.one (.ptr 0 0))),(6,.v (.one (.ptr 6 0))),(17,.v (.one (.p (.int .i64 c)))),(68,.v (.one (.row 7))),(69,.v (.one (.p (.int .i64 ((I.len (α:=Int) ids)))))),(70,.v (.one (.p (.int .i64 j))))],[.obj 50 [.ptr 1 0,.ptr 2 0,.ptr 3 0,.ptr 4 0,.ptr 5 0],.pack [.obj 54 [.ptr 1 0,.ptr 2 0],.pack [.obj 124 [.row 1,.p (.int .i64 n3)],.row .upl 81 l3],.pack [.obj 156 [.row 1,.p (.int .i64 s)],.row .byte 5 b3]],.abs (.cn c0),.abs (.cn c1),.abs (.cn c2),.abs (.cn c3),.pack [.obj 128 [.p (.int .i64 0),.nilS,.nilS]],.row .int 3 ids],111,none⟩) (fun(g:Nat × List Upl × Int × Str)=>match g with|(j,l3,n3,b3)=>ids.length - j) (0,l2,n2,b2) (by kernel_rfl) (by kernel_rfl) ?_ ?_
 · exact⟨jM _,hD,g1,by omega,g2⟩
 rintro⟨j,l3,n3,b3⟩ ⟨k1,k2,k3,k4,k5⟩ B hB;simp only at hB k1 k2 k3 k4 k5;have hdd:=fun h=>zii (q:=⟨l3,n3,b3,s⟩) (ids:=ids) (j:=j) h
 have hend: ¬ j<ids.length→(⟨l3,n3,b3,s⟩:Sto)=W:=fun h=>by rw [← k2,jF (by omega)];rfl
 have hfin: ¬ j<ids.length→st=(if c=4 then 413 else 507)∧[]=bd∧n3=n'∧l3=l'∧(b3.length:Int)=s'∧b3=b':=fun h=>by
  rw [← hend h] at hfd;simp only [GA.mk.injEq,Rpl.mk.injEq,syS,Sto.mk.injEq,V6] at hfd;obtain⟨⟨q1,q2,q3⟩,q4,q5,q6,q7⟩:=hfd;exact⟨q1,q3.symm,q5.symm,q4.symm,q7.symm,q6.symm⟩
 refine orcL ?_;go_invoke;refine orcS (by kernel_rfl) ?_
 simp only [zi,Nat.reduceAdd]
 have e2:I.get ids 0 (j:Int)=ids.getD j 0:=by subst hI;first|rfl|simp
 simp only [e2];generalize ids.getD j 0=y at *;have w1:=QD k3 b3 (zby y)
 have w2:wrtN l3 n3 b3 (zby y)=n3:=qI (show(4:Int)≠1 by decide)
 have w3:=qV (l:=l3) (n:=n3) (b:=b3) (zby y) k5;unfold zby at w1 w2 w3 hdd
 (repeat' (first|refine ja ?_ ?_|intro _))
 all_goals subst hI
 all_goals try simp only [nrmA,nrmB,nrlB,reduceCtorEq,V0.agg.injEq,HO.pack.injEq,HO.obj.injEq] at *
 all_goals first|omega|(with_reducible assumption)|(exact⟨k3,k4,k5⟩)|(exact jM _)|(have hdd:=hdd (by omega);rw [k2] at hdd;exact hB (j+1,wrtL l3 n3 b3 ⟨4,y,0,[]⟩,wrtN l3 n3 b3 ⟨4,y,0,[]⟩,wrtB l3 n3 b3 ⟨4,y,0,[]⟩) ⟨by dsimp only;omega,hdd.symm,w1,by dsimp only;omega,w3⟩ (by dsimp only;omega))|(obtain⟨q1,q2,q3,q4,q5,q6⟩:=hfin (by omega);first|(rw [if_pos (by with_reducible assumption)] at q1;exact⟨q1.symm,q2⟩)|(rw [if_neg (by with_reducible assumption)] at q1;exact⟨q1.symm,q2⟩)|exact⟨⟨q3,q4⟩,q5,q6⟩)|trace_state
def zr0:Know Tryz.prog:=⟨125,Qg,zkq⟩
def zrZ:Know Tryz.prog:=⟨125,fun I=>zu I (Qg I),zf zkq⟩
end Go.Proofs.YtkjepecoodjbmaaGreatDoor
namespace Go.Proofs.YtkjepecoodjbmaaGreatDoor
open Go Go.Sep Go.Ab
set_option maxRecDepth 100000
def zsz:Cfg:= { sl:=[⟨207,0,.byte,some 5⟩]}
def Qy (I:Alg):KU
 |[],[]=>some (.one ⟨I.hid (True),(.ret (.v (.one (.ptr 0 0)))),[.pack [.obj 228 [.ptr 1 0,.p (.int .i64 0),.p (.int .i64 0),.p (.int .i64 0),.p (.int .i64 0),.p (.int .i64 0)],.pack [.obj 207 [.row 1,.p (.bool false),.p (.int .i64 0)],.row .byte 5 (I.hid ([]))]]]⟩)
 |_,_=>none
theorem zk8:zx Tryz.prog 213 (Qy alg):=by
 intro args hp r h;unfold Qy at h;split at h<;>cases h
 simp only [CT.Good,zh];intro _
 refine spH Tryz.func213 (by kernel_rfl) { zsz with keep:=some [0]} [RY,RX] (by kernel_rfl) ?_
 intro I X hI hX
 refine orcL ?_;go_invoke;refine orcS (by kernel_rfl) ?_
 simp only [zi,Nat.reduceAdd];subst hI;exact⟨trivial,trivial,rfl⟩
def zk7:Know Tryz.prog:=⟨213,Qy,zk8⟩
def zk6:Know Tryz.prog:=⟨213,fun I=>zu I (Qy I),zf zk8⟩
def VU (I:Alg):KU
 |[.v (.one (.ptr 0 0)),.v (.one (.p (.int .i64 k)))],[.pack [.obj 228 [.ptr 1 0,.p (.int .i64 p),.p (.int .i64 l),.p (.int .i64 a),.p (.int .i64 t),.p (.int .i64 c)],.pack [.obj 207 [.row 1,.p (.bool lc),.p (.int .i64 lo)],.row .byte 5 lb]]]=>(fun(lb:Str)=>(some (.one ⟨I.hid (True),(.ret (.tup [.one (.row 1),.one (.p (.bool false)),.one (.p (.int .i64 k))])),[.pack [.obj 228 [.ptr 1 0,.p (.int .i64 p),.p (.int .i64 l),.p (.int .i64 a),.p (.int .i64 t),.p (.int .i64 k)],.pack [.obj 207 [.row 1,.p (.bool lc),.p (.int .i64 lo)],.row .byte 5 lb]],.row .byte 5 (I.hid ([]))]⟩):Option CT)) lb
 |_,_=>none
theorem zgX:zx Tryz.prog 167 (VU alg):=by
 intro args hp r h;unfold VU at h;split at h<;>cases h
 rename_i k p l a t c lc lo lb;simp only [CT.Good,zh];intro _
 refine spH Tryz.func167 (by kernel_rfl) { zsz with nr:=[4],keep:=some [0,1,4,5,6]} [] (by kernel_rfl) ?_
 intro I X hI hX
 refine orcL ?_;go_invoke;refine orcS (by kernel_rfl) ?_
 simp only [zi,Nat.reduceAdd];subst hI;simp only [nrmA,nrmB,nrlB,reduceCtorEq,HO.pack.injEq,HO.obj.injEq]
 try trivial
def zp6:Know Tryz.prog:=⟨167,VU,zgX⟩
def zp5:Know Tryz.prog:=⟨167,fun I=>zu I (VU I),zf zgX⟩
def ZB (I:Alg):KU
 |[.v (.one (.p (.str s)))],[]=>(fun(s:Str)=>(some (.one ⟨I.hid (s.length≤1000000),(.ret (.tup [(.one (.p (.int .i64 (I.hid (if(ZX s).2 then(ZX s).1 else 0))))),(.one (.p (.int .i64 (I.hid (if(ZX s).2 then 0 else 7)))))])),[]⟩):Option CT)) s
 |_,_=>none
theorem zbf:zx Tryz.prog 209 (ZB alg):=by
 intro args hp r h;unfold ZB at h;split at h<;>cases h
 rename_i s;simp only [CT.Good,zh];intro hneed;generalize hr:ZX s=r;obtain⟨n,ok⟩:=r;unfold ZX at hr;have hl:=(zed s 59).1
 refine spH Tryz.func209 (by kernel_rfl) { keep:=some [0,2,3,4,7,8]} [VZ,VY,zns,znr,zel,zek] (by kernel_rfl) ?_
 intro I X hI hX
 refine orcL ?_;go_invoke;refine orcS (by kernel_rfl) ?_
 simp only [zi,Nat.reduceAdd];subst hI;simp only [nrmA,nrmB,nrlB,reduceCtorEq];rw [hr];cases ok
 all_goals(repeat' (first|refine ja ?_ ?_|intro _))<;>first|omega|exact jb|exact jc ‹False›|skip
 all_goals first
  |exact hneed
  |trivial
  |omega
  |(simp at *;done)
def zim:Know Tryz.prog:=⟨209,ZB,zbf⟩
def zil:Know Tryz.prog:=⟨209,fun I=>zu I (ZB I),zf zbf⟩
def VQ (I:Alg):KU
 |[.v (.one (.ptr 0 0)),.v (.one (.p (.str s)))],[.pack [.obj 228 [.ptr 1 0,.p (.int .i64 p),.p (.int .i64 l),.p (.int .i64 a),.p (.int .i64 t),.p (.int .i64 c)],.pack [.obj 207 [.row 1,.p (.bool lc),.p (.int .i64 lo)],.row .byte 5 lb]]]=>(fun(lb s:Str)=>(some (.one ⟨I.hid (s.length≤1000000∧(0≤a∧a≤1000000)∧0≤t∧t≤1000000),(.ret (.v (.one (.p (.int .i64 (I.hid ((chL ⟨⟨lb,lc,lo⟩,p,l,a,t,c⟩ s).2))))))),[.pack [.obj 228 [.ptr 1 0,.p (.int .i64 (I.hid ((chL ⟨⟨lb,lc,lo⟩,p,l,a,t,c⟩ s).1.pos))),.p (.int .i64 (I.hid ((chL ⟨⟨lb,lc,lo⟩,p,l,a,t,c⟩ s).1.left))),.p (.int .i64 (I.hid ((chL ⟨⟨lb,lc,lo⟩,p,l,a,t,c⟩ s).1.all))),.p (.int .i64 (I.hid ((chL ⟨⟨lb,lc,lo⟩,p,l,a,t,c⟩ s).1.tails))),.p (.int .i64 c)],.pack [.obj 207 [.row 1,.p (.bool lc),.p (.int .i64 lo)],.row .byte 5 lb]]]⟩):Option CT)) lb s
 |_,_=>none
set_option maxHeartbeats 4000000 in
theorem zgV:zx Tryz.prog 168 (VQ alg):=by
 intro args hp r h;unfold VQ at h;split at h<;>cases h
 rename_i s p l a t c lc lo lb;simp only [CT.Good,zh];intro hneed;obtain⟨hs,⟨ha0,ha1⟩,ht0,ht1⟩:=hneed;generalize hr:chL ⟨⟨lb,lc,lo⟩,p,l,a,t,c⟩ s=r;unfold chL at hr;simp only at hr;have hsz:=U7 s
 have hsz2:(ZX s).2=false∨(ZX s).2=true:=by cases(ZX s).2<;>simp
 obtain⟨⟨⟨rb,rc,ro⟩,rp,rl,ra,rt,rc2⟩,re⟩:=r
 refine spH Tryz.func168 (by kernel_rfl) { zsz with keep:=some [0,1,4,5,6,8,12]} [WS,WR,zim,zil] (by kernel_rfl) ?_
 intro I X hI hX
 refine orcL ?_;go_invoke;refine orcS (by kernel_rfl) ?_
 simp only [zi,Nat.reduceAdd];subst hI;simp only [nrmA,nrmB,nrlB,reduceCtorEq,HO.pack.injEq,HO.obj.injEq];generalize ZX s=z at *;obtain⟨n,ok⟩:=z;simp only at *;cases ok
 all_goals simp only [jd,if_false,if_true] at *
 all_goals(repeat' (first|refine ja ?_ ?_|intro _))<;>first|omega|exact jb|exact jc ‹False›|skip
 all_goals first
  |exact hs
  |omega
  |(exfalso;simp at *;done)
  |(((repeat(first|rewrite [if_pos (by first|omega|assumption|(simp only [*,or_self,or_true,true_or,or_false,false_or,jf,jg,jd,je,and_self,and_true,true_and];done)|(simp only [*];omega)|(simp [*];done)|(simp [*];omega))] at hr|rewrite [if_neg (by first|omega|assumption|(simp only [*,or_self,or_true,true_or,or_false,false_or,jf,jg,jd,je,and_self,and_true,true_and];done)|(simp only [*];omega)|(simp [*];done)|(simp [*];omega))] at hr)));cases hr;first|rfl|done|with_reducible assumption|exact⟨rfl,rfl,rfl⟩|(simp;done)|(simp;omega))
def zp4:Know Tryz.prog:=⟨168,VQ,zgV⟩
def zp3:Know Tryz.prog:=⟨168,fun I=>zu I (VQ I),zf zgV⟩
theorem zk9 (s:Ch) (t:Str):(chL s t).1.ln=s.ln∧(chL s t).1.code=s.code:=by
 unfold chL
 split
 · split<;>exact⟨rfl,rfl⟩
 split
 · split
   · exact⟨rfl,rfl⟩
   split
   · exact⟨rfl,rfl⟩
   split<;>exact⟨rfl,rfl⟩
 split
 · split
   · exact⟨rfl,rfl⟩
   split<;>exact⟨rfl,rfl⟩
 · exact⟨rfl,rfl⟩
def VT (I:Alg):KU
 |[.v (.one (.ptr 0 0)),.v (.one (.p (.int .u8 k)))],[.pack [.obj 228 [.ptr 1 0,.p (.int .i64 p),.p (.int .i64 l),.p (.int .i64 a),.p (.int .i64 t),.p (.int .i64 c)],.pack [.obj 207 [.row 1,.p (.bool lc),.p (.int .i64 lo)],.row .byte 5 lb]]]=>(fun(lb:Str)=>(some (.one ⟨I.hid ((0≤k∧k≤255)∧lb.length≤1000000∧(-1000000≤l∧l≤100000000)∧(0≤a∧a≤1000000)∧0≤t∧t≤1000000),(.ret (.tup [.one (.row 1),.one (.p (.bool (I.hid ((chF ⟨⟨lb,lc,lo⟩,p,l,a,t,c⟩ (UInt8.ofNat k.toNat)).2.2.1)))),.one (.p (.int .i64 (I.hid ((chF ⟨⟨lb,lc,lo⟩,p,l,a,t,c⟩ (UInt8.ofNat k.toNat)).2.2.2))))])),[.pack [.obj 228 [.ptr 1 0,.p (.int .i64 (I.hid ((chF ⟨⟨lb,lc,lo⟩,p,l,a,t,c⟩ (UInt8.ofNat k.toNat)).1.pos))),.p (.int .i64 (I.hid ((chF ⟨⟨lb,lc,lo⟩,p,l,a,t,c⟩ (UInt8.ofNat k.toNat)).1.left))),.p (.int .i64 (I.hid ((chF ⟨⟨lb,lc,lo⟩,p,l,a,t,c⟩ (UInt8.ofNat k.toNat)).1.all))),.p (.int .i64 (I.hid ((chF ⟨⟨lb,lc,lo⟩,p,l,a,t,c⟩ (UInt8.ofNat k.toNat)).1.tails))),.p (.int .i64 (I.hid ((chF ⟨⟨lb,lc,lo⟩,p,l,a,t,c⟩ (UInt8.ofNat k.toNat)).1.code)))],.pack [.obj 207 [.row 1,.p (.bool (I.hid ((chF ⟨⟨lb,lc,lo⟩,p,l,a,t,c⟩ (UInt8.ofNat k.toNat)).1.ln.cr))),.p (.int .i64 (I.hid ((chF ⟨⟨lb,lc,lo⟩,p,l,a,t,c⟩ (UInt8.ofNat k.toNat)).1.ln.code)))],.row .byte 5 (I.hid ((chF ⟨⟨lb,lc,lo⟩,p,l,a,t,c⟩ (UInt8.ofNat k.toNat)).1.ln.b))]],.row .byte 5 (I.hid ((chF ⟨⟨lb,lc,lo⟩,p,l,a,t,c⟩ (UInt8.ofNat k.toNat)).2.1))]⟩):Option CT)) lb
 |_,_=>none
set_option maxHeartbeats 8000000 in
theorem zgW:zx Tryz.prog 119 (VT alg):=by
 intro args hp r h;unfold VT at h;split at h<;>cases h
 rename_i k p l a t c lc lo lb;simp only [CT.Good,zh];intro hneed;obtain⟨⟨hk0,hk1⟩,hlb,⟨hl0,hl1⟩,⟨ha0,ha1⟩,ht0,ht1⟩:=hneed;generalize hr:chF ⟨⟨lb,lc,lo⟩,p,l,a,t,c⟩ (UInt8.ofNat k.toNat)=r;unfold chF at hr;simp only at hr;have hkeep:=zk9 ⟨(lnF ⟨lb,lc,lo⟩ (UInt8.ofNat k.toNat)).1,p,l,a,t,c⟩ (lnF ⟨lb,lc,lo⟩ (UInt8.ofNat k.toNat)).2.1;have hlen:=Yg ⟨lb,lc,lo⟩ (UInt8.ofNat k.toNat);obtain⟨⟨⟨rb,rc,ro⟩,rp,rl,ra,rt,rc2⟩,rd,ris,re⟩:=r
 refine spH Tryz.func119 (by kernel_rfl) { zsz with nr:=[4],keep:=some [0,1,4,5,6,7,8,9]} [sO,sN,zp6,zp5,zp4,zp3] (by kernel_rfl) ?_
 intro I X hI hX
 refine orcL ?_;go_invoke;refine orcS (by kernel_rfl) ?_
 simp only [zi,Nat.reduceAdd];subst hI;simp only [nrmA,nrmB,nrlB,reduceCtorEq,HO.pack.injEq,HO.obj.injEq];generalize lnF ⟨lb,lc,lo⟩ (UInt8.ofNat k.toNat)=q at *;obtain⟨⟨qb,qc,qo⟩,qs,qis,qe⟩:=q;simp only at *;generalize chL ⟨⟨qb,qc,qo⟩,p,l,a,t,c⟩ qs=z at *;obtain⟨⟨⟨zb,zc,zo⟩,zp,zl,za,zt,zk⟩,ze⟩:=z;simp only [Ln.mk.injEq] at *;obtain⟨⟨rfl,rfl,rfl⟩,rfl⟩:=hkeep;cases qis
 all_goals simp only [jd,if_false,if_true] at *
 all_goals(repeat' (first|refine ja ?_ ?_|intro _))<;>first|omega|exact jb|exact jc ‹False›|skip
 all_goals first
  |omega
  |(exfalso;simp at *;done)
  |(((repeat(first|rewrite [if_pos (by first|omega|assumption|(simp only [*,or_self,or_true,true_or,or_false,false_or,jf,jg,jd,je,and_self,and_true,true_and];done)|(simp only [*];omega)|(simp [*];done)|(simp [*];omega))] at hr|rewrite [if_neg (by first|omega|assumption|(simp only [*,or_self,or_true,true_or,or_false,false_or,jf,jg,jd,je,and_self,and_true,true_and];done)|(simp only [*];omega)|(simp [*];done)|(simp [*];omega))] at hr)));cases hr;first|rfl|done|with_reducible assumption|exact⟨rfl,rfl,rfl⟩|(simp;done)|(simp;omega))
def VS:Know Tryz.prog:=⟨119,VT,zgW⟩
def VR:Know Tryz.prog:=⟨119,fun I=>zu I (VT I),zf zgW⟩
end Go.Proofs.YtkjepecoodjbmaaGreatDoor
namespace Go.Proofs.YtkjepecoodjbmaaGreatDoor
open Go Go.Sep Go.Ab
set_option maxRecDepth 100000
theorem zos: ∀ (s:Str) (n:Int),0≤n→(numG 16 n s).1+1≤(n+1) * 16 ^ s.length
 |[],n,h=>by simp [numG]
 | c ::l,n,h=>by
   have h16:(0:Int)<16 ^ l.length:=Int.pow_pos (by decide)
   have e:((n+1) * 16 ^ (c::l).length:Int)=((n+1) * 16) * 16 ^ l.length:=by rw [jh,Int.pow_succ,Int.mul_assoc,Int.mul_comm (16 ^ l.length) 16]
   rw [e,numG]
   split
   · have h1:(1:Int) * 1≤((n+1) * 16) * 16 ^ l.length:=Int.mul_le_mul (by omega) (by omega) (by decide) (by omega)
     simpa using h1
   · rename_i hc
     have h2:=zos l (n * 16+hexK c.toNat) (by omega)
     exact Int.le_trans h2 (Int.mul_le_mul_of_nonneg_right (by omega) (by omega))
theorem zqU (t:Str):(ZX t).1≤16777215:=by
 unfold ZX numA
 split
 · exact by decide
 · rename_i h
   have h1:=zos (Lib.trimS (cutB t 59).1 [32,9]) 0 (Int.le_refl _)
   have h2:(Lib.trimS (cutB t 59).1 [32,9]).length≤6:=by omega
   have h3:(16:Int) ^ (Lib.trimS (cutB t 59).1 [32,9]).length≤16 ^ 6:=by
    have:=Nat.pow_le_pow_right (show 0<16 by decide) h2
    exact_mod_cast this
   have h4:(16:Int) ^ 6=16777216:=by decide
   omega
structure ChI (s:Ch) (i:Nat):Prop where
 b:s.ln.b.length≤i
 a0:0≤s.all
 a1:s.all≤i
 t0:0≤s.tails
 t1:s.tails≤i
 l0: -(i:Int)≤s.left
 l1:s.left≤16777215
theorem zwA:ChI ch0 0:=⟨by decide,by decide,by decide,by decide,by decide,by decide,by decide⟩
theorem zxf {s:Ch} {i:Nat} (h:ChI s i) (c:UInt8):ChI (chF s c).1 (i+1):=by
 have hb:=zrK s.ln c;have h0:=h;obtain⟨h1,h2,h3,h4,h5,h6,h7⟩:=h;unfold chF
 split
 · exact⟨by show s.ln.b.length≤i+1;omega,h2,by show s.all≤_;omega,h4,by show s.tails≤_;omega,by show _≤s.left;omega,h7⟩
 split
 · constructor<;>simp only<;>omega
 split
 · constructor<;>simp only<;>omega
 split
 · constructor<;>simp only<;>omega
 split
 · have hl: ∀ t,(chL { s with ln:=(lnF s.ln c).1} t).1.ln=(lnF s.ln c).1:=fun t=>(zk9 _ _).1
   have key: ∀ t,ChI (chL { s with ln:=(lnF s.ln c).1} t).1 (i+1):=fun t=>by
    have hz:=U7 t;have hz2:=zqU t;unfold chL
    repeat' split
    all_goals constructor
    all_goals simp only
    all_goals omega
   split
   · obtain⟨k1,k2,k3,k4,k5,k6,k7⟩:=key (lnF s.ln c).2.1
     exact⟨k1,k2,k3,k4,k5,k6,k7⟩
   · exact key _
 · constructor<;>simp only<;>omega
theorem zla {s:Ch} {i:Nat} (h:ChI s i) (hi:i≤1000000):s.ln.b.length≤1000000∧(-1000000≤s.left∧s.left≤100000000)∧(0≤s.all∧s.all≤1000000)∧0≤s.tails∧s.tails≤1000000:=by
 obtain⟨h1,h2,h3,h4,h5,h6,h7⟩:=h;omega
theorem zeh {s:Ch} {i j:Nat} (h:ChI s i) (k:i≤j):ChI s j:=by
 obtain⟨h1,h2,h3,h4,h5,h6,h7⟩:=h
 exact⟨by omega,h2,by omega,h4,by omega,by omega,h7⟩
end Go.Proofs.YtkjepecoodjbmaaGreatDoor
