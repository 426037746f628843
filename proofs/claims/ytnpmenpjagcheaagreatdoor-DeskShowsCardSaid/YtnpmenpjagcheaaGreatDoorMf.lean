/- Texts of this proof, one behind the other: PrtA PrtB GatK PrtC PrtD PrtI PrtE DskB DskP DskU DskT DskV DskY DskZ DskA DskX DskQ. -/
import Derived.Test.YtnpmenpjagcheaaGreatDoorMe
set_option linter.all false
namespace Go.Proofs.YtnpmenpjagcheaaGreatDoor
open Go Go.Sep Go.Ab
set_option maxRecDepth 100000
def Y0 (I:Alg):KU
 |[.v (.one (.ptr 0 0))],[.obj 72 [.ptr 1 0,.ptr 2 0,.ptr 3 0,.ptr 4 0,.ptr 5 0],.pack [.obj 78 [.ptr 1 0,.ptr 2 0],.pack [.obj 106 [.row 1,.p (.int .i64 n)],.row .upl 82 l],.pack [.obj 108 [.row 1,.p (.int .i64 s)],.row .byte 5 b]],.abs (.cn c0),.abs (.cn c1),.abs (.cn c2),.abs (.cn c3)]=>(fun(l:List Upl) (b:Str)=>(some (.one ⟨I.hid (True),(.ret (.tup [])),[.obj 72 [.ptr 1 0,.ptr 6 0,.ptr 7 0,.ptr 8 0,.ptr 9 0],.pack [.obj 78 [.ptr 1 0,.ptr 2 0],.pack [.obj 106 [.row 1,.p (.int .i64 n)],.row .upl 82 l],.pack [.obj 108 [.row 1,.p (.int .i64 s)],.row .byte 5 b]],.abs (.cn c0),.abs (.cn c1),.abs (.cn c2),.abs (.cn c3),.abs (.cn cn0),.abs (.cn cn0),.abs (.cn cn0),.abs (.cn cn0)]⟩):Option CT)) l b
 |_,_=>none
theorem zcM:zq Tryz.prog 35 (Y0 alg):=by
 intro args hp r h;unfold Y0 at h;split at h<;>cases h
 rename_i n l s b c0 c1 c2 c3
 revert l;intro(l:List Upl)
 simp only [CT.Good,zh];intro _
 refine spH Tryz.func35 (by kernel_rfl) { cfgG with keep:=some [0,2,3]} [YL,YK,Y2,Y1] (by kernel_rfl) ?_
 intro I X hI hX
 refine orcL ?_;go_invoke;refine orcS (by kernel_rfl) ?_
 simp only [zi,Nat.reduceAdd]
 refine lpH hI [YL,YK,Y2,Y1] hX [0,3] (fun i:Nat=>i≤4) (fun i:Nat=>match i with
  |0=>⟨[(0,.v (.one (.ptr 0 0))),(3,.v (.one (.p (.int .i64 0))))],[.obj 72 [.ptr 1 0,.ptr 2 0,.ptr 3 0,.ptr 4 0,.ptr 5 0],.pack [.obj 78 [.ptr 1 0,.ptr 2 0],.pack [.obj 106 [.row 1,.p (.int .i64 n)],.row .upl 82 l],.pack [.obj 108 [.row 1,.p (.int .i64 s)],.row .byte 5 b]],.abs (.cn c0),.abs (.cn c1),.abs (.cn c2),.abs (.cn c3)],15,none⟩
  |1=>⟨[(0,.v (.one (.ptr 0 0))),(3,.v (.one (.p (.int .i64 1))))],[.obj 72 [.ptr 1 0,.ptr 6 0,.ptr 3 0,.ptr 4 0,.ptr 5 0],.pack [.obj 78 [.ptr 1 0,.ptr 2 0],.pack [.obj 106 [.row 1,.p (.int .i64 n)],.row .upl 82 l],.pack [.obj 108 [.row 1,.p (.int .i64 s)],.row .byte 5 b]],.abs (.cn c0),.abs (.cn c1),.abs (.cn c2),.abs (.cn c3),.abs (.cn cn0)],15,none⟩
  |2=>⟨[(0,.v (.one (.ptr 0 0))),(3,.v (.one (.p (.int .i64 2))))],[.obj 72 [.ptr 1 0,.ptr 6 0,.ptr 7 0,.ptr 4 0,.ptr 5 0],.pack [.obj 78 [.ptr 1 0,.ptr 2 0],.pack [.obj 106 [.row 1,.p (.int .i64 n)],.row .upl 82 l],.pack [.obj 108 [.row 1,.p (.int .i64 s)],.row .byte 5 b]],.abs (.cn c0),.abs (.cn c1),.abs (.cn c2),.abs (.cn c3),.abs (.cn cn0),.abs (.cn cn0)],15,none⟩
  |3=>⟨[(0,.v (.one (.ptr 0 0))),(3,.v (.one (.p (.int .i64 3))))],[.obj 72 [.ptr 1 0,.ptr 6 0,.ptr 7 0,.ptr 8 0,.ptr 5 0],.pack [.obj 78 [.ptr 1 0,.ptr 2 0],.pack [.obj 106 [.row 1,.p (.int .i64 n)],.row .upl 82 l],.pack [.obj 108 [.row 1,.p (.int .i64 s)],.row .byte 5 b]],.abs (.cn c0),.abs (.cn c1),.abs (.cn c2),.abs (.cn c3),.abs (.cn cn0),.abs (.cn cn0),.abs (.cn cn0)],15,none⟩
  |_=>⟨[(0,.v (.one (.ptr 0 0))),(3,.v (.one (.p (.int .i64 4))))],[.obj 72 [.ptr 1 0,.ptr 6 0,.ptr 7 0,.ptr 8 0,.ptr 9 0],.pack [.obj 78 [.ptr 1 0,.ptr 2 0],.pack [.obj 106 [.row 1,.p (.int .i64 n)],.row .upl 82 l],.pack [.obj 108 [.row 1,.p (.int .i64 s)],.row .byte 5 b]],.abs (.cn c0),.abs (.cn c1),.abs (.cn c2),.abs (.cn c3),.abs (.cn cn0),.abs (.cn cn0),.abs (.cn cn0),.abs (.cn cn0)],15,none⟩) (fun i:Nat=>4 - i) 0 (by kernel_rfl) (by kernel_rfl) ?_ ?_
 · exact jM _
 rintro i h1 A hA
 obtain rfl|rfl|rfl|rfl|rfl:i=0∨i=1∨i=2∨i=3∨i=4:=by omega
 all_goals
  refine orcL ?_;go_invoke;refine orcS (by kernel_rfl) ?_
  simp only [zi,Nat.reduceAdd];subst hI;refine⟨fun c=> ?_,fun c=> ?_⟩
  all_goals first
   |exact absurd c (by decide)
   |exact⟨jb,by show IntKind.i64.min≤_∧_;decide,hA 1 (by decide) (by decide),jb⟩
   |exact⟨jb,by show IntKind.i64.min≤_∧_;decide,hA 2 (by decide) (by decide),jb⟩
   |exact⟨jb,by show IntKind.i64.min≤_∧_;decide,hA 3 (by decide) (by decide),jb⟩
   |exact⟨jb,by show IntKind.i64.min≤_∧_;decide,hA 4 (by decide) (by decide),jb⟩
   |exact⟨jb,jb⟩
def zm5:Know Tryz.prog:=⟨35,Y0,zcM⟩
def zm4:Know Tryz.prog:=⟨35,fun I=>zu I (Y0 I),zf zcM⟩
def cfgP:Cfg:= { sl:=cfgG.sl++[⟨58,1,.int,some 3⟩,⟨78,1000001,.byte,none⟩]}
def zeb (I:Alg):KU
 |[],[]=>some (.one ⟨I.hid (True),(.ret (.v (.one (.ptr 0 0)))),[.pack [.obj 58 [.ptr 1 0,.row 7],.obj 72 [.ptr 2 0,.ptr 3 0,.ptr 4 0,.ptr 5 0,.ptr 6 0],.pack [.obj 78 [.ptr 1 0,.ptr 2 0],.pack [.obj 106 [.row 1,.p (.int .i64 0)],.row .upl 82 (I.hid ([]))],.pack [.obj 108 [.row 1,.p (.int .i64 0)],.row .byte 5 (I.hid ([]))]],.abs (.cn cn0),.abs (.cn cn0),.abs (.cn cn0),.abs (.cn cn0),.row .int 3 (I.hid ([]))]]⟩)
 |_,_=>none
theorem zpA:zq Tryz.prog 14 (zeb alg):=by
 intro args hp r h;unfold zeb at h;split at h<;>cases h
 simp only [CT.Good,zh];intro _
 refine spH Tryz.func14 (by kernel_rfl) { cfgP with keep:=some [0]} [zog,zof,zwE,zwD] (by kernel_rfl) ?_
 intro I X hI hX
 refine orcL ?_;go_invoke;refine orcS (by kernel_rfl) ?_
 simp only [zi,Nat.reduceAdd];subst hI;simp only [nrmA,nrmB,nrlB,reduceCtorEq,HO.pack.injEq,HO.obj.injEq]
def zv0:Know Tryz.prog:=⟨14,zeb,zpA⟩
def zvZ:Know Tryz.prog:=⟨14,fun I=>zu I (zeb I),zf zpA⟩
theorem zvM {q:Sto} {id:Int} (h: ¬ wsC q (begE id)=0) (t:List Int):Z5 q id=wsS q (begE id)∧Ux q id=⟨wsC q (begE id),[],[]⟩∧zfF q id t=t:=by
 unfold Ux zfF Z5;rw [if_pos h,if_pos h,if_pos h];exact⟨rfl,rfl,rfl⟩
theorem zsA {q:Sto} {id:Int} (h:wsC q (begE id)=0) (t:List Int):Z5 q id=syS (wsS q (begE id))∧Ux q id=⟨rqwC zbT (zmv id) (zov (getU (wsS q (begE id)).l id).note) (getU (wsS q (begE id)).l id).bytes,[],rqwT zbT (zmv id) (zov (getU (wsS q (begE id)).l id).note) (getU (wsS q (begE id)).l id).bytes⟩∧zfF q id t=t++[id]:=by
 have e:Z5 q id=syS (wsS q (begE id)):=by unfold Z5;rw [if_neg (fun k=>k h)]
 unfold Ux zfF zow;rw [e,if_neg (fun k=>k h),if_neg (fun k=>k h)];exact⟨rfl,rfl,rfl⟩
theorem ztD {l:List Upl} {n:Int} (h:zI l n) (id:Int):(getU l id).note.length≤100∧(getU l id).bytes.length≤2000:=by
 unfold getU
 split
 · rename_i hk
   have:=h.each _ (wZ hk);exact⟨this.nl,this.bl⟩
 · exact⟨jM _,jM _⟩
theorem zqp: ∀ f ∈ [zqq],f.name.length≤1000000∧f.value.length≤1000000:=by decide
theorem zvL {x:Str} (h:x.length≤100): ∀ f ∈ [zqq]++[⟨zmr,x⟩],f.name.length≤1000000∧f.value.length≤1000000:=fun f hf=>by
 rcases List.mem_append.1 hf with k|k
 · exact zqp f k
 · rw [List.mem_singleton.1 k];exact⟨by show zmr.length≤_;decide,by show x.length≤_;omega⟩
theorem zjC: ∀ f n,∀ x ∈ txtN 10 f n,x.toNat<128
 |0,n=>fun x h=>by cases h
 | f +1,n=>fun x h=>by
   have hd: ∀ d,d<10→(dgN d).toNat<128:=fun d h=>(by decide+kernel: ∀ d:Fin 10,(dgN d.1).toNat<128) ⟨d,h⟩
   by_cases hn:n<10
   · rw [zdr hn] at h
     rw [List.mem_singleton.1 h];exact hd n hn
   · rw [zfm hn] at h
     rcases List.mem_append.1 h with h|h
     · exact zjC f _ x h
     · rw [List.mem_singleton.1 h];exact hd _ (Nat.mod_lt _ (by decide))
theorem zsh (id:Int): ∀ x ∈ zmv id,x.toNat<128:=fun x h=>by
 rcases List.mem_append.1 h with h|h
 · exact(by decide: ∀ x ∈ ([47,116,97,107,101,47]:Str),x.toNat<128) x h
 · exact zjC 9 id.toNat x h
def Qi (I:Alg):KU
 |[.v (.one (.ptr 0 0)),.v (.one (.p (.int .i64 id)))],[.pack [.obj 58 [.ptr 1 0,.row 7],.obj 72 [.ptr 2 0,.ptr 3 0,.ptr 4 0,.ptr 5 0,.ptr 6 0],.pack [.obj 78 [.ptr 1 0,.ptr 2 0],.pack [.obj 106 [.row 1,.p (.int .i64 n)],.row .upl 82 l],.pack [.obj 108 [.row 1,.p (.int .i64 s)],.row .byte 5 b]],.abs (.cn c0),.abs (.cn c1),.abs (.cn c2),.abs (.cn c3),.row .int 3 t]]=>(fun(l:List Upl) (b:Str) (t:List Int)=>(some (.one ⟨I.hid (zI l n∧n≤200000∧b.length≤100000∧t.length≤1000000),(.ret (.v (.agg [.p (.int .i64 (I.hid ((Ux ⟨l,n,b,s⟩ id).c))),.p (.list .byte (I.hid ([]))),.p (.list .byte (I.hid ((Ux ⟨l,n,b,s⟩ id).u)))]))),[.pack [.obj 58 [.ptr 1 0,.row 7],.obj 72 [.ptr 2 0,.ptr 3 0,.ptr 4 0,.ptr 5 0,.ptr 6 0],.pack [.obj 78 [.ptr 1 0,.ptr 2 0],.pack [.obj 106 [.row 1,.p (.int .i64 (I.hid ((Z5 ⟨l,n,b,s⟩ id).n)))],.row .upl 82 (I.hid ((Z5 ⟨l,n,b,s⟩ id).l))],.pack [.obj 108 [.row 1,.p (.int .i64 (I.hid ((Z5 ⟨l,n,b,s⟩ id).s)))],.row .byte 5 (I.hid ((Z5 ⟨l,n,b,s⟩ id).b))]],.abs (.cn c0),.abs (.cn c1),.abs (.cn c2),.abs (.cn c3),.row .int 3 (I.hid (zfF ⟨l,n,b,s⟩ id t))]]⟩):Option CT)) l b t
 |_,_=>none
set_option maxHeartbeats 4000000 in
theorem zkH:zq Tryz.prog 63 (Qi alg):=by
 intro args hp r h;unfold Qi at h;split at h<;>cases h
 rename_i id n l s b c0 c1 c2 c3 t
 revert l t;intro(l:List Upl) (t:List Int)
 simp only [CT.Good,zh];intro hneed;obtain⟨hs,hn,hb,ht⟩:=hneed;have h0:=fun h=>zvM (q:=⟨l,n,b,s⟩) (id:=id) h t;have h1:=fun h=>zsA (q:=⟨l,n,b,s⟩) (id:=id) h t
 have hid:wsC ⟨l,n,b,s⟩ (begE id)=0→0≤id∧id≤n:=fun h=>by
  obtain⟨k,_⟩:=zsB h;have:=hs.ids _ (at_mem k)
  have e:=SY (l:=l) (id:=id) (by simpa using k)
  omega
 have hw:=zaf hs b (begE id);have hg:=ztD hw id;generalize Z5 ⟨l,n,b,s⟩ id=Q at *;generalize Ux ⟨l,n,b,s⟩ id=O at *;generalize zfF ⟨l,n,b,s⟩ id t=L at *;unfold wsC wsS syS at *
 refine spH Tryz.func63 (by kernel_rfl) { cfgP with fz:=[82],keep:=some [0,1,4,5,6,8,9,10]} [Zh,Zg,XA,Xz,zh0,zhZ,zK,zJ,qH,qG,zij,zii] (by kernel_rfl) ?_
 intro I X hI hX
 refine orcL ?_;go_invoke;refine orcS (by kernel_rfl) ?_
 simp only [zi,Nat.reduceAdd];subst hI;simp only [nrmA,nrmB,nrlB,reduceCtorEq,HO.pack.injEq,HO.obj.injEq];rw [show(⟨5,id,0,[]⟩:Ent)=begE id from rfl];dsimp only at *;have hd:=yE id;generalize wrtC l n b (begE id)=C at *;generalize wrtL l n b (begE id)=l' at *;generalize wrtN l n b (begE id)=n' at *;generalize wrtB l n b (begE id)=b' at *;generalize getU l' id=u at *
 by_cases hC:C=0
 · have h1:=h1 hC
   have hid:=hid hC;obtain⟨e1,e2,e3⟩:=h1;subst e1 e2 e3;have hF0:=zqp;have hF1:=zvL hg.1;have hta:=zsh id;unfold zov zmv zqq zmr zbT at *;dsimp only
   (repeat' (first|refine ja ?_ ?_|intro _))<;>first|omega|exact jb|exact jc ‹False›|skip
   all_goals first
    |omega
    |exact hw
    |(simp only [jk,jh,ji];omega)
    |exact hta _ ‹_›
    |exact(hF1 _ ‹_›).1
    |exact(hF1 _ ‹_›).2
    |exact(hF0 _ ‹_›).1
    |exact(hF0 _ ‹_›).2
    |(rw [if_neg ‹¬ u.note=[]›];done)
    |(rw [if_neg ‹¬ u.note=[]›];rfl)
    |(rw [if_pos ‹u.note=[]›];done)
    |(rw [if_pos ‹u.note=[]›];rfl)
    |rfl
 · have h0:=h0 hC
   obtain⟨e1,e2,e3⟩:=h0;subst e1 e2 e3;dsimp only
   (repeat' (first|refine ja ?_ ?_|intro _))<;>first|omega|exact jb|exact jc ‹False›|skip
   all_goals rfl
def zte:Know Tryz.prog:=⟨63,Qi,zkH⟩
def ztd:Know Tryz.prog:=⟨63,fun I=>zu I (Qi I),zf zkH⟩
end Go.Proofs.YtnpmenpjagcheaaGreatDoor
namespace Go.Proofs.YtnpmenpjagcheaaGreatDoor
open Go Go.Sep Go.Ab
set_option maxRecDepth 100000
def PdN (g:GS) (t:List Int) (x:Stp):Prop:=∃ (N:Nat) (m:Int),GsI g m N∧N+x.bytes.length≤30000∧25000≤m∧m+12 * x.bytes.length≤199980∧t.length≤1000000
theorem kinds (k:Int):k=1∨k=2∨k=3∨k=4∨k=5∨(k≠1∧k≠2∧k≠3∧k≠4∧k≠5):=by omega
theorem zzM (j:Int):j=0∨j=1∨j=2∨j=3∨(∃ i:Nat,j=Int.negSucc i)∨(∃ i:Nat,j=Int.ofNat (i+4)):=by
 rcases Classical.em (j<0∨4≤j) with h|h
 · exact .inr (.inr (.inr (.inr (outK h))))
 · omega
theorem zvN (q:Sto) (id:Int):(Ux q id).b=[]:=by unfold Ux;split<;>rfl
def zkM (I:Alg):KU
 |[.v (.one (.ptr 0 0)),.v (.agg [.p (.int .i64 k),.p (.int .i64 j),.p (.int .i64 m),.p (.list .byte x)])],[.pack [.obj 58 [.ptr 1 0,.row 7],.obj 72 [.ptr 2 0,.ptr 3 0,.ptr 4 0,.ptr 5 0,.ptr 6 0],.pack [.obj 78 [.ptr 1 0,.ptr 2 0],.pack [.obj 106 [.row 1,.p (.int .i64 n)],.row .upl 82 l],.pack [.obj 108 [.row 1,.p (.int .i64 s)],.row .byte 5 b]],.abs (.cn c0),.abs (.cn c1),.abs (.cn c2),.abs (.cn c3),.row .int 3 t]]=>(fun(l:List Upl) (b:Str) (t:List Int) (x:Str)=>(some (.one ⟨I.hid (PdN ⟨⟨l,n,b,s⟩,c0,c1,c2,c3⟩ t ⟨k,j,m,x⟩),(.ret (.v (.agg [.p (.int .i64 (I.hid ((doO ⟨⟨l,n,b,s⟩,c0,c1,c2,c3⟩ ⟨k,j,m,x⟩).c))),.p (.list .byte (I.hid ((doO ⟨⟨l,n,b,s⟩,c0,c1,c2,c3⟩ ⟨k,j,m,x⟩).b))),.p (.list .byte (I.hid ((doO ⟨⟨l,n,b,s⟩,c0,c1,c2,c3⟩ ⟨k,j,m,x⟩).u)))]))),[.pack [.obj 58 [.ptr 1 0,.row 7],.obj 72 [.ptr 2 0,.ptr 3 0,.ptr 4 0,.ptr 5 0,.ptr 6 0],.pack [.obj 78 [.ptr 1 0,.ptr 2 0],.pack [.obj 106 [.row 1,.p (.int .i64 (I.hid ((doP ⟨⟨⟨l,n,b,s⟩,c0,c1,c2,c3⟩,t⟩ ⟨k,j,m,x⟩).g.q.n)))],.row .upl 82 (I.hid ((doP ⟨⟨⟨l,n,b,s⟩,c0,c1,c2,c3⟩,t⟩ ⟨k,j,m,x⟩).g.q.l))],.pack [.obj 108 [.row 1,.p (.int .i64 (I.hid ((doP ⟨⟨⟨l,n,b,s⟩,c0,c1,c2,c3⟩,t⟩ ⟨k,j,m,x⟩).g.q.s)))],.row .byte 5 (I.hid ((doP ⟨⟨⟨l,n,b,s⟩,c0,c1,c2,c3⟩,t⟩ ⟨k,j,m,x⟩).g.q.b))]],.abs (.cn (I.hid ((doP ⟨⟨⟨l,n,b,s⟩,c0,c1,c2,c3⟩,t⟩ ⟨k,j,m,x⟩).g.c0))),.abs (.cn (I.hid ((doP ⟨⟨⟨l,n,b,s⟩,c0,c1,c2,c3⟩,t⟩ ⟨k,j,m,x⟩).g.c1))),.abs (.cn (I.hid ((doP ⟨⟨⟨l,n,b,s⟩,c0,c1,c2,c3⟩,t⟩ ⟨k,j,m,x⟩).g.c2))),.abs (.cn (I.hid ((doP ⟨⟨⟨l,n,b,s⟩,c0,c1,c2,c3⟩,t⟩ ⟨k,j,m,x⟩).g.c3))),.row .int 3 (I.hid ((doP ⟨⟨⟨l,n,b,s⟩,c0,c1,c2,c3⟩,t⟩ ⟨k,j,m,x⟩).t))]]⟩):Option CT)) l b t x
 |_,_=>none
set_option maxHeartbeats 8000000 in
theorem zuM:zq Tryz.prog 47 (zkM alg):=by
 intro args hp r h;unfold zkM at h;split at h<;>cases h
 rename_i k j m x n l s b c0 c1 c2 c3 t
 revert l t;intro(l:List Upl) (t:List Int)
 simp only [CT.Good,zh];intro hneed;obtain⟨N,M,hg,hx,hM0,hM,ht⟩:=hneed;have hs:=hg.q.1;have hb:=hg.q.2.1;have hn:n≤M:=hg.q.2.2.1;have hs0:0≤s:=hg.q.2.2.2.1;have hs1:s≤b.length:=hg.q.2.2.2.2
 have hF: ∀ {c:Cn},CnI c N→FdN ⟨l,n,b,s⟩ c x∧FOk c.h.fields∧c.body.length≤100000:=fun h=>⟨⟨N,M,hg.q,h,hx,hM⟩,h.2.1,by have:=h.2.2.1;dsimp only at hx;omega⟩
 have f0:=hF hg.c0;have f1:=hF hg.c1;have f2:=hF hg.c2;have f3:=hF hg.c3;dsimp only at hs hb hx hM f0 f1 f2 f3;clear hF;generalize hO:doO ⟨⟨l,n,b,s⟩,c0,c1,c2,c3⟩ ⟨k,j,m,x⟩=O;generalize hP:doP ⟨⟨⟨l,n,b,s⟩,c0,c1,c2,c3⟩,t⟩ ⟨k,j,m,x⟩=P;obtain⟨oc,ob,ou⟩:=O;obtain⟨⟨⟨l',n',b',s'⟩,d0,d1,d2,d3⟩,t'⟩:=P;unfold doP doG doT at hP;unfold doO at hO;have hj:=zzM j;have hi0:inG 0=true:=rfl;have hi1:inG 1=true:=rfl;have hi2:inG 2=true:=rfl;have hi3:inG 3=true:=rfl;have hi4: ∀ i:Nat,inG (Int.negSucc i)=false:=fun i=>rfl
 have hi5: ∀ i:Nat,inG (Int.ofNat (i+4))=false:=fun i=>by unfold inG;rw [decide_eq_false (show ¬ Int.ofNat (i+4)<4 by rw [Int.ofNat_eq_natCast];omega),Bool.and_false]
 clear hM0
 have ht0:wrtC l n b (endE m)=0→zhT ⟨l,n,b,s⟩ m=⟨wrtL l n b (endE m),wrtN l n b (endE m),wrtB l n b (endE m),((wrtB l n b (endE m)).length:Int)⟩:=fun h=>by unfold zhT;rw [if_neg (fun k=>k h)];rfl
 have ht1: ¬ wrtC l n b (endE m)=0→zhT ⟨l,n,b,s⟩ m=⟨wrtL l n b (endE m),wrtN l n b (endE m),wrtB l n b (endE m),s⟩:=fun h=>by unfold zhT;rw [if_pos (show wsC ⟨l,n,b,s⟩ (endE m)≠0 from h)];rfl
 refine spH Tryz.func47 (by kernel_rfl) { cfgP with fz:=[61],keep:=some [0,1,3,4,5,6,7,9]} [zok,zoj,zK,zJ,zhY,zhX,zgU,zgT,zgS,zgR,zgQ,zgP,zgO,zgN,zqB,zqA,zgL,zgK,zgJ,zgI,zgH,zgG,zgF,zgE,zqz,zqy,Y2,Y1,zm5,zm4,zte,ztd] (by kernel_rfl) ?_
 intro I X hI hX
 rcases hj with rfl|rfl|rfl|rfl|⟨i,rfl⟩|⟨i,rfl⟩
 all_goals
  refine orcL ?_;go_invoke;refine orcS (by kernel_rfl) ?_
  simp only [zi,Nat.reduceAdd];subst hI;simp only [nrmA,nrmB,nrlB,reduceCtorEq,HO.pack.injEq,HO.obj.injEq,HO.abs.injEq,Gh.cn.injEq]
  try rw [show(⟨6,m,0,[]⟩:Ent)=endE m from rfl]
  rcases kinds k with rfl|rfl|rfl|rfl|rfl|⟨k1,k2,k3,k4,k5⟩
  all_goals
   simp [hi0,hi1,hi2,hi3,hi4,hi5,GS.at,GS.put,GS.set, *] at hP hO
   obtain⟨⟨e,rfl,rfl,rfl,rfl⟩,rfl⟩:=hP
   try(obtain⟨rfl,rfl,rfl⟩:=hO)
   (repeat' (first|refine ja ?_ ?_|intro _))<;>first|omega|exact jb|exact jc ‹False›|skip
   all_goals first
    |exact hs
    |exact f0.1
    |exact f1.1
    |exact f2.1
    |exact f3.1
    |exact f0.2.1.1
    |exact(f0.2.1.2 _ ‹_›).1
    |exact(f0.2.1.2 _ ‹_›).2
    |exact f1.2.1.1
    |exact(f1.2.1.2 _ ‹_›).1
    |exact(f1.2.1.2 _ ‹_›).2
    |exact f2.2.1.1
    |exact(f2.2.1.2 _ ‹_›).1
    |exact(f2.2.1.2 _ ‹_›).2
    |exact f3.2.1.1
    |exact(f3.2.1.2 _ ‹_›).1
    |exact(f3.2.1.2 _ ‹_›).2
    |rfl
    |(rw [e];done)
    |(obtain⟨rfl,rfl,rfl,rfl⟩:=e;rfl)
    |(have e:=(ht0 ‹_›).symm.trans e;cases e;rfl)
    |(have e:=(ht1 ‹_›).symm.trans e;cases e;rfl)
    |(have e0:=zvN ⟨l,n,b,s⟩ m;rw [hO] at e0 ⊢;cases e0;rfl)
    |(unfold crsQ at e;cases e;rfl)
def zx4:Know Tryz.prog:=⟨47,zkM,zuM⟩
def zx3:Know Tryz.prog:=⟨47,fun I=>zu I (zkM I),zf zuM⟩
end Go.Proofs.YtnpmenpjagcheaaGreatDoor
namespace Go.Proofs.YtnpmenpjagcheaaGreatDoor
open Go Go.Sep Go.Ab
set_option maxRecDepth 100000
end Go.Proofs.YtnpmenpjagcheaaGreatDoor
namespace Go.Proofs.YtnpmenpjagcheaaGreatDoor
open Go Go.Sep Go.Ab
set_option maxRecDepth 100000
structure PsI (p:PS) (m:Int) (N:Nat) (k:Nat):Prop where
 g:GsI p.g m N
 t:p.t.length≤k
theorem ps_0:PsI ps0 25000 0 0:=⟨ziP gi_0 (by decide) (jL _),jL _⟩
theorem zzr {p:PS} {m:Int} {N k:Nat} (h:PsI p m N k) (hm:25000≤m) (x:Stp) (hb:N+x.bytes.length≤1000000):PsI (doP p x) (m+12 * x.bytes.length+1) (N+x.bytes.length) (k+1):=by
 refine⟨zzF h.g hm x hb,?_⟩;have:=h.t
 show(doT p x).length≤_
 unfold doT zfF
 repeat' split
 all_goals first|omega|(rw [jk,jr];omega)
theorem zvV {p:PS} {m:Int} {N k:Nat} (h:PsI p m N k) (hm:25000≤m) (x:Stp) (hb:N+x.bytes.length≤30000) (hc:m+12 * x.bytes.length≤199980) (hk:k≤1000000):PdN p.g p.t x:=⟨N,m,h.g,hb,hm,hc,Nat.le_trans h.t hk⟩
end Go.Proofs.YtnpmenpjagcheaaGreatDoor
namespace Go.Proofs.YtnpmenpjagcheaaGreatDoor
open Go Go.Sep Go.Ab
set_option maxRecDepth 100000
def begP:Str:=[80,79,83,84,32,47,102,105,108,101,115,32,72,84,84,80,47,49,46,49,13,10,72,111,115,116,58,32,97,13,10,84,117,115,45,82,101,115,117,109,97,98,108,101,58,32,49,46,48,46,48,13,10,85,112,108,111,97,100,45,76,101,110,103,116,104,58,32,48,13,10,13,10]
def stA:Stp:=⟨1,0,0,begP⟩
def stB:Stp:=⟨3,0,1,[]⟩
end Go.Proofs.YtnpmenpjagcheaaGreatDoor
namespace Go.Proofs.YtnpmenpjagcheaaGreatDoor
open Go Go.Sep Go.Ab
end Go.Proofs.YtnpmenpjagcheaaGreatDoor
namespace Go.Proofs.YtnpmenpjagcheaaGreatDoor
open Go Go.Sep Go.Ab
theorem zd1 {p:PS} {m m':Int} {N N' k k':Nat} (h:PsI p m N k) (h1:m≤m') (h2:N≤N') (h3:k≤k'):PsI p m' N' k':=⟨ziP h.g h1 h2,Nat.le_trans h.t h3⟩
end Go.Proofs.YtnpmenpjagcheaaGreatDoor
namespace Go.Proofs.YtnpmenpjagcheaaGreatDoor
open Go Go.Sep Go.Ab Go.Jrn
def kA (e:Evt):Bool:=decide (e.kind=3∨e.kind=4)
def cntA (l:List Evt):Nat:=(l.filter kA).length
theorem VX (a b:List Evt):cntA (a++b)=cntA a+cntA b:=by unfold cntA;simp
theorem zl6 (e:Evt) (h:e.kind≠3) (k:e.kind≠4):cntA [e]=0:=by simp [cntA,kA,h,k]
theorem zzp (q:Rq) (c:UInt8):cntA (rqF q c).out≤cntA q.out+2:=by
 have hb: ∀ (o:List Evt) (s:Str),cntA (o++[evB s])=cntA o:=fun o s=>by rw [VX,zl6 _ (show(2:Int)≠3 by decide) (show(2:Int)≠4 by decide)];rfl
 have hh: ∀ (o:List Evt) (s:Hd),cntA (o++[evH s])=cntA o:=fun o s=>by rw [VX,zl6 _ (show(1:Int)≠3 by decide) (show(1:Int)≠4 by decide)];rfl
 have hf: ∀ (o:List Evt) (s:Int),cntA (o++[evF s])=cntA o+1:=fun o s=>by rw [VX];rfl
 have he: ∀ (o:List Evt),cntA (o++[evE])=cntA o+1:=fun o=>by rw [VX];rfl
 have hd: ∀ q:Rq,cntA (yA q).1.out≤cntA q.out+1:=fun q=>by
  unfold yA tN
  repeat' split
  all_goals first|omega|(simp only [hb,hh,hf,he];omega)
 have hl: ∀ (q:Rq) (s:Str),cntA (zN q s).1.out≤cntA q.out+1:=fun q s=>by
  have:=hd q;unfold zN
  repeat' split
  all_goals first|exact this|(simp only;omega)
 have hL:=hl { q with ln:=(lnF q.ln c).1} (lnF q.ln c).2.1
 simp only at hL;unfold rqF tN wW
 repeat' split
 all_goals first|omega|(simp only [hb,hh,hf,he];omega)
theorem zoP: ∀ (b:Str) (q:Rq),cntA (uU q b).out≤cntA q.out+2 * b.length
 |[],q=>jL _
 | c::b,q=>by
   have h1:=zoP b (rqF q c);have h2:=zzp q c;have:uU q (c::b)=uU (rqF q c) b:=rfl;rw [this,jh];omega
theorem zxg (q:Sto) (m t:Str) (f:List Fld) (body:Str):(ansG q m t f body).r.fields.length≤5∧(ansG q m t f body).r.body.length≤720:=by
 have h0: ∀ st,(Xm st).fields.length≤5∧(Xm st).body.length≤720:=fun st=>⟨jM _,jM _⟩;have hs:=rX f body;unfold ansG
 split
 · refine⟨?_,jM _⟩
   show(resT::(yU q m t f body).fs).length≤5
   have:=Uu q m t f body;simp only [jh];omega
 split
 · exact h0 _
 split
 · exact h0 _
 unfold XP
 split
 · exact h0 _
 split
 · exact h0 _
 · have:=U3 (sQ f body).1 q [] [] hs.2.1
   refine⟨by rw [Xd];decide,?_⟩
   simp only [ji] at this;omega
theorem zde {r:Rpl} (h:r.fields.length≤5) (k:r.body.length≤720):(zbI r).length≤2500:=by
 unfold zbI writeT
 split
 · rename_i hc
   have hw:XW r.status≠[]:=fun e=>by unfold zaj at hc;rw [if_pos e] at hc;exact absurd hc (by decide)
   have h1:=(XV hw).2.2;have h2:=yE r.status;have h3:=yE (r.body.length:Int);have h4:=qY r.fields;simp only [zgz,zdz,jk,jh,ji];omega
 · exact jM _
theorem zzK (x:GE) (e:Evt):(evG x e).o.length≤x.o.length+2500 * cntA [e]:=by
 have h3:e.kind=3→cntA [e]=1:=fun h=>by simp [cntA,kA,h]
 have h4:e.kind=4→cntA [e]=1:=fun h=>by simp [cntA,kA,h]
 unfold evG
 repeat' split
 · exact Nat.le_add_right _ _
 · exact Nat.le_add_right _ _
 · rename_i h
   have:=zxg x.q x.h.method x.h.target x.h.fields x.b;have:=zde this.1 this.2;rw [h3 h];simp only [jk];omega
 · rename_i h
   have:=zde (r:=zwR e.code) (jM _) (jM _);rw [h4 h];simp only [jk];omega
 · exact Nat.le_add_right _ _
theorem zyB: ∀ (l:List Evt) (x:GE),(evsG x l).o.length≤x.o.length+2500 * cntA l
 |[],x=>Nat.le_add_right _ _
 | e::l,x=>by
   have h1:=zyB l (evG x e);have h2:=zzK x e;have:cntA (e::l)=cntA [e]+cntA l:=VX [e] l
   show(evsG (evG x e) l).o.length≤_
   omega
theorem zwP (q:Sto) (c:Cn) (x:Str):(fdO q c x).length≤5000 * x.length:=by
 unfold fdO
 split
 · exact jM _
 · rw [zqY]
   have h1:=zyB (zM c.q x).out ⟨q,c.h,c.body,c.live,c.own,[]⟩;have h2:cntA (zM c.q x).out≤0+2 * x.length:=zoP x _;simp only [ji] at h1;omega
theorem zsO (m t:Str) (fs:List Fld) (b:Str) (hm:m.length≤200):(rqwT m t fs b).length≤8000:=by
 by_cases h:rqwC m t fs b=0
 · rw [rqwT,if_pos h]
   unfold rqwC at h
   repeat' split at h
   all_goals first
    |(exfalso;exact absurd h (by decide))
    |contradiction
    | (have e1:=qY fs
       have e2:=yE (b.length:Int);simp only [zdz,jk,jh,ji]
       omega)
 · rw [rqwT,if_neg h];exact jM _
theorem zri (g:GS) (x:Stp):(doO g x).b.length≤5000 * x.bytes.length∧(doO g x).u.length≤8000:=by
 unfold doO
 repeat' split
 all_goals first
  |exact⟨zwP _ _ _,jM _⟩
  |exact⟨jM _,jM _⟩
  | (unfold Ux;split
     · exact⟨jM _,jM _⟩
     · exact⟨jM _,zsO _ _ _ _ (by decide)⟩)
end Go.Proofs.YtnpmenpjagcheaaGreatDoor
namespace Go.Proofs.YtnpmenpjagcheaaGreatDoor
open Go Go.Sep Go.Ab Go.Jrn
def CdI (c:Int):Prop:=0≤c∧c≤100
theorem zuu (q:Sto) (e:Ent):CdI (wsC q e):=by
 have hp:CdI (zd3 q.l q.n e):=by
  unfold zd3 creC appC decC droC begC endC CdI
  repeat' split
  all_goals exact⟨by omega,by omega⟩
 unfold wsC wrtC
 split
 · exact hp
 unfold encC wrC CdI
 repeat' split
 all_goals exact⟨by omega,by omega⟩
theorem zrO: ∀ fs:List Fld,CdI (badF fs)
 |[]=>⟨Int.le_refl _,by decide⟩
 | f ::l=>by
   unfold badF
   split
   · exact zrO l
   · unfold textF CdI
     repeat' split
     all_goals exact⟨by dsimp only;omega,by dsimp only;omega⟩
theorem zyI (g:GS) (x:Stp):CdI (doO g x).c:=by
 have hr: ∀ m t fs b,CdI (rqwC m t fs b):=fun m t fs b=>by
  unfold rqwC
  repeat' split
  all_goals first|exact⟨by omega,by omega⟩|exact zrO fs
 have hs:CdI (Ux g.q x.n).c:=by
  unfold Ux
  by_cases h:wsC g.q (begE x.n)≠0
  · rw [if_pos h];exact zuu _ _
  · rw [if_neg h];dsimp only;exact hr _ _ _ _
 unfold doO
 repeat' split
 all_goals first
  |exact zuu _ _
  |exact hs
  |(unfold fdK CdI;dsimp only;split<;>exact⟨by omega,by omega⟩)
  |exact⟨by(try dsimp only);omega,by(try dsimp only);omega⟩
def zvm:Str:=[98,121,116,101,115]
def zyG:Str:=[100,114,111,112]
def zxF:Str:=[115,101,110,100]
def zxn:Str:=[116,111,108,100]
def zvk:Str:=[99,114,97,115,104]
def zpZ:Str:=[108,105,115,116]
def logW:Str:=[108,111,103]
def Uk (w:Str):Int:=if w=zvm then 1 else if w=zyG then 2 else if w=zxF then 3 else if w=zxn then 4 else if w=zvk then 5 else 0
def numD (s:Str):Int × Bool:=((numA s 10 9).1,(numA s 10 9).2&&decide (decS (numA s 10 9).1=s))
def stepD (s:Str):Stp × Bool:=
 if(cutB s 32).2.2=false∨Uk (cutB s 32).1=0 then(⟨Uk (cutB s 32).1,0,0,[]⟩,false)
 else if(numD (cutB (cutB s 32).2.1 32).1).2=false∨(cutB (cutB s 32).2.1 32).2.2≠decide (Uk (cutB s 32).1=1) then(⟨Uk (cutB s 32).1,0,0,[]⟩,false)
 else(⟨Uk (cutB s 32).1,if Uk (cutB s 32).1≤2 then(numD (cutB (cutB s 32).2.1 32).1).1 else 0,if Uk (cutB s 32).1≤2 then 0 else(numD (cutB (cutB s 32).2.1 32).1).1,
  if(cutB (cutB s 32).2.1 32).2.2 then(xq (cutB (cutB s 32).2.1 32).2.1).getD [] else []⟩,
  if(cutB (cutB s 32).2.1 32).2.2 then(xq (cutB (cutB s 32).2.1 32).2.1).isSome else true)
theorem Wq (s:Str):(stepD s).1.bytes.length≤s.length:=by
 have h1:=(Zy s 32).2;have h2:=(Zy (cutB s 32).2.1 32).2;unfold stepD
 split
 · exact jM _
 split
 · exact jM _
 dsimp only
 split
 · cases hm:xq (cutB (cutB s 32).2.1 32).2.1 with
   |none=>exact jM _
   |some b=>have:=ztk hm;simp only [Option.getD_some];omega
 · exact jM _
def sayD (l:List Str):Str:=Yf l++[10]
def noW:Str:=[110,111]
def upW:Str:=[117,112]
def outW:Str:=[111,117,116]
def okW:Str:=[111,107]
def zvt:Str:=[119,104,97,116]
def endW:Str:=[101,110,100]
def znJ:Str:=[117,112,108,111,97,100]
def Xw (o:PO):Str:=
 if o.c≠0 then sayD [noW,decS o.c] else if o.u≠[] then sayD [upW,showS o.u] else if o.b≠[] then sayD [outW,showS o.b] else sayD [okW]
def numI (n:Int):Str:=if n= -1 then [45,49] else decS n
def uplD (u:Upl):Str:=sayD [znJ,numI u.id,numI u.size,numI (u.bytes.length:Int),numI u.sent,showS u.note]
def Vl:List Upl→Str
 |[]=>sayD [endW]
 |u::l=>uplD u++Vl l
def logD (q:Sto):Str:=sayD [logW,decS (q.b.length:Int),decS q.s]
def vT (p:PS) (s:Str):PS:=
 if s=[]∨s=zpZ∨s=logW then p else if(stepD s).2=false then p else doP p (stepD s).1
def rM (p:PS) (s:Str):Str:=
 if s=[] then [] else if s=zpZ then Vl p.g.q.l else if s=logW then logD p.g.q else if(stepD s).2=false then sayD [zvt] else Xw (doO p.g (stepD s).1)
def Xr (p:PS) (l:List Str):PS:=l.foldl vT p
def linesT:PS→List Str→Str
 |_,[]=>[]
 |p,s::l=>rM p s++linesT (vT p s) l
theorem zm0 (p:PS) (a b:List Str):Xr p (a++b)=Xr (Xr p a) b:=List.foldl_append
theorem zcE: ∀ (a b:List Str) (p:PS),linesT p (a++b)=linesT p a++linesT (Xr p a) b
 |[],b,p=>rfl
 | s::a,b,p=>by
   rw [List.cons_append,linesT,linesT,zcE a b (vT p s),jo];rfl
def sumL:List Str→Nat
 |[]=>0
 |s::l=>s.length+sumL l
theorem Rk: ∀ a b:List Str,sumL (a++b)=sumL a+sumL b
 |[],b=>by simp [sumL]
 |s::a,b=>by have:=Rk a b;simp only [List.cons_append,sumL];omega
theorem xh (n:Int):(numI n).length≤9:=by unfold numI;split;decide;exact yE n
theorem zjA {u:Upl} (h:zur u):(uplD u).length≤500:=by
 have h1:=xh u.id;have h2:=xh u.size;have h3:=xh (u.bytes.length:Int);have h4:=xh u.sent;have h5:=uj u.note;have h6:=h.nl;unfold uplD sayD Yf Yf Yf Yf Yf Yf;simp only [jk,jh,ji,znJ];omega
theorem zgi: ∀ {l:List Upl},(∀ u ∈ l,zur u)→(Vl l).length≤500 * l.length+4
 |[],_=>by decide
 | u::l,h=>by
   have h1:=zjA (h u List.mem_cons_self);have h2:=zgi fun v hv=>h v (List.mem_cons_of_mem _ hv);rw [Vl,jk,jh];omega
theorem znU (g:GS) (x:Stp):(Xw (doO g x)).length≤20000 * x.bytes.length+32020:=by
 obtain⟨h1,h2⟩:=zri g x;have h3:=uj (doO g x).u;have h4:=uj (doO g x).b;have h5:=yE (doO g x).c;unfold Xw sayD
 repeat' split
 all_goals simp only [Yf,jk,jh,ji,noW,upW,outW,okW]
 all_goals omega
theorem zp1 {p:PS} (h:zI p.g.q.l p.g.q.n) (s:Str):(rM p s).length≤20000 * s.length+32020:=by
 have h1:=Wq s;have h2:=znU p.g (stepD s).1;have h3:=zgi h.each;have h4:=h.cnt;have h5:=yE (p.g.q.b.length:Int);have h6:=yE p.g.q.s;unfold rM
 repeat' split
 · exact jM _
 · omega
 · unfold logD sayD
   simp only [Yf,jk,jh,ji,logW];omega
 · unfold sayD
   simp only [Yf,jk,jh,ji,zvt];omega
 · omega
theorem zvW {p:PS} {m:Int} {N k:Nat} (h:PsI p m N k) (hm:25000≤m) (s:Str) (hb:N+s.length≤1000000):PsI (vT p s) (m+12 * s.length+1) (N+s.length) (k+1):=by
 have h0:PsI p (m+12 * s.length+1) (N+s.length) (k+1):=zd1 h (by omega) (by omega) (by omega)
 have hl:=Wq s;unfold vT
 repeat' split
 · exact h0
 · exact h0
 · exact zd1 (zzr h hm (stepD s).1 (by omega)) (by omega) (by omega) (jL _)
theorem zs8 {p:PS} {m:Int} {N k:Nat} (h:PsI p m N k) (hm:25000≤m) (s:Str) (hb:N+s.length≤30000) (hc:m+12 * s.length≤199980) (hk:k≤1000000):PdN p.g p.t (stepD s).1:=by
 have hl:=Wq s
 exact zvV h hm _ (by omega) (by omega) hk
structure DkI (p0:PS) (m:Int) (N k:Nat) (l:List Str) (i:Nat) (p:PS) (o:Str):Prop where
 le:i≤l.length
 hp:p=Xr p0 (l.take i)
 ho:o=linesT p0 (l.take i)
 ps:PsI p (m+12 * sumL (l.take i)+i) (N+sumL (l.take i)) (k+i)
 ol:o.length≤20000 * sumL (l.take i)+32020 * i
theorem dk_0 {p0:PS} {m:Int} {N k:Nat} (h:PsI p0 m N k) (l:List Str):DkI p0 m N k l 0 p0 []:=⟨jM _,rfl,rfl,zd1 h (by simp only [List.take_zero,sumL];omega) (by simp only [List.take_zero,sumL];omega) (jL _),jM _⟩
theorem zfs (l:List Str) (i:Nat):sumL (l.take i)≤sumL l:=by
 have h:=Rk (l.take i) (l.drop i);rw [List.take_append_drop] at h;omega
theorem ziz (p:PS) (a:List Str) (s:Str):linesT p (a++[s])=linesT p a++rM (Xr p a) s:=by
 rw [zcE]
 simp [linesT]
theorem ziA (p:PS) (a:List Str) (s:Str):Xr p (a++[s])=vT (Xr p a) s:=by
 rw [zm0];rfl
theorem dk_s {p0:PS} {m:Int} {N k:Nat} {l:List Str} {i:Nat} {p:PS} {o:Str} (h:DkI p0 m N k l i p o) (hm:25000≤m) (hi:i<l.length) (hN:N+sumL l≤30000):DkI p0 m N k l (i+1) (vT p (l.getD i [])) (o++rM p (l.getD i [])):=by
 have e:l.getD i []=l[i]:=by simp [hi]
 have e2:l.take (i+1)=l.take i++[l[i]]:=jB hi
 have e3:sumL (l.take (i+1))=sumL (l.take i)+l[i].length:=by rw [e2,Rk];simp [sumL]
 have h1:=zfs l (i+1);have h2:=zp1 h.ps.g.q.1 l[i];rw [e];refine⟨hi,?_,?_,?_,?_⟩
 · rw [e2,ziA,← h.hp]
 · rw [e2,ziz,← h.hp,← h.ho]
 · exact zd1 (zvW h.ps (by omega) l[i] (by omega)) (by rw [e3];omega) (by rw [e3];omega) (by omega)
 · have:=h.ol
   rw [jk,e3];omega
end Go.Proofs.YtnpmenpjagcheaaGreatDoor
namespace Go.Proofs.YtnpmenpjagcheaaGreatDoor
open Go Go.Sep Go.Ab Go.RowKit
set_option maxRecDepth 100000
theorem zyh {n:Int} (h: -1≤n∧n<1000000000):Lib.itoa n=numI n:=by
 unfold numI
 by_cases h1:n= -1
 · subst h1;rw [if_pos rfl];unfold Lib.itoa;rw [if_pos (by decide)];show 45::Lib.decDigits 1=_;rw [Lib.decDigits,dif_pos (by omega)];rfl
 · rw [if_neg h1];exact zla (by omega) h.2
def Qx (I:Alg):KU
 |[.v (.one (.p (.int .i64 n)))],[]=>some (.one ⟨I.hid (-1≤n∧n<1000000000),(.ret (.v (.one (.p (.str (I.hid (numI n))))))),[]⟩)
 |_,_=>none
theorem zlb:zq Tryz.prog 54 (Qx alg):=by
 intro args hp r h;unfold Qx at h;split at h<;>cases h
 rename_i n;simp only [CT.Good,zh];intro hneed
 refine Spc.of_below ⟨_,Tryz.func54,by kernel_rfl,by kernel_rfl⟩ fun S bs w vs hW hM=> ?_
 obtain⟨v,r,rfl⟩: ∃ v r,vs=v::r:=by cases vs with|nil=>exact hM.elim|cons v r=>exact⟨v,r,rfl⟩
 obtain⟨h1,hM⟩:=hM
 obtain rfl:r=[]:=by cases r with|nil=>rfl|cons v r=>exact hM.elim
 cases h1 with
 | int _ _=>
   refine⟨.string (Sep.S (numI n)),.str _ (by have:=xh n;unfold maxLen;omega),?_⟩
   rw [← zyh hneed]
   refine(Tryz.strconv_Itoa n (by omega) (by omega) w (by first|exact hW|exact hW.1)).mono fun e w' h=> ?_
   obtain⟨he,k,os,rfl⟩:=h;refine⟨he,?_⟩
   exact⟨rfl,rfl,rfl,(show w.heap.size≤(w.heap++os).size by rw [Array.size_append];omega),fun j hj=>show(w.heap++os)[j]? =w.heap[j]? from Array.getElem?_append_left hj⟩
def ztx:Know Tryz.prog:=⟨54,Qx,zlb⟩
def ztw:Know Tryz.prog:=⟨54,fun I=>zu I (Qx I),zf zlb⟩
def zeQ (I:Alg):KU
 |[.v (.one (.p (.int .i64 n)))],[]=>some (.one ⟨I.hid (-1≤n∧n<1000000000),(.ret (.v (.one (.p (.str (I.hid (numI n))))))),[]⟩)
 |_,_=>none
theorem zrm:zq Tryz.prog 40 (zeQ alg):=by
 intro args hp r h;unfold zeQ at h;split at h<;>cases h
 rename_i n;simp only [CT.Good,zh];intro hneed
 refine spH Tryz.func40 (by kernel_rfl) { keep:=some [0,2]} [ztx,ztw] (by kernel_rfl) ?_
 intro I X hI hX
 refine orcL ?_;go_invoke;refine orcS (by kernel_rfl) ?_
 simp only [zi,Nat.reduceAdd];subst hI;simp only [nrmA,nrmB,nrlB,reduceCtorEq];exact hneed
def U9:Know Tryz.prog:=⟨40,zeQ,zrm⟩
def U8:Know Tryz.prog:=⟨40,fun I=>zu I (zeQ I),zf zrm⟩
theorem zp6: ∀ x:List Str,(Yf x).length≤sumS x+x.length
 |[]=>jL _
 |a::l=>by rw [ziJ,jk,X5];simp only [sumS,jh];omega
def zka (I:Alg):KU
 |[.v (.one (.ptr 0 0)),.v (.one (.p (.list .str x)))],[.abs (.dk ⟨o,w,true,l,n,b,s,c0,c1,c2,c3,t⟩)]=>(fun(o:Str) (l:List Upl) (b:Str) (t:List Int) (x:List Str)=>(some (.one ⟨I.hid ((w=false→o=[])∧x≠[]∧x.length≤100∧sumS x≤700000000∧o.length≤290000000),(.ret (.tup [])),[.abs (.dk ⟨(I.hid (o++sayD x)),true,true,l,n,b,s,c0,c1,c2,c3,t⟩)]⟩):Option CT)) o l b t x
 |_,_=>none
set_option maxHeartbeats 4000000 in
theorem zuB:zq Tryz.prog 29 (zka alg):=by
 intro args hp r h;unfold zka at h;split at h<;>cases h
 rename_i x o w l n b s c0 c1 c2 c3 t
 revert x l t;intro(x:List Str) (l:List Upl) (t:List Int)
 simp only [CT.Good,zh];intro hneed;obtain⟨h1,h2,h3,h4,h5⟩:=hneed;have hl:=zp6 x
 refine spH Tryz.func29 (by kernel_rfl) { keep:=some [0,1]} [Uj,Ui,zai,zah,zdl,zdk,zwm,zwl] (by kernel_rfl) ?_
 intro I X hI hX;cases w
 · have h1:=h1 rfl
   subst h1
   refine orcL ?_;go_invoke;refine orcS (by kernel_rfl) ?_
   simp only [zi,Nat.reduceAdd];subst hI;simp only [nrmA,nrmB,nrlB,reduceCtorEq]
   exact⟨⟨h2,h3,h4⟩,by simp only [jh,ji];omega,⟨by simp,by simp only [jk,jh,ji];omega⟩,rfl⟩
 · clear h1
   refine orcL ?_;go_invoke;refine orcS (by kernel_rfl) ?_
   simp only [zi,Nat.reduceAdd];subst hI;simp only [nrmA,nrmB,nrlB,reduceCtorEq]
   exact⟨⟨h2,h3,h4⟩,by simp only [jh,ji];omega,⟨by simp,by simp only [jk,jh,ji];omega⟩,rfl⟩
def zcc:Know Tryz.prog:=⟨29,zka,zuB⟩
def zcb:Know Tryz.prog:=⟨29,fun I=>zu I (zka I),zf zuB⟩
end Go.Proofs.YtnpmenpjagcheaaGreatDoor
namespace Go.Proofs.YtnpmenpjagcheaaGreatDoor
open Go Go.Sep Go.Ab
set_option maxRecDepth 100000
def Xe (I:Alg):KU
 |[.v (.one (.p (.str s)))],[]=>(fun(s:Str)=>(some (.one ⟨I.hid (s.length≤1000000),(.ret (.tup [.one (.p (.int .i64 (I.hid ((numD s).1)))),.one (.p (.bool (I.hid ((numD s).2))))])),[]⟩):Option CT)) s
 |_,_=>none
theorem zdc:zq Tryz.prog 44 (Xe alg):=by
 intro args hp r h;unfold Xe at h;split at h<;>cases h
 rename_i s;simp only [CT.Good,zh];intro hneed;have h0:=wU s
 have hn:numI (numA s 10 9).1=decS (numA s 10 9).1:=by unfold numI;rw [if_neg (by omega)]
 generalize hr:numD s=r;unfold numD at hr
 refine spH Tryz.func44 (by kernel_rfl) { keep:=some [0,2,3,4,5]} [uf,vZ,U9,U8] (by kernel_rfl) ?_
 intro I X hI hX
 refine orcL ?_;go_invoke;refine orcS (by kernel_rfl) ?_
 simp only [zi,Nat.reduceAdd];subst hI;simp only [nrmA,nrmB,nrlB,reduceCtorEq];subst hr
 (repeat' (first|refine ja ?_ ?_|intro _))<;>first|omega|exact jb|exact jc ‹False›|skip
 all_goals first
  |omega
  |rfl
  |(show _=((numA s 10 9).2&&decide (decS (numA s 10 9).1=s));rw [‹(numA s 10 9).snd=true›,hn,Bool.true_and,Bool.eq_iff_iff];simp)
  |(show _=((numA s 10 9).2&&decide (decS (numA s 10 9).1=s));rw [‹(numA s 10 9).snd=false›];rfl)
def zno:Know Tryz.prog:=⟨44,Xe,zdc⟩
def znn:Know Tryz.prog:=⟨44,fun I=>zu I (Xe I),zf zdc⟩
def zts:List Str:=[zvm,zyG,zxF,zxn,zvk]
theorem zwk {w:Str} {i:Nat} (h:i<5) (hp: ∀ j,j<i→zts.getD j []≠w) (e:zts.getD i []=w):(i:Int)+1=Uk w:=by
 subst e
 match i,h with
 |0,_=>decide
 |1,_=>decide
 |2,_=>decide
 |3,_=>decide
 |4,_=>decide
theorem zwj {w:Str} (hp: ∀ j,j<5→zts.getD j []≠w):0=Uk w:=by
 have h0:=hp 0 (by decide)
 have h1:=hp 1 (by decide)
 have h2:=hp 2 (by decide)
 have h3:=hp 3 (by decide)
 have h4:=hp 4 (by decide)
 unfold Uk;rw [if_neg (fun e=>h0 e.symm),if_neg (fun e=>h1 e.symm),if_neg (fun e=>h2 e.symm),if_neg (fun e=>h3 e.symm),if_neg (fun e=>h4 e.symm)]
def QY (I:Alg):KU
 |[.v (.one (.p (.str w)))],[]=>(fun(w:Str)=>(some (.one ⟨I.hid (True),(.ret (.v (.one (.p (.int .i64 (I.hid (Uk w))))))),[]⟩):Option CT)) w
 |_,_=>none
theorem zl0:zq Tryz.prog 43 (QY alg):=by
 intro args hp r h;unfold QY at h;split at h<;>cases h
 rename_i w;simp only [CT.Good,zh];intro _;have h1:=fun(i:Nat)=>zwk (w:=w) (i:=i);have h2:=zwj (w:=w);generalize Uk w=r at h1 h2 ⊢;obtain⟨L,hL⟩: ∃ L,L=zts:=⟨_,rfl⟩;rw [← hL] at h1 h2
 have hlen:L.length=5:=by rw [hL];rfl
 refine spH Tryz.func43 (by kernel_rfl) { keep:=some [0,2,3,4,5,6,7]} [] (by kernel_rfl) ?_
 intro I X hI hX
 refine orcL ?_;go_invoke;refine orcS (by kernel_rfl) ?_
 simp only [zi,Nat.reduceAdd];rw [show([[98,121,116,101,115],[100,114,111,112],[115,101,110,100],[116,111,108,100],[99,114,97,115,104]]:List Str)=L from hL.symm];clear hL
 refine lpH hI [] hX [0,5,6,7] (fun(i:Nat)=>i≤5∧(∀ j,j<i→L.getD j []≠w)) (fun(i:Nat)=>⟨[(0,.v (.one (.p (.str w)))),(5,.v (.one (.row 0))),(6,.v (.one (.p (.int .i64 ((I.len (α:=Str) L)))))),(7,.v (.one (.p (.int .i64 i))))],[.row .str 9 L],18,none⟩) (fun(i:Nat)=>5 - i) 0 (by kernel_rfl) (by kernel_rfl) ?_ ?_
 · exact⟨jM _,fun j hj=>absurd hj (Nat.not_lt_zero _)⟩
 rintro i ⟨g1,g2⟩ A hA
 refine orcL ?_;go_invoke;refine orcS (by kernel_rfl) ?_
 simp only [zi,Nat.reduceAdd];subst hI;simp only [nrmA,nrmB,nrlB,reduceCtorEq]
 have hgo:=fun(h:i<5) (k:L.getD i []≠w)=>hA (i+1) ⟨by omega,fun j hj=>by
  rcases Nat.lt_or_ge j i with q|q
  · exact g2 j q
  · rw [show j=i by omega];exact k⟩ (by omega)
 clear hA
 (repeat' (first|refine ja ?_ ?_|intro _))<;>first|omega|exact jb|exact jc ‹False›|skip
 all_goals first
  |omega
  |exact h1 i (by omega) g2 ‹_›
  |exact hgo (by omega) ‹_›
  |exact h2 (fun j hj=>g2 j (by omega))
def zuj:Know Tryz.prog:=⟨43,QY,zl0⟩
def zui:Know Tryz.prog:=⟨43,fun I=>zu I (QY I),zf zl0⟩
def QV (I:Alg):KU
 |[.v (.one (.p (.str s)))],[]=>(fun(s:Str)=>(some (.one ⟨I.hid (s.length≤1000000),(.ret (.tup [.agg [.p (.int .i64 (I.hid ((stepD s).1.kind))),.p (.int .i64 (I.hid ((stepD s).1.conn))),.p (.int .i64 (I.hid ((stepD s).1.n))),.p (.list .byte (I.hid ((stepD s).1.bytes)))],.one (.p (.bool (I.hid ((stepD s).2))))])),[]⟩):Option CT)) s
 |_,_=>none
set_option maxHeartbeats 4000000 in
theorem zlX:zq Tryz.prog 28 (QV alg):=by
 intro args hp r h;unfold QV at h;split at h<;>cases h
 rename_i s;simp only [CT.Good,zh];intro hneed;generalize hr:stepD s=r;have hl:=Zy s 32;have hl2:=Zy (cutB s 32).2.1 32;unfold stepD at hr
 refine spH Tryz.func28 (by kernel_rfl) { raw:=false,keep:=some [0,2,3,4,5,6,7,8,9,10,11]} [zix,ziw,zia,zh9,zno,znn,zuj,zui] (by kernel_rfl) ?_
 intro I X hI hX
 refine orcL ?_;go_invoke;refine orcS (by kernel_rfl) ?_
 simp only [zi,Nat.reduceAdd];subst hI;simp only [nrmA,nrmB,nrlB,reduceCtorEq,V0.agg.injEq];generalize cutB s 32=a at *;obtain⟨a1,a2,a3⟩:=a;simp only at hr hl hl2 ⊢;generalize cutB a2 32=c at *;obtain⟨b1,b2,b3⟩:=c;simp only at hr hl2 ⊢;generalize Uk a1=k at *;generalize numD b1=d at *;obtain⟨d1,d2⟩:=d;generalize xq b2=M at *;simp only at hr ⊢;rw [show(k == 1)=decide (k=1) from rfl];subst hr
 (repeat' (first|refine ja ?_ ?_|intro _))<;>first|omega|exact jb|exact jc ‹False›|skip
 all_goals first
  |omega
  |(simp_all;done)
  | (have hk: ¬ k=1:=by omega
     have hk2: ¬ k≤2:=by omega
     have hk3: ¬ k=0:=by omega
     cases ‹a3=true›;cases ‹d2=true›;cases ‹b3=false›
     simp [hk,hk2,hk3];done)
def zuf:Know Tryz.prog:=⟨28,QV,zlX⟩
def zue:Know Tryz.prog:=⟨28,fun I=>zu I (QV I),zf zlX⟩
end Go.Proofs.YtnpmenpjagcheaaGreatDoor
namespace Go.Proofs.YtnpmenpjagcheaaGreatDoor
open Go Go.Sep Go.Ab
set_option maxRecDepth 100000
def cfgD:Cfg:= { sl:=cfgP.sl++[⟨58,1000001,.byte,none⟩],fz:=[29]}
def zl1 (I:Alg):KU
 |[.v (.one (.ptr 0 0)),.v (.agg [.p (.int .i64 k),.p (.int .i64 j),.p (.int .i64 m),.p (.list .byte x)])],[.abs (.dk ⟨o,w,true,l,n,b,s,c0,c1,c2,c3,t⟩)]=>(fun(o:Str) (l:List Upl) (b:Str) (t:List Int) (x:Str)=>(some (.one ⟨I.hid ((w=false→o=[])∧PdN ⟨⟨l,n,b,s⟩,c0,c1,c2,c3⟩ t ⟨k,j,m,x⟩∧x.length≤12100∧o.length≤290000000),(.ret (.tup [])),[.abs (.dk ⟨(I.hid (o++Xw (doO ⟨⟨l,n,b,s⟩,c0,c1,c2,c3⟩ ⟨k,j,m,x⟩))),true,true,(I.hid ((doP ⟨⟨⟨l,n,b,s⟩,c0,c1,c2,c3⟩,t⟩ ⟨k,j,m,x⟩).g.q.l)),(I.hid ((doP ⟨⟨⟨l,n,b,s⟩,c0,c1,c2,c3⟩,t⟩ ⟨k,j,m,x⟩).g.q.n)),(I.hid ((doP ⟨⟨⟨l,n,b,s⟩,c0,c1,c2,c3⟩,t⟩ ⟨k,j,m,x⟩).g.q.b)),(I.hid ((doP ⟨⟨⟨l,n,b,s⟩,c0,c1,c2,c3⟩,t⟩ ⟨k,j,m,x⟩).g.q.s)),(I.hid ((doP ⟨⟨⟨l,n,b,s⟩,c0,c1,c2,c3⟩,t⟩ ⟨k,j,m,x⟩).g.c0)),(I.hid ((doP ⟨⟨⟨l,n,b,s⟩,c0,c1,c2,c3⟩,t⟩ ⟨k,j,m,x⟩).g.c1)),(I.hid ((doP ⟨⟨⟨l,n,b,s⟩,c0,c1,c2,c3⟩,t⟩ ⟨k,j,m,x⟩).g.c2)),(I.hid ((doP ⟨⟨⟨l,n,b,s⟩,c0,c1,c2,c3⟩,t⟩ ⟨k,j,m,x⟩).g.c3)),(I.hid ((doP ⟨⟨⟨l,n,b,s⟩,c0,c1,c2,c3⟩,t⟩ ⟨k,j,m,x⟩).t))⟩)]⟩):Option CT)) o l b t x
 |_,_=>none
set_option maxHeartbeats 8000000 in
theorem zvi:zq Tryz.prog 30 (zl1 alg):=by
 intro args hp r h;unfold zl1 at h;split at h<;>cases h
 rename_i k j m x o w l n b s c0 c1 c2 c3 t
 revert l t;intro(l:List Upl) (t:List Int)
 simp only [CT.Good,zh];intro hneed;obtain⟨hw,hneed,hx,ho⟩:=hneed;have hcd:=zyI ⟨⟨l,n,b,s⟩,c0,c1,c2,c3⟩ ⟨k,j,m,x⟩;have hfw:=zri ⟨⟨l,n,b,s⟩,c0,c1,c2,c3⟩ ⟨k,j,m,x⟩
 refine spH Tryz.func30 (by kernel_rfl) { cfgD with keep:=some [0,1,3,4]} [Ut,Us,zx4,zx3,U9,U8,zcc,zcb] (by kernel_rfl) ?_
 intro I X hI hX;generalize hO:doO ⟨⟨l,n,b,s⟩,c0,c1,c2,c3⟩ ⟨k,j,m,x⟩=O at *;generalize hP:doP ⟨⟨⟨l,n,b,s⟩,c0,c1,c2,c3⟩,t⟩ ⟨k,j,m,x⟩=P at *;obtain⟨oc,ob,ou⟩:=O;obtain⟨⟨⟨l',n',b',s'⟩,d0,d1,d2,d3⟩,t'⟩:=P;unfold CdI at hcd;simp only at hcd hfw;have hb:=uj ob;have hu:=uj ou;have hni:=xh oc
 have t1:oc≠0→sayD [noW,numI oc]=Xw ⟨oc,ob,ou⟩:=fun h=>by unfold Xw;rw [if_pos h];unfold numI;rw [if_neg (by omega)]
 have t2:oc=0→ou≠[]→sayD [upW,showS ou]=Xw ⟨oc,ob,ou⟩:=fun h k=>by unfold Xw;rw [if_neg (fun q=>q h),if_pos k]
 have t3:oc=0→ou=[]→ob≠[]→sayD [outW,showS ob]=Xw ⟨oc,ob,ou⟩:=fun h k q=>by unfold Xw;rw [if_neg (fun q=>q h),if_neg (fun q=>q k),if_pos q]
 have t4:oc=0→ou=[]→ob=[]→sayD [okW]=Xw ⟨oc,ob,ou⟩:=fun h k q=>by unfold Xw;rw [if_neg (fun q=>q h),if_neg (fun q=>q k),if_neg (fun r=>r q)]
 generalize Xw ⟨oc,ob,ou⟩=T at t1 t2 t3 t4 ⊢
 have z: ∀ {y:Str},(y.length:Int)≤0→y=[]:=fun h=>List.eq_nil_of_length_eq_zero (by omega)
 have nz: ∀ {y:Str},0<(y.length:Int)→y≠[]:=fun h e=>by subst e;simp at h
 have q1:=fun h=>congrArg (fun z=>o++z) (t1 h);have q2:=fun h k=>congrArg (fun z=>o++z) (t2 h k);have q3:=fun h k l=>congrArg (fun z=>o++z) (t3 h k l);have q4:=fun h k l=>congrArg (fun z=>o++z) (t4 h k l);clear t1 t2 t3 t4;cases w
 all_goals
  try(have hw:=hw rfl;subst hw)
  refine orcL ?_;go_invoke;refine orcS (by kernel_rfl) ?_
  simp only [zi,Nat.reduceAdd];subst hI;simp only [zh,hO,hP];simp only [nrmA,nrmB,nrlB,reduceCtorEq,HO.pack.injEq,HO.abs.injEq,Gh.dk.injEq,Dk.mk.injEq,sumS,jh,ji,implies_true]
  (repeat' (first|refine ja ?_ ?_|intro _))<;>first|omega|exact jb|exact jc ‹False›|skip
  all_goals first
   |omega
   |exact hneed
   |exact q1 (by omega)
   |exact q2 (by omega) (nz (by omega))
   |exact q3 (by omega) (z (by omega)) (nz (by omega))
   |exact q4 (by omega) (z (by omega)) (z (by omega))
def zyO:Know Tryz.prog:=⟨30,zl1,zvi⟩
def zyN:Know Tryz.prog:=⟨30,fun I=>zu I (zl1 I),zf zvi⟩
def zeS (I:Alg):KU
 |[.v (.one (.ptr 0 0))],[.abs (.dk ⟨o,w,true,l,n,b,s,c0,c1,c2,c3,t⟩)]=>(fun(o:Str) (l:List Upl) (b:Str) (t:List Int)=>(some (.one ⟨I.hid ((w=false→o=[])∧b.length≤100000∧0≤s∧s≤b.length∧o.length≤290000000),(.ret (.tup [])),[.abs (.dk ⟨(I.hid (o++logD ⟨l,n,b,s⟩)),true,true,l,n,b,s,c0,c1,c2,c3,t⟩)]⟩):Option CT)) o l b t
 |_,_=>none
set_option maxHeartbeats 8000000 in
theorem zro:zq Tryz.prog 27 (zeS alg):=by
 intro args hp r h;unfold zeS at h;split at h<;>cases h
 rename_i o w l n b s c0 c1 c2 c3 t
 revert l t;intro(l:List Upl) (t:List Int)
 simp only [CT.Good,zh];intro hneed;obtain⟨hw,hb,hs0,hs1,ho⟩:=hneed
 refine spH Tryz.func27 (by kernel_rfl) { cfgD with keep:=some [0,2,3]} [zoi,zoh,U9,U8,zcc,zcb] (by kernel_rfl) ?_
 intro I X hI hX;cases w
 all_goals
  try(have hw:=hw rfl;subst hw)
  refine orcL ?_;go_invoke;refine orcS (by kernel_rfl) ?_
  simp only [zi,Nat.reduceAdd];subst hI;simp only [nrmA,nrmB,nrlB,reduceCtorEq,HO.pack.injEq,HO.abs.injEq,Gh.dk.injEq,Dk.mk.injEq,sumS,jh,ji,implies_true];have h1:=xh (b.length:Int);have h2:=xh s
  have h3:numI (b.length:Int)=decS (b.length:Int):=by unfold numI;rw [if_neg (by omega)]
  have h4:numI s=decS s:=by unfold numI;rw [if_neg (by omega)]
  (repeat' (first|refine ja ?_ ?_|intro _))<;>first|omega|exact jb|exact jc ‹False›|skip
  all_goals first
   |omega
   |(rw [h3,h4];rfl)
def zw4:Know Tryz.prog:=⟨27,zeS,zro⟩
def zw3:Know Tryz.prog:=⟨27,fun I=>zu I (zeS I),zf zro⟩
theorem zpX {l:List Upl} {i:Nat} {a r:Str} (h:a++Vl (l.drop i)=r):(i<l.length→(a++uplD (l.getD i ⟨0,0,[],[],0⟩))++Vl (l.drop (i+1))=r)∧(¬ i<l.length→a++sayD [endW]=r):=by
 refine⟨fun k=> ?_,fun k=> ?_⟩
 · rw [← h,jE k,Vl,show l.getD i ⟨0,0,[],[],0⟩=l[i] by simp [k],jo]
 · rw [← h,jF (by omega)];rfl
theorem znK {l:List Upl} {n:Int} (h:zI l n) {u:Upl} (hu:u ∈ l):1≤u.id∧u.id≤n∧(-1≤u.size∧u.size≤2000)∧u.bytes.length≤2000∧(0≤u.sent∧u.sent≤2)∧(u.note.length≤100∧(showS u.note).length≤400)∧(uplD u).length≤500:=by
 have h1:=h.ids u hu;have h2:=h.each u hu;have h3:=uj u.note;have h4:=h2.nl
 exact⟨h1.1,h1.2,⟨h2.s1,h2.s2⟩,h2.bl,⟨h2.t0,h2.t2⟩,⟨h4,by omega⟩,zjA h2⟩
def QW (I:Alg):KU
 |[.v (.one (.ptr 0 0))],[.abs (.dk ⟨o,w,true,l,n,b,s,c0,c1,c2,c3,t⟩)]=>(fun(o:Str) (l:List Upl) (b:Str) (t:List Int)=>(some (.one ⟨I.hid ((w=false→o=[])∧zI l n∧n≤200000∧o.length≤280000000),(.ret (.tup [])),[.abs (.dk ⟨(I.hid (o++Vl l)),true,true,l,n,b,s,c0,c1,c2,c3,t⟩)]⟩):Option CT)) o l b t
 |_,_=>none
set_option maxHeartbeats 8000000 in
theorem zlY:zq Tryz.prog 26 (QW alg):=by
 intro args hp r h;unfold QW at h;split at h<;>cases h
 rename_i o w l n b s c0 c1 c2 c3 t
 revert l t;intro(l:List Upl) (t:List Int)
 simp only [CT.Good,zh];intro hneed;obtain⟨hw,hs,hn,ho⟩:=hneed
 refine spH Tryz.func26 (by kernel_rfl) { cfgD with keep:=some [0,3,17,18,19]} [Ut,Us,WC,WB,RS,RQ,U9,U8,zcc,zcb] (by kernel_rfl) ?_
 intro I X hI hX;cases w
 · have hw:=hw rfl
   subst hw
   refine orcL ?_;go_invoke;refine orcS (by kernel_rfl) ?_
   simp only [zi,Nat.reduceAdd]
   refine⟨by subst hI;exact hs,?_⟩
   refine lpH hI [Ut,Us,WC,WB,RS,RQ,U9,U8,zcc,zcb] hX [0,17,18,19] (fun(g:Nat × Str × Bool)=>match g with|(i,a,v)=>i≤l.length∧(v=false→a=[])∧a.length≤280000000+500 * i∧a++Vl (l.drop i)=[]++Vl l) (fun(g:Nat × Str × Bool)=>match g with|(i,a,v)=>⟨[(0,.v (.one (.ptr 0 0))),(17,.v (.one (.row 1))),(18,.v (.one (.p (.int .i64 ((I.len (α:=Upl) l)))))),(19,.v (.one (.p (.int .i64 i))))],[.abs (.dk ⟨a,v,true,l,n,b,s,c0,c1,c2,c3,t⟩),.row .upl 82 l],47,none⟩) (fun(g:Nat × Str × Bool)=>match g with|(i,a,v)=>l.length - i) (0,[],false) (by kernel_rfl) (by kernel_rfl) ?_ ?_
   · exact⟨jM _,(fun h=>by first|rfl|(cases h)),ho,rfl⟩
   rintro⟨i,a,v⟩ ⟨k1,k2,k3,k4⟩ A hA
   try simp only at hA
   refine orcL ?_;go_invoke;refine orcS (by kernel_rfl) ?_
   simp only [zi,Nat.reduceAdd];subst hI;simp only [nrmA,nrmB,nrlB,reduceCtorEq,HO.pack.injEq,HO.abs.injEq,Gh.dk.injEq,Dk.mk.injEq,sumS,jh,ji,implies_true];have hk:=zpX (a:=a) k4
   have hu:=fun(h:i<l.length)=>znK hs (show l.getD i ⟨0,0,[],[],0⟩ ∈ l by rw [show l.getD i ⟨0,0,[],[],0⟩=l[i] by simp [h]];exact List.getElem_mem h)
   have hgo:=fun(h:i<l.length)=>hA (i+1,a++uplD (l.getD i ⟨0,0,[],[],0⟩),true) ⟨by show i+1≤l.length;omega,(fun e=>Bool.noConfusion e),(by have:=(hu h).2.2.2.2.2.2;simp only [jk];omega),hk.1 h⟩ (by show l.length - (i+1)<l.length - i;omega)
   clear hA;have hcn:=hs.cnt;generalize l.getD i ⟨0,0,[],[],0⟩=u at *
   (repeat' (first|refine ja ?_ ?_|intro _))<;>first|omega|exact jb|exact jc ‹False›|skip
   all_goals first
    |omega
    |(have:=hu (by omega);omega)
    |(have:=hu (by omega);have:=xh u.id;have:=xh u.size;have:=xh (u.bytes.length:Int);have:=xh u.sent;omega)
    |(exact k2 ‹_›)
    |exact hgo (by omega)
    |exact hk.2 (by omega)
 · clear hw
   refine orcL ?_;go_invoke;refine orcS (by kernel_rfl) ?_
   simp only [zi,Nat.reduceAdd]
   refine⟨by subst hI;exact hs,?_⟩
   refine lpH hI [Ut,Us,WC,WB,RS,RQ,U9,U8,zcc,zcb] hX [0,17,18,19] (fun(g:Nat × Str × Bool)=>match g with|(i,a,v)=>i≤l.length∧(v=false→a=[])∧a.length≤280000000+500 * i∧a++Vl (l.drop i)=o++Vl l) (fun(g:Nat × Str × Bool)=>match g with|(i,a,v)=>⟨[(0,.v (.one (.ptr 0 0))),(17,.v (.one (.row 1))),(18,.v (.one (.p (.int .i64 ((I.len (α:=Upl) l)))))),(19,.v (.one (.p (.int .i64 i))))],[.abs (.dk ⟨a,v,true,l,n,b,s,c0,c1,c2,c3,t⟩),.row .upl 82 l],47,none⟩) (fun(g:Nat × Str × Bool)=>match g with|(i,a,v)=>l.length - i) (0,o,true) (by kernel_rfl) (by kernel_rfl) ?_ ?_
   · exact⟨jM _,(fun h=>by first|rfl|(cases h)),ho,rfl⟩
   rintro⟨i,a,v⟩ ⟨k1,k2,k3,k4⟩ A hA
   try simp only at hA
   refine orcL ?_;go_invoke;refine orcS (by kernel_rfl) ?_
   simp only [zi,Nat.reduceAdd];subst hI;simp only [nrmA,nrmB,nrlB,reduceCtorEq,HO.pack.injEq,HO.abs.injEq,Gh.dk.injEq,Dk.mk.injEq,sumS,jh,ji,implies_true];have hk:=zpX (a:=a) k4
   have hu:=fun(h:i<l.length)=>znK hs (show l.getD i ⟨0,0,[],[],0⟩ ∈ l by rw [show l.getD i ⟨0,0,[],[],0⟩=l[i] by simp [h]];exact List.getElem_mem h)
   have hgo:=fun(h:i<l.length)=>hA (i+1,a++uplD (l.getD i ⟨0,0,[],[],0⟩),true) ⟨by show i+1≤l.length;omega,(fun e=>Bool.noConfusion e),(by have:=(hu h).2.2.2.2.2.2;simp only [jk];omega),hk.1 h⟩ (by show l.length - (i+1)<l.length - i;omega)
   clear hA;have hcn:=hs.cnt;generalize l.getD i ⟨0,0,[],[],0⟩=u at *
   (repeat' (first|refine ja ?_ ?_|intro _))<;>first|omega|exact jb|exact jc ‹False›|skip
   all_goals first
    |omega
    |(have:=hu (by omega);omega)
    |(have:=hu (by omega);have:=xh u.id;have:=xh u.size;have:=xh (u.bytes.length:Int);have:=xh u.sent;omega)
    |(exact k2 ‹_›)
    |exact hgo (by omega)
    |exact hk.2 (by omega)
def zuh:Know Tryz.prog:=⟨26,QW,zlY⟩
def zug:Know Tryz.prog:=⟨26,fun I=>zu I (QW I),zf zlY⟩
end Go.Proofs.YtnpmenpjagcheaaGreatDoor
namespace Go.Proofs.YtnpmenpjagcheaaGreatDoor
open Go Go.Sep Go.Ab
set_option maxRecDepth 100000
structure LnN (p:PS) (x:Str):Prop where
 s:zI p.g.q.l p.g.q.n
 n:p.g.q.n≤200000
 b:p.g.q.b.length≤100000
 s0:0≤p.g.q.s
 s1:p.g.q.s≤p.g.q.b.length
 d:PdN p.g p.t (stepD x).1
 x:x.length≤12000
theorem zpY (o:Str) (p:PS) {x:Str} (h:x=zpZ):o++Vl p.g.q.l=o++rM p x∧vT p x=p:=by
 subst h
 exact⟨by unfold rM;rw [if_neg (by decide),if_pos rfl],by unfold vT;rw [if_pos (.inr (.inl rfl))]⟩
theorem ztm (o:Str) (p:PS) {x:Str} (h:x=logW):o++logD p.g.q=o++rM p x∧vT p x=p:=by
 subst h
 exact⟨by unfold rM;rw [if_neg (by decide),if_neg (by decide),if_pos rfl],by unfold vT;rw [if_pos (.inr (.inr rfl))]⟩
theorem zse (o:Str) (p:PS) {x:Str} (h0: ¬ x=[]) (h1: ¬ x=zpZ) (h2: ¬ x=logW) (h3:(stepD x).2=false):o++sayD [zvt]=o++rM p x∧vT p x=p:=by
 exact⟨by unfold rM;rw [if_neg h0,if_neg h1,if_neg h2,if_pos h3],by unfold vT;rw [if_neg (fun h=>h.elim h0 fun h=>h.elim h1 h2),if_pos h3]⟩
theorem zso (o:Str) (p:PS) {x:Str} (h0: ¬ x=[]) (h1: ¬ x=zpZ) (h2: ¬ x=logW) (h3:(stepD x).2=true):o++Xw (doO p.g (stepD x).1)=o++rM p x∧vT p x=doP p (stepD x).1:=by
 exact⟨by unfold rM;rw [if_neg h0,if_neg h1,if_neg h2,if_neg (by rw [h3];decide)],by unfold vT;rw [if_neg (fun h=>h.elim h0 fun h=>h.elim h1 h2),if_neg (by rw [h3];decide)]⟩
theorem zwb (o:Str) (p:PS) {x:Str} (h:x=[]):o=o++rM p x∧vT p x=p:=by
 subst h
 exact⟨by unfold rM;rw [if_pos rfl,List.append_nil],by unfold vT;rw [if_pos (.inl rfl)]⟩
def QX (I:Alg):KU
 |[.v (.one (.ptr 0 0)),.v (.one (.p (.str x)))],[.abs (.dk ⟨o,w,true,l,n,b,s,c0,c1,c2,c3,t⟩)]=>(fun(o:Str) (l:List Upl) (b:Str) (t:List Int) (x:Str)=>(some (.one ⟨I.hid ((w=false→o=[])∧LnN ⟨⟨⟨l,n,b,s⟩,c0,c1,c2,c3⟩,t⟩ x∧o.length≤280000000),(.ret (.tup [])),[.abs (.dk ⟨(I.hid (o++rM ⟨⟨⟨l,n,b,s⟩,c0,c1,c2,c3⟩,t⟩ x)),(I.hid (or w (decide (¬ x=[])))),true,(I.hid ((vT ⟨⟨⟨l,n,b,s⟩,c0,c1,c2,c3⟩,t⟩ x).g.q.l)),(I.hid ((vT ⟨⟨⟨l,n,b,s⟩,c0,c1,c2,c3⟩,t⟩ x).g.q.n)),(I.hid ((vT ⟨⟨⟨l,n,b,s⟩,c0,c1,c2,c3⟩,t⟩ x).g.q.b)),(I.hid ((vT ⟨⟨⟨l,n,b,s⟩,c0,c1,c2,c3⟩,t⟩ x).g.q.s)),(I.hid ((vT ⟨⟨⟨l,n,b,s⟩,c0,c1,c2,c3⟩,t⟩ x).g.c0)),(I.hid ((vT ⟨⟨⟨l,n,b,s⟩,c0,c1,c2,c3⟩,t⟩ x).g.c1)),(I.hid ((vT ⟨⟨⟨l,n,b,s⟩,c0,c1,c2,c3⟩,t⟩ x).g.c2)),(I.hid ((vT ⟨⟨⟨l,n,b,s⟩,c0,c1,c2,c3⟩,t⟩ x).g.c3)),(I.hid ((vT ⟨⟨⟨l,n,b,s⟩,c0,c1,c2,c3⟩,t⟩ x).t))⟩)]⟩):Option CT)) o l b t x
 |_,_=>none
set_option maxHeartbeats 8000000 in
theorem zlZ:zq Tryz.prog 17 (QX alg):=by
 intro args hp r h;unfold QX at h;split at h<;>cases h
 rename_i x o w l n b s c0 c1 c2 c3 t
 revert l t;intro(l:List Upl) (t:List Int)
 simp only [CT.Good,zh];intro hneed;obtain⟨hw,hn,ho⟩:=hneed;have e0:=zwb o ⟨⟨⟨l,n,b,s⟩,c0,c1,c2,c3⟩,t⟩ (x:=x);have e1:=zpY o ⟨⟨⟨l,n,b,s⟩,c0,c1,c2,c3⟩,t⟩ (x:=x);have e2:=ztm o ⟨⟨⟨l,n,b,s⟩,c0,c1,c2,c3⟩,t⟩ (x:=x);have e3:=zse o ⟨⟨⟨l,n,b,s⟩,c0,c1,c2,c3⟩,t⟩ (x:=x);have e4:=zso o ⟨⟨⟨l,n,b,s⟩,c0,c1,c2,c3⟩,t⟩ (x:=x);have hsl:=Wq x;generalize rM ⟨⟨⟨l,n,b,s⟩,c0,c1,c2,c3⟩,t⟩ x=T at *;generalize vT ⟨⟨⟨l,n,b,s⟩,c0,c1,c2,c3⟩,t⟩ x=Z at *
 refine spH Tryz.func17 (by kernel_rfl) { cfgD with keep:=some [0,1,4,5,6]} [zcc,zcb,zuf,zue,zyO,zyN,zw4,zw3,zuh,zug] (by kernel_rfl) ?_
 intro I X hI hX
 refine orcL ?_;go_invoke;refine orcS (by kernel_rfl) ?_
 simp only [zi,Nat.reduceAdd];subst hI;simp only [nrmA,nrmB,nrlB,reduceCtorEq,HO.pack.injEq,HO.abs.injEq,Gh.dk.injEq,Dk.mk.injEq,sumS,jh,ji,implies_true];obtain⟨g1,g2,g3,g4,g5,g6,g7⟩:=hn;simp only at g1 g2 g3 g4 g5 g6
 have hor: ¬ x=[]→true=(w||decide (¬ x=[])):=fun h=>by rw [decide_eq_true h,Bool.or_true]
 refine⟨fun h=> ?_,fun h0=>⟨fun h=> ?_,fun h1=>⟨fun h=> ?_,fun h2=>⟨by omega,fun h=> ?_,fun h=> ?_⟩⟩⟩⟩
 · obtain⟨a,rfl⟩:=e0 h
   exact⟨a,by subst h;cases w<;>rfl,rfl,rfl,rfl,rfl,rfl,rfl,rfl,rfl,rfl⟩
 · obtain⟨a,rfl⟩:=e1 h
   exact⟨⟨hw,g1,g2,ho⟩,a,hor h0,rfl,rfl,rfl,rfl,rfl,rfl,rfl,rfl,rfl⟩
 · obtain⟨a,rfl⟩:=e2 h
   exact⟨⟨hw,g3,g4,g5,by omega⟩,a,hor h0,rfl,rfl,rfl,rfl,rfl,rfl,rfl,rfl,rfl⟩
 · obtain⟨a,rfl⟩:=e3 h0 h1 h2 h
   exact⟨⟨hw,by omega,by omega,by omega⟩,a,hor h0,rfl,rfl,rfl,rfl,rfl,rfl,rfl,rfl,rfl⟩
 · obtain⟨a,rfl⟩:=e4 h0 h1 h2 h
   exact⟨⟨hw,g6,by omega,by omega⟩,a,hor h0,rfl,rfl,rfl,rfl,rfl,rfl,rfl,rfl,rfl⟩
def zeU:Know Tryz.prog:=⟨17,QX,zlZ⟩
def zeT:Know Tryz.prog:=⟨17,fun I=>zu I (QX I),zf zlZ⟩
def zeR (I:Alg):KU
 |[],[]=>some (.one ⟨I.hid (True),(.ret (.v (.one (.ptr 0 0)))),[.abs (.dk ⟨(I.hid ([])),false,true,(I.hid ([])),0,(I.hid ([])),0,cn0,cn0,cn0,cn0,(I.hid ([]))⟩)]⟩)
 |_,_=>none
theorem zrn:zq Tryz.prog 7 (zeR alg):=by
 intro args hp r h;unfold zeR at h;split at h<;>cases h
 simp only [CT.Good,zh];intro _
 refine spH Tryz.func7 (by kernel_rfl) { cfgD with keep:=some [0]} [zv0,zvZ] (by kernel_rfl) ?_
 intro I X hI hX
 refine orcL ?_;go_invoke;refine orcS (by kernel_rfl) ?_
 simp only [zi,Nat.reduceAdd];subst hI;simp only [nrmA,nrmB,nrlB,reduceCtorEq,HO.pack.injEq,HO.abs.injEq,Gh.dk.injEq,Dk.mk.injEq]
def zw2:Know Tryz.prog:=⟨7,zeR,zrn⟩
def zw1:Know Tryz.prog:=⟨7,fun I=>zu I (zeR I),zf zrn⟩
end Go.Proofs.YtnpmenpjagcheaaGreatDoor
namespace Go.Proofs.YtnpmenpjagcheaaGreatDoor
open Go Go.Sep Go.Ab
set_option maxRecDepth 100000
def zdU (I:Alg):KU
 |[.v (.one (.ptr 0 0))],[.abs (.dk ⟨([]),false,v,l,n,b,s1,c0,c1,c2,c3,t⟩)]=>(fun(l:List Upl) (b:Str) (t:List Int)=>(some (.one ⟨I.hid (True),(.ret (.tup [])),[.abs (.dk ⟨(I.hid ([])),false,true,l,n,b,s1,c0,c1,c2,c3,t⟩)]⟩):Option CT)) l b t
 |_,_=>none
theorem zoJ:zq Tryz.prog 16 (zdU alg):=by
 intro args hp r h;unfold zdU at h;split at h<;>cases h
 rename_i v l n b s1 c0 c1 c2 c3 t
 revert l t;intro(l:List Upl) (t:List Int)
 simp only [CT.Good,zh];intro _;cases v
 · exact zzl ..
 · exact zxJ ..
def zih:Know Tryz.prog:=⟨16,zdU,zoJ⟩
def zif:Know Tryz.prog:=⟨16,fun I=>zu I (zdU I),zf zoJ⟩
def zdH (I:Alg):KU
 |[.v (.one (.ptr 0 0))],[.abs (.dk ⟨o,v,true,l,n,b,s,c0,c1,c2,c3,t⟩)]=>(fun(o:Str) (l:List Upl) (b:Str) (t:List Int)=>(some (.one ⟨I.hid ((v=false→o=[])∧(v=true→o≠[])),(.ret (.v (.one (.p (.str o))))),[.abs (.dk ⟨(I.hid ([])),false,false,l,n,b,s,c0,c1,c2,c3,t⟩)]⟩):Option CT)) o l b t
 |_,_=>none
theorem zod:zq Tryz.prog 18 (zdH alg):=by
 intro args hp r h;unfold zdH at h;split at h<;>cases h
 rename_i o v l n b s c0 c1 c2 c3 t
 revert l t;intro(l:List Upl) (t:List Int)
 simp only [CT.Good,zh];intro hneed;cases v
 · rw [hneed.1 rfl];exact zze ..
 · exact zxz _ _ _ _ _ _ _ _ _ _ (hneed.2 rfl)
def zhV:Know Tryz.prog:=⟨18,zdH,zod⟩
def zhU:Know Tryz.prog:=⟨18,fun I=>zu I (zdH I),zf zod⟩
def badB (s:Str):Bool:=decide (0≤Lib.indexByte s 10)
def badI (x:List Str):Nat:=x.findIdx badB
def fltC (x:List Str):Int:=if 300<x.length then 8 else if badI x<x.length then 2 else 0
def fltA (x:List Str):Int:=if 300<x.length then -1 else if badI x<x.length then(badI x:Int) else 0
def doQ (p:PS) (x:List Str):PS:=if fltC x≠0 then p else Xr p x
def doS (p:PS) (x:List Str):Str:=if fltC x≠0 then [] else linesT p x
def DoN (p:PS) (x:List Str):Prop:=∃ m N k,PsI p m N k∧25000≤m∧N+sumL x≤30000∧m+12 * sumL x+400≤199980∧k≤100000∧sumL x≤12000
theorem zy3 {x:List Str} {i:Nat} (hi:i<x.length) (hp: ∀ j,j<i→badB (x.getD j [])=false) (h:badB (x.getD i [])=true):badI x=i:=by
 unfold badI
 have e:x.getD i []=x[i]:=by simp [hi]
 rw [List.findIdx_eq hi];rw [e] at h;refine⟨h,fun j hj=> ?_⟩;have h2:=hp j hj
 rwa [show x.getD j []=x[j]'(by omega) by simp [show j<x.length by omega]] at h2
theorem zy2 {x:List Str} (hp: ∀ j,j<x.length→badB (x.getD j [])=false):badI x=x.length:=by
 unfold badI;rw [List.findIdx_eq_length];intro s hs;obtain⟨j,hj⟩:=List.getElem?_of_mem hs;have hl:=(jl.1 hj).1;have h2:=hp j hl
 rw [show x.getD j []=s by rw [jH,hj];rfl] at h2
 exact h2
theorem zfG (x:List Str):sayD x≠[]:=by unfold sayD;simp
theorem ztq {p:PS} {x:Str} (h: ¬ x=[]):rM p x≠[]:=by
 unfold rM;rw [if_neg h]
 repeat' split
 · cases p.g.q.l with
   |nil=>exact zfG _
   |cons u l=>unfold Vl;intro e;exact zfG _ (List.append_eq_nil_iff.1 e).1
 · exact zfG _
 · exact zfG _
 · unfold Xw
   repeat' split
   all_goals exact zfG _
theorem zp0 (p:PS) {x:Str} (h:x=[]):rM p x=[]:=by unfold rM;rw [if_pos h]
theorem zsn {x:List Str} {i:Nat} (h:i<x.length):sumL (x.take i)+(x.getD i []).length≤sumL x:=by
 have:=zfs x (i+1);rw [jB h,Rk] at this
 rw [show x.getD i []=x[i] by simp [h]]
 simpa [sumL] using this
theorem zw0 {p0 p:PS} {m:Int} {N k i:Nat} {x:List Str} {o:Str} (h:DkI p0 m N k x i p o) (hi:i<x.length) (h1:25000≤m) (h2:N+sumL x≤30000) (h3:m+12 * sumL x+400≤199980) (h4:k≤100000) (h5:sumL x≤12000) (h6:x.length≤300):LnN p (x.getD i [])∧o.length≤280000000:=by
 have hg:=zsn hi;have hq:=h.ps.g.q;have ho:=h.ol
 have hd:=zs8 h.ps (by omega) (x.getD i []) (by omega) (by omega) (by omega)
 exact⟨⟨hq.1,by have:=hq.2.2.1;omega,hq.2.1,hq.2.2.2.1,hq.2.2.2.2,hd,by omega⟩,by omega⟩
def zeV (I:Alg):KU
 |[.v (.one (.ptr 0 0)),.v (.one (.p (.list .str x)))],[.abs (.dk ⟨o,false,v,l,n,b,s,c0,c1,c2,c3,t⟩)]=>(fun(o:Str) (l:List Upl) (b:Str) (t:List Int) (x:List Str)=>(some (.one ⟨I.hid (o=[]∧DoN ⟨⟨⟨l,n,b,s⟩,c0,c1,c2,c3⟩,t⟩ x),(.ret (.tup [.one (.p (.str (I.hid (doS ⟨⟨⟨l,n,b,s⟩,c0,c1,c2,c3⟩,t⟩ x)))),.agg [.p (.int .i64 (I.hid (fltC x))),.p (.int .i64 (I.hid (fltA x)))]])),[.abs (.dk ⟨(I.hid ([])),false,(I.hid (and v (decide (fltC x≠0)))),(I.hid ((doQ ⟨⟨⟨l,n,b,s⟩,c0,c1,c2,c3⟩,t⟩ x).g.q.l)),(I.hid ((doQ ⟨⟨⟨l,n,b,s⟩,c0,c1,c2,c3⟩,t⟩ x).g.q.n)),(I.hid ((doQ ⟨⟨⟨l,n,b,s⟩,c0,c1,c2,c3⟩,t⟩ x).g.q.b)),(I.hid ((doQ ⟨⟨⟨l,n,b,s⟩,c0,c1,c2,c3⟩,t⟩ x).g.q.s)),(I.hid ((doQ ⟨⟨⟨l,n,b,s⟩,c0,c1,c2,c3⟩,t⟩ x).g.c0)),(I.hid ((doQ ⟨⟨⟨l,n,b,s⟩,c0,c1,c2,c3⟩,t⟩ x).g.c1)),(I.hid ((doQ ⟨⟨⟨l,n,b,s⟩,c0,c1,c2,c3⟩,t⟩ x).g.c2)),(I.hid ((doQ ⟨⟨⟨l,n,b,s⟩,c0,c1,c2,c3⟩,t⟩ x).g.c3)),(I.hid ((doQ ⟨⟨⟨l,n,b,s⟩,c0,c1,c2,c3⟩,t⟩ x).t))⟩)]⟩):Option CT)) o l b t x
 |_,_=>none
set_option maxHeartbeats 8000000 in
theorem zrp:zq Tryz.prog 8 (zeV alg):=by
 intro args hp r h;unfold zeV at h;split at h<;>cases h
 rename_i x o v l n b s c0 c1 c2 c3 t
 revert x l t;intro(x:List Str) (l:List Upl) (t:List Int)
 simp only [CT.Good,zh];intro hneed;obtain⟨rfl,M,N,K,hP,hM,h2,h3,h4,h5⟩:=hneed;obtain⟨p0,hp0⟩: ∃ p0:PS,p0=⟨⟨⟨l,n,b,s⟩,c0,c1,c2,c3⟩,t⟩:=⟨_,rfl⟩;rw [← hp0] at hP ⊢
 have r1:fltC x≠0→doS p0 x=[]∧doQ p0 x=p0:=fun h=>by unfold doS doQ;rw [if_pos h,if_pos h];exact⟨rfl,rfl⟩
 have r2:fltC x=0→doS p0 x=linesT p0 x∧doQ p0 x=Xr p0 x:=fun h=>by unfold doS doQ;rw [if_neg (fun k=>k h),if_neg (fun k=>k h)];exact⟨rfl,rfl⟩
 have f8:300<x.length→fltC x=8∧fltA x= -1:=fun h=>by unfold fltC fltA;rw [if_pos h,if_pos h];exact⟨rfl,rfl⟩
 have f2: ∀ i,¬ 300<x.length→i<x.length→(∀ j,j<i→badB (x.getD j [])=false)→badB (x.getD i [])=true→fltC x=2∧fltA x=i:=fun i h h1 h2 h3=>by
  unfold fltC fltA;rw [zy3 h1 h2 h3,if_neg h,if_neg h,if_pos h1,if_pos h1];exact⟨rfl,rfl⟩
 have f0: ¬ 300<x.length→(∀ j,j<x.length→badB (x.getD j [])=false)→fltC x=0∧fltA x=0:=fun h h1=>by
  unfold fltC fltA;rw [zy2 h1,if_neg h,if_neg h,if_neg (Nat.lt_irrefl _),if_neg (Nat.lt_irrefl _)];exact⟨rfl,rfl⟩
 generalize fltC x=fc at *;generalize fltA x=fa at *;generalize doS p0 x=ss at *;generalize doQ p0 x=Z at *
 refine spH Tryz.func8 (by kernel_rfl) { cfgD with keep:=some [0,1,4,5,6,7,9,14,15,16,30,31,32]} [zih,zif,uT,uS,zeU,zeT,zhV,zhU] (by kernel_rfl) ?_
 intro I X hI hX
 refine orcL ?_;go_invoke;refine orcS (by kernel_rfl) ?_
 simp only [zi,Nat.reduceAdd];refine⟨fun h=> ?_,fun h=> ?_⟩
 · subst hI
   simp only [nrmA,nrmB,nrlB,reduceCtorEq] at *
   obtain⟨rfl,rfl⟩:=f8 (by omega)
   obtain⟨rfl,rfl⟩:=r1 (by decide)
   subst hp0
   cases v<;>exact⟨⟨rfl,rfl⟩,rfl⟩
 have hlen: ¬ 300<x.length:=by subst hI;simp only [nrmA,nrmB] at *;omega
 refine lpH hI [zih,zif,uT,uS,zeU,zeT,zhV,zhU] hX [0,1,4,5,14,15,16] (fun(i:Nat)=>i≤x.length∧∀ j,j<i→badB (x.getD j [])=false) (fun(i:Nat)=>⟨[(0,.v (.one (.ptr 0 0))),(1,.v (.one (.p (.list .str x)))),(4,.v (.one (.p (.str ([]))))),(5,.v (.one (.ptr 1 0))),(14,.v (.one (.p (.list .str x)))),(15,.v (.one (.p (.int .i64 ((I.len (α:=Str) x)))))),(16,.v (.one (.p (.int .i64 i))))],[.abs (.dk ⟨([]),false,v,l,n,b,s,c0,c1,c2,c3,t⟩),.pack [.obj 29 [.p (.int .i64 0),.p (.int .i64 0)]]],45,none⟩) (fun(i:Nat)=>x.length - i) 0 (by kernel_rfl) (by kernel_rfl) ?_ ?_
 · exact⟨jM _,fun j hj=>absurd hj (Nat.not_lt_zero _)⟩
 rintro i ⟨k1,k2⟩ A hA
 have hz: ∀ {y:Bool},fc≠0→(y&&decide (fc≠0))=y:=fun h=>by rw [decide_eq_true h,Bool.and_true]
 refine orcL ?_;go_invoke;refine orcS (by kernel_rfl) ?_
 simp only [zi,Nat.reduceAdd];refine⟨fun h=> ?_,fun h=> ?_⟩
 · subst hI
   rw [Yv,zO,decide_eq_true_eq] at h
   have hi:i<x.length:=by omega
   have hin:(0:Int)≤i∧(i:Int)<x.length:=by omega
   refine⟨hin,hin,trivial,fun hb=> ?_,fun hb=>⟨⟨by rw [XL];show(-9223372036854775808:Int)≤(i:Int)+1;omega,by rw [XM];show(i:Int)+1≤9223372036854775807;omega⟩,hA (i+1) ⟨by omega,fun j hj=> ?_⟩ (by omega),trivial⟩⟩
   · obtain⟨rfl,rfl⟩:=f2 i hlen hi k2 hb
     obtain⟨rfl,rfl⟩:=r1 (by decide)
     subst hp0
     cases v<;>exact⟨rfl,rfl⟩
   · rcases Nat.lt_or_ge j i with q|q
     · exact k2 j q
     · rw [show j=i by omega];exact hb
 have hi: ¬ i<x.length:=by subst hI;rw [Yv,zO,decide_eq_false_iff_not] at h;omega
 obtain⟨e0,rfl⟩:=f0 hlen (fun j hj=>k2 j (by omega))
 subst e0;obtain⟨rfl,rfl⟩:=r2 rfl
 have hh: ∀ {α:Type} (x:α),I.hid x=x:=by subst hI;intros;rfl
 refine⟨by subst hI;trivial,?_⟩
 simp only [hh];clear hA f8 f2 f0 r1 r2 k2 hz;have hd0:=dk_0 hP x
 refine lpH hI [zih,zif,uT,uS,zeU,zeT,zhV,zhU] hX [0,5,30,31,32] (fun(g:Nat × Str × Bool × List Upl × Int × Str × Int × Cn × Cn × Cn × Cn × List Int)=>match g with|(i,a,u,l',n',b',s',d0,d1,d2,d3,t')=>DkI p0 M N K x i ⟨⟨⟨l',n',b',s'⟩,d0,d1,d2,d3⟩,t'⟩ a∧(u=false→a=[])∧(u=true→a≠[])) (fun(g:Nat × Str × Bool × List Upl × Int × Str × Int × Cn × Cn × Cn × Cn × List Int)=>match g with|(i,a,u,l',n',b',s',d0,d1,d2,d3,t')=>⟨[(0,.v (.one (.ptr 0 0))),(5,.v (.one (.ptr 1 0))),(30,.v (.one (.p (.list .str x)))),(31,.v (.one (.p (.int .i64 ((I.len (α:=Str) x)))))),(32,.v (.one (.p (.int .i64 i))))],[.abs (.dk ⟨a,u,true,(l'),(n'),(b'),(s'),d0,d1,d2,d3,(t')⟩),.pack [.obj 29 [.p (.int .i64 0),.p (.int .i64 0)]]],45,none⟩) (fun(g:Nat × Str × Bool × List Upl × Int × Str × Int × Cn × Cn × Cn × Cn × List Int)=>match g with|(i,a,u,l',n',b',s',d0,d1,d2,d3,t')=>x.length - i) (0,[],false,l,n,b,s,c0,c1,c2,c3,t) (by kernel_rfl) (by kernel_rfl) ?_ ?_
 · exact⟨by rw [← hp0];exact hd0,fun _=>rfl,fun h=>by cases h⟩
 rintro⟨i,a,u,l',n',b',s',d0,d1,d2,d3,t'⟩ ⟨k1,k2,k3⟩ A hA
 try simp only at k1 k2 k3
 refine orcL ?_;go_invoke;refine orcS (by kernel_rfl) ?_
 simp only [zi,Nat.reduceAdd]
 have hnx:=fun(h:i<x.length)=>zw0 k1 h hM h2 h3 h4 h5 (by omega)
 have hsx:=fun(h:i<x.length)=>dk_s k1 hM h h2;refine⟨fun h=> ?_,fun h=> ?_⟩
 · subst hI
   rw [Yv,zO,decide_eq_true_eq] at h
   have hi:i<x.length:=by omega
   have hin:(0:Int)≤i∧(i:Int)<x.length:=by omega
   obtain⟨g1,g2⟩:=hnx hi;have e1:alg.get x ([]:Str) (i:Int)=x.getD i []:=rfl;rw [e1];have e2:=fun h=>ztq (p:=⟨⟨⟨l',n',b',s'⟩,d0,d1,d2,d3⟩,t'⟩) (x:=x.getD i []) h;have e3:=fun h=>zp0 ⟨⟨⟨l',n',b',s'⟩,d0,d1,d2,d3⟩,t'⟩ (x:=x.getD i []) h;have hs:=hsx hi;clear hnx hsx e1;generalize x.getD i []=y at *
   refine⟨hin,hin,⟨k2,g1,g2⟩,⟨by rw [XL];show(-9223372036854775808:Int)≤(i:Int)+1;omega,by rw [XM];show(i:Int)+1≤9223372036854775807;omega⟩,hA (i+1,a++rM ⟨⟨⟨l',n',b',s'⟩,d0,d1,d2,d3⟩,t'⟩ y,u||decide (¬ y=[]),_,_,_,_,_,_,_,_,_) ⟨hs,fun e=> ?_,fun e=> ?_⟩ (by show x.length - (i+1)<x.length - i;omega),trivial⟩
   · rw [Bool.or_eq_false_iff,decide_eq_false_iff_not,Decidable.not_not] at e
     show a++_=[]
     rw [k2 e.1,e3 e.2];rfl
   · show a++_≠[]
     intro q;have q:=List.append_eq_nil_iff.1 q;rw [Bool.or_eq_true,decide_eq_true_eq] at e
     rcases e with e|e
     · exact k3 e q.1
     · exact e2 e q.2
 · subst hI
   rw [Yv,zO,decide_eq_false_iff_not] at h;refine⟨⟨k2,k3⟩,?_⟩;have e1:=k1.hp;have e2:=k1.ho
   rw [jq (by omega)] at e1 e2
   rw [← e1,← e2]
   cases v<;>exact⟨rfl,rfl⟩
def zw6:Know Tryz.prog:=⟨8,zeV,zrp⟩
def zw5:Know Tryz.prog:=⟨8,fun I=>zu I (zeV I),zf zrp⟩
end Go.Proofs.YtnpmenpjagcheaaGreatDoor
namespace Go.Proofs.YtnpmenpjagcheaaGreatDoor
open Go Go.Sep Go.Ab
set_option maxRecDepth 100000
def dkbL:List Str:=[[98,121,116,101,115,32,48,32,71,69,84,32,47,32,72,84,84,80,47,49,46,49,92,114,92,110,72,111,115,116,58,32,97,92,114,92,110,92,114,92,110],[108,105,115,116],[108,111,103],[115,101,110,100,32,49],[100,114,111,112,32,52],[120]]
def dkbO:Str:=[111,117,116,32,72,84,84,80,47,49,46,49,32,52,48,52,32,78,111,116,32,70,111,117,110,100,92,114,92,110,67,111,110,116,101,110,116,45,76,101,110,103,116,104,58,32,48,92,114,92,110,92,114,92,110,10,101,110,100,10,108,111,103,32,48,32,48,10,110,111,32,49,48,10,110,111,32,49,10,119,104,97,116,10]
theorem zt9:fltC dkbL=0:=by decide+kernel
theorem zwZ:doS ps0 dkbL=dkbO:=by decide+kernel
theorem zyJ:DoN ps0 dkbL:=⟨25000,0,0,ps_0,by decide,by decide+kernel,by decide+kernel,by decide,by decide+kernel⟩
def qp (I:Alg):KU
 |[],[]=>some (.one ⟨I.hid (True),(.ret (.v (.one (.p (.bool true))))),[]⟩)
 |_,_=>none
set_option maxHeartbeats 4000000 in
theorem SA:zq Tryz.prog 5 (qp alg):=by
 intro args hp r h;unfold qp at h;split at h<;>cases h
 simp only [CT.Good,zh];intro _
 refine spH Tryz.func5 (by kernel_rfl) { cfgD with fz:=[8],keep:=some [0,1,2]} [zw2,zw1,zw6,zw5] (by kernel_rfl) ?_
 intro I X hI hX
 refine orcL ?_;go_invoke;refine orcS (by kernel_rfl) ?_
 simp only [zi,Nat.reduceAdd];rw [show([[98,121,116,101,115,32,48,32,71,69,84,32,47,32,72,84,84,80,47,49,46,49,92,114,92,110,72,111,115,116,58,32,97,92,114,92,110,92,114,92,110],[108,105,115,116],[108,111,103],[115,101,110,100,32,49],[100,114,111,112,32,52],[120]]:List Str)=dkbL from rfl];subst hI;simp only [zh];rw [show(⟨⟨⟨[],0,[],0⟩,cn0,cn0,cn0,cn0⟩,[]⟩:PS)=ps0 from rfl,zt9,zwZ]
 trace_state
 exact⟨trivial,⟨trivial,zyJ⟩,fun _=>⟨rfl,trivial⟩,fun h=>absurd h (by decide)⟩
def Sz:Know Tryz.prog:=⟨5,qp,SA⟩
def Sv:Know Tryz.prog:=⟨5,fun I=>zu I (qp I),zf SA⟩
end Go.Proofs.YtnpmenpjagcheaaGreatDoor
namespace Go.Proofs.YtnpmenpjagcheaaGreatDoor
open Go Go.Sep Go.Ab
set_option maxRecDepth 100000
theorem zzA (n:Int) (hneed:False):Spc Tryz.prog 22 [.v (.one (.p (.int .i64 n)))] [] (.ret (.v (.one (.p (.str ([])))))) []:=hneed.elim
def zeu (I:Alg):KU
 |[.v (.one (.p (.int .i64 n)))],[]=>some (.one ⟨I.hid (False),(.ret (.v (.one (.p (.str (I.hid ([]))))))),[]⟩)
 |_,_=>none
theorem zqo:zq Tryz.prog 22 (zeu alg):=by
 intro args hp r h;unfold zeu at h
 split at h
 · cases h;exact fun hn=>zzA _ hn
 · cases h
def zqn:Know Tryz.prog:=⟨22,zeu,zqo⟩
def zwv:Know Tryz.prog:=⟨22,fun I=>zu I (zeu I),zf zqo⟩
theorem zwu {m:Nat} (h:m<16):(([48,49,50,51,52,53,54,55,56,57,97,98,99,100,101,102]:Str).drop m).take 1=[hxB m]:=(by decide+kernel: ∀ d:Fin 16,(([48,49,50,51,52,53,54,55,56,57,97,98,99,100,101,102]:Str).drop d.1).take 1=[hxB d.1]) ⟨m,h⟩
def zet (I:Alg):KU
 |[.v (.one (.p (.int .i64 n)))],[]=>some (.one ⟨I.hid (0≤n∧n<16),(.ret (.v (.one (.p (.str (I.hid ([hxB n.toNat]))))))),[]⟩)
 |_,_=>none
set_option maxHeartbeats 2000000 in
theorem zqm:zq Tryz.prog 22 (zet alg):=by
 intro args hp r h;unfold zet at h;split at h<;>cases h
 rename_i n;simp only [CT.Good,zh];intro hneed;generalize hr:[hxB n.toNat]=r
 refine spH Tryz.func22 (by kernel_rfl) { keep:=some [0,2]} [zqn,zqn,zwv] (by kernel_rfl) ?_
 intro I X hI hX
 refine orcL ?_;go_invoke;refine orcS (by kernel_rfl) ?_
 simp only [zi,Nat.reduceAdd];subst hI;simp only [nrmA,nrmB]
 obtain⟨m,rfl⟩: ∃ m:Nat,n=m:=⟨n.toNat,by omega⟩
 rw [jJ] at hr
 have e3:m<16→(([48,49,50,51,52,53,54,55,56,57,97,98,99,100,101,102]:Str).drop m).take (((m:Int)+1).toNat - m)=r:=fun h=>by
  rw [show((m:Int)+1).toNat - m=1 by omega,zwu h,← hr]
 generalize hH:([48,49,50,51,52,53,54,55,56,57,97,98,99,100,101,102]:Str)=H at *
 have hHl:H.length=16:=by rw [← hH];rfl
 simp only [jJ,jh,ji]
 (repeat' (first|refine ja ?_ ?_|intro _))<;>first|omega|exact jb|exact jc ‹False›|skip
 all_goals first
  |exact e3 (by omega)
  |(exfalso;omega)
def zql:Know Tryz.prog:=⟨22,zet,zqm⟩
def zqk:Know Tryz.prog:=⟨22,fun I=>zu I (zet I),zf zqm⟩
theorem zxk (c:UInt8):(c.toNat:Int).tdiv 16=((c.toNat / 16:Nat):Int):=by rw [Int.tdiv_eq_ediv_of_nonneg (by omega)];omega
theorem zxj (c:UInt8):(c.toNat:Int).tmod 16=((c.toNat % 16:Nat):Int):=by rw [Int.tmod_eq_emod_of_nonneg (by omega)];omega
theorem znM: ∀ c:UInt8,(c.toNat=9∨126<c.toNat∨Wx c.toNat=false)↔(126<c.toNat∨c.toNat<32):=by
 have: ∀ c:Fin 256,(c.1=9∨126<c.1∨Wx (c.1:Int)=false)↔(126<c.1∨c.1<32):=by decide+kernel
 exact fun c=>this ⟨c.toNat,c.toNat_lt⟩
theorem zqw {b:Str} {i:Nat} (h:i<b.length):(b.drop i).take 1=[b.getD i 0]:=by
 rw [jE h,show b.getD i 0=b[i] by simp [h]];rfl
def RH (I:Alg):KU
 |[.v (.one (.p (.list .byte b)))],[]=>(fun(b:Str)=>(some (.one ⟨I.hid (b.length≤100000000),(.ret (.v (.one (.p (.str (I.hid (showS b))))))),[]⟩):Option CT)) b
 |_,_=>none
set_option maxHeartbeats 4000000 in
theorem zj5:zq Tryz.prog 12 (RH alg):=by
 intro args hp r h;unfold RH at h;split at h<;>cases h
 rename_i b;simp only [CT.Good,zh];intro hneed;generalize hr:showS b=r
 refine spH Tryz.func12 (by kernel_rfl) { keep:=some [0,2,3,4]} [zql,zqk] (by kernel_rfl) ?_
 intro I X hI hX
 refine orcL ?_;go_invoke;refine orcS (by kernel_rfl) ?_
 simp only [zi,Nat.reduceAdd]
 refine lpH hI [zql,zqk] hX [0,2,3,4] (fun(g:Nat × Str)=>match g with|(i,o)=>i≤b.length∧o=showS (b.take i)) (fun(g:Nat × Str)=>match g with|(i,o)=>⟨[(0,.v (.one (.p (.list .byte b)))),(2,.v (.one (.p (.str ([]))))),(3,.v (.one (.p (.str o)))),(4,.v (.one (.p (.int .i64 i))))],[],75,none⟩) (fun(g:Nat × Str)=>match g with|(i,o)=>b.length - i) (0,[]) (by kernel_rfl) (by kernel_rfl) ?_ ?_
 · exact⟨jM _,rfl⟩
 rintro⟨i,o⟩ ⟨h1,h2⟩ A hA;simp only at hA
 refine orcL ?_;go_invoke;refine orcS (by kernel_rfl) ?_
 simp only [zi,Nat.reduceAdd];subst hI;simp only [nrmA,nrmB,nrlB,reduceCtorEq]
 have hs:i<b.length→showS (b.take (i+1))=o++shB (b.getD i 0):=fun h=>by
  rw [jB h,zaG,← h2,show b.getD i 0=b[i] by simp [h]]
  simp [showS]
 have ho:o.length≤4 * i:=by
  rw [h2];have:=uj (b.take i);rw [jv] at this;omega
 have hend: ¬ i<b.length→o=r:=fun h=>by rw [h2,jq (by omega),hr]
 have hgo: ∀ x,i<b.length→shB (b.getD i 0)=x→_:=fun x h e=>hA (i+1,o++x) ⟨by show i+1≤b.length;omega,by show o++x=_;rw [hs h,e]⟩ (by show b.length - (i+1)<b.length - i;omega)
 have h1t:=fun h:i<b.length=>zqw h
 rw [show((i:Int)+1).toNat - i=1 by omega]
 clear hA hs;generalize b.getD i 0=c at *;generalize(b.drop i).take 1=bt at *;have hc:=c.toNat_lt
 have hcw:IntKind.i64.wrap (c.toNat:Int)=c.toNat:=zak (k:=.i64) (show IntKind.i64.min≤(c.toNat:Int)∧(c.toNat:Int)≤IntKind.i64.max by rw [XL,XM];omega)
 simp only [hcw,zxk,zxj,jJ];have h13:c.toNat=13→c=13:=fun h=>UInt8.toNat_inj.1 h;have h10:c.toNat=10→c=10:=fun h=>UInt8.toNat_inj.1 h;have h92:c.toNat=92→c=92:=fun h=>UInt8.toNat_inj.1 h
 have n13:c.toNat≠13→¬ c=13:=fun h e=>h (by rw [e];rfl)
 have n10:c.toNat≠10→¬ c=10:=fun h e=>h (by rw [e];rfl)
 have n92:c.toNat≠92→¬ c=92:=fun h e=>h (by rw [e];rfl)
 have e1:c.toNat=13→shB c=[92,114]:=fun h=>by unfold shB;rw [if_pos (h13 h)]
 have e2:c.toNat=10→shB c=[92,110]:=fun h=>by unfold shB;rw [if_neg (n13 (by omega)),if_pos (h10 h)]
 have e3:c.toNat=92→shB c=[92,92]:=fun h=>by unfold shB;rw [if_neg (n13 (by omega)),if_neg (n10 (by omega)),if_pos (h92 h)]
 have h9:c=9→c.toNat=9:=fun h=>by rw [h];rfl
 have h9':c.toNat=9→c=9:=fun h=>UInt8.toNat_inj.1 h
 have e4:c.toNat≠13→c.toNat≠10→c.toNat≠92→(126<c.toNat∨c.toNat<32)→shB c=[92,120]++[hxB (c.toNat / 16)]++[hxB (c.toNat % 16)]:=fun a1 a2 a3 h=>by
  unfold shB;rw [if_neg (n13 a1),if_neg (n10 a2),if_neg (n92 a3),if_pos (((znM c).2 h).imp h9' id)];rfl
 have e5:c.toNat≠13→c.toNat≠10→c.toNat≠92→¬ (126<c.toNat∨c.toNat<32)→i<b.length→shB c=bt:=fun a1 a2 a3 h q=>by
  rw [h1t q];unfold shB;rw [if_neg (n13 a1),if_neg (n10 a2),if_neg (n92 a3),if_neg (fun k=>h ((znM c).1 (k.imp h9 id)))]
 have k1:=fun h e=>hgo _ h (e1 e);have k2:=fun h e=>hgo _ h (e2 e);have k3:=fun h e=>hgo _ h (e3 e);have k4:=fun h a1 a2 a3 e=>hgo _ h (e4 a1 a2 a3 e);have k5:=fun h a1 a2 a3 a4=>hgo _ h (e5 a1 a2 a3 a4 h)
 have hbt:i<b.length→bt.length=1:=fun h=>by rw [h1t h];rfl
 clear hgo e1 e2 e3 e4 e5 h13 h10 h92 h9 h9' n13 n10 n92 h1t;generalize hxB (c.toNat / 16)=x1 at *;generalize hxB (c.toNat % 16)=x2 at *
 (repeat' (first|refine ja ?_ ?_|intro _))<;>first|omega|exact jb|exact jc ‹False›|skip
 all_goals first
  |omega
  |exact hend (by omega)
  |exact k1 (by omega) (by omega)
  |exact k2 (by omega) (by omega)
  |exact k3 (by omega) (by omega)
  |exact k4 (by omega) (by omega) (by omega) (by omega) (by omega)
  |exact k5 (by omega) (by omega) (by omega) (by omega) (by omega)
  |(simp only [jk,jh,ji] at *;omega)
def zj4:Know Tryz.prog:=⟨12,RH,zj5⟩
def zj3:Know Tryz.prog:=⟨12,fun I=>zu I (RH I),zf zj5⟩
end Go.Proofs.YtnpmenpjagcheaaGreatDoor
namespace Go.Proofs.YtnpmenpjagcheaaGreatDoor
open Go Go.Sep Go.Ab
set_option maxRecDepth 100000
set_option maxHeartbeats 4000000 in
theorem deskShows_ (b s:Str):Spc Tryz.prog 4 [.v (.one (.p (.list .byte b))),.v (.one (.p (.str s)))] [] (.ret (.v (.one (.p (.bool true))))) []:=by
 refine spH Tryz.func4 (by kernel_rfl) { fz:=[13],keep:=some [0,1,4,5,6,7,8,9,10,11,12]} [Ut,Us,zix,ziw,zkW,zkV,TI,TG,Sz,Sv,zj4,zj3] (by kernel_rfl) ?_
 intro I X hI hX
 refine orcL ?_;go_invoke;refine orcS (by kernel_rfl) ?_
 simp only [zi,Nat.reduceAdd]
 have hh: ∀ {α:Type} (y:α),I.hid y=y:=fun y=>by subst hI;rfl
 simp only [hh];have hs:=zfB b;have hm:=zgc b;have hl:=uj b;generalize showS b=t at *;simp only [hm]
 have eb: ∀ x:Str,(x == x)=true:=fun x=>by simp
 (repeat' (first|refine ja ?_ ?_|intro _))
 all_goals try(subst hI;(simp only [nrmA,nrmB,nrlB,reduceCtorEq] at *);first|done|trivial|omega|(rw [eb] at *;contradiction)|(simp at *;done))
 have h3:b.length≤3000:=by subst hI;simp only [nrmA,nrmB,nrlB,reduceCtorEq] at *;omega
 refine lpH hI [Ut,Us,zix,ziw,zkW,zkV,TI,TG,Sz,Sv,zj4,zj3] hX [0,1,5,12] (fun(i:Nat)=>i≤t.length) (fun(i:Nat)=>⟨[(0,.v (.one (.p (.list .byte b)))),(1,.v (.one (.p (.str s)))),(5,.v (.one (.p (.str t)))),(12,.v (.one (.p (.int .i64 i))))],[],81,none⟩) (fun(i:Nat)=>t.length - i) 0 (by kernel_rfl) (by kernel_rfl) ?_ ?_
 · exact jM _
 rintro i h1 A hA
 try simp only at hA h1
 refine orcL ?_;go_invoke;refine orcS (by kernel_rfl) ?_
 simp only [zi,Nat.reduceAdd];subst hI;simp only [nrmA,nrmB,nrlB,reduceCtorEq]
 have hg:i<t.length→32≤(t.getD i 0).toNat∧(t.getD i 0).toNat≤126:=fun h=>hs _ (by simp [h])
 have hn:=fun h:i<t.length=>hA (i+1) (by omega) (by omega)
 clear hA hs;generalize t.getD i 0=c at *
 (repeat' (first|refine ja ?_ ?_|intro _))<;>first|omega|exact jb|exact jc ‹False›|skip
 all_goals first
  |omega
  |exact hn (by omega)
  |(have:=hg (by omega);omega)
end Go.Proofs.YtnpmenpjagcheaaGreatDoor
