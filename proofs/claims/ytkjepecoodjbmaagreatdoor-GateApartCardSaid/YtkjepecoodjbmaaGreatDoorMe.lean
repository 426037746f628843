/- Texts of this proof, one behind the other: GatB ChkA ChkI ReqB ReqA Splt ReqC ReqD ReqE ReqF ReqR ReqPc TusG TusH TusI GatQ GatC GatD GatF GatE GatI GatH. -/
import Derived.Lib.Split
import Derived.Lib.SplitLaws
import Derived.Test.YtkjepecoodjbmaaGreatDoorMd
set_option linter.all false
namespace Go.Proofs.YtkjepecoodjbmaaGreatDoor
open Go Go.Sep Go.Ab
set_option maxRecDepth 100000
theorem YI (f:List Fld) (body:Str):(qQ f body).1.length≤12∧(∀ p ∈ (qQ f body).1,p.file.length≤40)∧prtZ (qQ f body).1≤1000+2 * body.length:=by
 have h0:([]:List Prt).length≤12∧(∀ p ∈ ([]:List Prt),p.file.length≤40)∧prtZ ([]:List Prt)≤1000+2 * body.length:=⟨by decide,(fun p h=>by cases h),by simp [prtZ]⟩
 unfold qQ
 split
 · exact h0
 · split
   · exact h0
   · split
     · exact h0
     · exact zi8 _ _
theorem zna {ps:List Prt} {i:Nat} (h:i<ps.length):WT (ps.drop i)=(((ps.getD i ⟨[],[],[],[]⟩).bytes.length:Int)+200)+WT (ps.drop (i+1)):=by
 rw [jE h,WT];simp [h]
theorem zjE {q:Sto} {ids:List Int} {t:Str} {ps:List Prt} {i:Nat} (h:i<ps.length):qy q ids t (ps.drop i)=(if(ps.getD i ⟨[],[],[],[]⟩).file=[] then qy q ids t (ps.drop (i+1)) else if zfC q (ps.getD i ⟨[],[],[],[]⟩)≠0 then⟨Y7 (if zfC q (ps.getD i ⟨[],[],[],[]⟩)=4 then 413 else 507),syS (TM (Zj q (ps.getD i ⟨[],[],[],[]⟩)) ids)⟩ else qy (Zj q (ps.getD i ⟨[],[],[],[]⟩)) (ids++[q.n+1]) (zod t (q.n+1) (ps.getD i ⟨[],[],[],[]⟩)) (ps.drop (i+1))):=by
 have e:ps.getD i ⟨[],[],[],[]⟩=ps[i]:=by simp [h]
 rw [e,jE h,qy]
theorem zjL {q:Sto} {ids:List Int} {j:Nat} (h:j<ids.length):TM q (ids.drop j)=TM (wsS q (zdl (ids.getD j 0))) (ids.drop (j+1)):=by
 have e:ids.getD j 0=ids[j]:=by simp [h]
 rw [e,jE h,TM]
theorem zs4 {q:Sto} (hs:zQ q.l q.n) (hb:q.b.length≤100000) (p:Prt):zQ (Zj q p).l (Zj q p).n∧(Zj q p).b.length≤100000∧q.n≤(Zj q p).n∧(Zj q p).n≤q.n+1∧(Zj q p).s=q.s:=by
 have hw: ∀ {x:Sto} (e:Ent),zQ x.l x.n→x.b.length≤100000→zQ (wsS x e).l (wsS x e).n∧(wsS x e).b.length≤100000:=fun e h1 h2=>⟨zdp h1 _ _,Y8 _ h2⟩;have h1:=hw (rE q p) hs hb;have n1:=zur q (rE q p)
 have h2:zQ (apQ (wsS q (rE q p)) (q.n+1) 0 p.bytes).l (apQ (wsS q (rE q p)) (q.n+1) 0 p.bytes).n∧(apQ (wsS q (rE q p)) (q.n+1) 0 p.bytes).b.length≤100000:=by
  unfold apQ
  split
  · exact h1
  · exact hw _ h1.1 h1.2
 have n2:(apQ (wsS q (rE q p)) (q.n+1) 0 p.bytes).n=(wsS q (rE q p)).n:=by
  unfold apQ
  split
  · rfl
  · exact Zq (show(2:Int)≠1 by decide)
 have s2:(apQ (wsS q (rE q p)) (q.n+1) 0 p.bytes).s=q.s:=by unfold apQ;split<;>rfl
 unfold Zj
 split
 · exact⟨h1.1,h1.2,n1.1,n1.2,rfl⟩
 · split
   · have n3:(wsS (apQ (wsS q (rE q p)) (q.n+1) 0 p.bytes) (zdl (q.n+1))).n=(apQ (wsS q (rE q p)) (q.n+1) 0 p.bytes).n:=Zq (show(4:Int)≠1 by decide)
     have h3:=hw (zdl (q.n+1)) h2.1 h2.2
     exact⟨h3.1,h3.2,by rw [n3,n2];exact n1.1,by rw [n3,n2];exact n1.2,s2⟩
   · exact⟨h2.1,h2.2,by rw [n2];exact n1.1,by rw [n2];exact n1.2,s2⟩
theorem zlg: ∀ P:List Prt,0≤WT P
 |[]=>Int.le_refl 0
 |p::r=>by have:=zlg r;simp only [WT];omega
theorem zlh: ∀ P:List Prt,WT P≤prtZ P+200 * P.length
 |[]=>by simp [WT]
 | p::r=>by
   have:=zlh r;simp only [WT,prtZ,List.map_cons,List.sum_cons,jh] at this ⊢;omega
theorem TD: ∀ (P:List Prt) (q:Sto) (ids:List Int) (t:Str),(qy q ids t P).r.fields=[]
 |[],_,_,_=>rfl
 | p ::r,q,ids,t=>by
   unfold qy
   split
   · exact TD r _ _ _
   · split
     · rfl
     · exact TD r _ _ _
def za9 (I:Alg) (args:List D) (hp:List HO):Option CT:=match args,hp with
 |[.v (.one (.ptr 0 0)),.v (.agg [(.p (.str m)),(.p (.str t)),(.p (.int .i64 mi)),(.p (.list .fld f)),(.p (.int .i64 le))]),.v (.one (.p (.list .byte body)))],[.obj 50 [(.ptr 1 0),(.ptr 2 0),(.ptr 3 0),(.ptr 4 0),(.ptr 5 0)],.pack [.obj 54 [(.ptr 1 0),(.ptr 2 0)],.pack [.obj 124 [(.row 1),(.p (.int .i64 n))],.row .upl 81 l],.pack [.obj 156 [(.row 1),(.p (.int .i64 s))],.row .byte 5 b]],.abs (.cn c0),.abs (.cn c1),.abs (.cn c2),.abs (.cn c3)]=>(fun(l:List Upl) (n:Int) (b:Str) (s:Int) (c0 c1 c2 c3:Cn) (m t:Str) (mi:Int) (f:List Fld) (le:Int) (body:Str)=>(some (.one ⟨I.hid (FOk f∧zQ l n∧n≤200000 - 20∧b.length≤100000∧body.length≤30000),(.ret (.v (.agg [(.p (.int .i64 (I.hid ((Ti ⟨l,n,b,s⟩ f body).r.status)))),(.p (.list .fld (I.hid (([]:List Fld))))),(.p (.list .byte (I.hid ((Ti ⟨l,n,b,s⟩ f body).r.body))))]))),[.obj 50 [(.ptr 1 0),(.ptr 2 0),(.ptr 3 0),(.ptr 4 0),(.ptr 5 0)],.pack [.obj 54 [(.ptr 1 0),(.ptr 2 0)],.pack [.obj 124 [(.row 1),(.p (.int .i64 (I.hid ((Ti ⟨l,n,b,s⟩ f body).q.n))))],.row .upl 81 (I.hid ((Ti ⟨l,n,b,s⟩ f body).q.l))],.pack [.obj 156 [(.row 1),(.p (.int .i64 (I.hid ((Ti ⟨l,n,b,s⟩ f body).q.s))))],.row .byte 5 (I.hid ((Ti ⟨l,n,b,s⟩ f body).q.b))]],.abs (.cn c0),.abs (.cn c1),.abs (.cn c2),.abs (.cn c3)]⟩):Option CT)) l n b s c0 c1 c2 c3 m t mi f le body
 |_,_=>none
set_option maxHeartbeats 1000000 in
theorem zl1:zx Tryz.prog 125 (za9 alg):=by
 intro args hp r h;unfold za9 at h;split at h<;>cases h
 rename_i m t mi f le body n l s b c0 c1 c2 c3
 revert f l;intro(f:List Fld) (l:List Upl)
 simp only [CT.Good,zi];intro hneed;obtain⟨hf,hs,hn,hb,hbo⟩:=hneed;have hsm:=YI f body;generalize hr:Ti ⟨l,n,b,s⟩ f body=r;obtain⟨⟨st,fs,bd⟩,⟨l',n',b',s'⟩⟩:=r;unfold Ti at hr
 refine spcG zh mixed Tryz.func125 (by kernel_rfl) { cfgG with nr:=[12],keep:=some [0,1,2,4,6,7,8,9,11,12,13,15,16,17,19,30,31,32,51,52,53,68,69,70]} [wM,wL,zU,zT,xk,xh,Vg,Vf,uJ,uI,UJ,UI,za7,za6] (by kernel_rfl) ?_
 intro I X hI hX
 refine orcL ?_;go_invoke;refine orcS (by kernel_rfl) ?_
 simp only [zq,Nat.reduceAdd]
 have hh: ∀ {α:Type} (y:α),I.hid y=y:=fun y=>by subst hI;rfl
 simp only [hh];generalize qQ f body=Z at *;obtain⟨ps,code⟩:=Z
 (repeat' (first|refine ja ?_ ?_|intro _))
 all_goals try(subst hI;(simp only [nrmA,nrmB,nrlB,reduceCtorEq,V0.agg.injEq,HO.pack.injEq,HO.obj.injEq] at *);first|done|exact hf.1|(exact(hf.2 _ ‹_›).1)|(exact(hf.2 _ ‹_›).2)|omega|(exact jM _)|(((repeat(first|rewrite [if_pos (by first|omega|assumption|(simp only [*,or_self,or_true,true_or,or_false,false_or,jf,jg,jd,je,and_self,and_true,true_and];done)|(simp only [*];omega)|(simp [*];done)|(simp [*];omega))] at hr|rewrite [if_neg (by first|omega|assumption|(simp only [*,or_self,or_true,true_or,or_false,false_or,jf,jg,jd,je,and_self,and_true,true_and];done)|(simp only [*];omega)|(simp [*];done)|(simp [*];omega))] at hr)));cases hr;simp [Y7];done))
 have hco:code=0:=by
  subst hI;simp only [nrmA,nrmB,nrlB,reduceCtorEq] at *;omega
 rw [if_neg (by simp [hco])] at hr
 dsimp only at hr hsm;have hrl:=zlh ps
 refine zB hI zh mixed [wM,wL,zU,zT,xk,xh,Vg,Vf,uJ,uI,UJ,UI,za7,za6] hX [0,6,7,9,30,31,32] (fun(g:Nat × Int)=>match g with|(i,r)=>i≤ps.length∧0≤r∧r+WT (ps.drop i)=WT ps) (fun(g:Nat × Int)=>match g with|(i,r)=>⟨[(0,.v (.one (.ptr 0 0))),(6,.v (.one (.ptr 6 0))),(7,.v (.one (.p (.list .prt ps)))),(9,.v (.one (.p (.int .i64 r)))),(30,.v (.one (.p (.list .prt ps)))),(31,.v (.one (.p (.int .i64 ((I.len (α:=Prt) ps)))))),(32,.v (.one (.p (.int .i64 i))))],[.obj 50 [(.ptr 1 0),(.ptr 2 0),(.ptr 3 0),(.ptr 4 0),(.ptr 5 0)],.pack [.obj 54 [(.ptr 1 0),(.ptr 2 0)],.pack [.obj 124 [(.row 1),(.p (.int .i64 n))],.row .upl 81 l],.pack [.obj 156 [(.row 1),(.p (.int .i64 s))],.row .byte 5 b]],.abs (.cn c0),.abs (.cn c1),.abs (.cn c2),.abs (.cn c3),.pack [.obj 128 [(.p (.int .i64 0)),.nilS,.nilS]]],111,none⟩) (fun(g:Nat × Int)=>match g with|(i,r)=>ps.length - i) (0,0) (by kernel_rfl) (by kernel_rfl) ?_ ?_
 · exact⟨jM _,Int.le_refl 0,by simp⟩
 rintro⟨i,r⟩ ⟨h1,h2,h3⟩ A hA;simp only at hA h1 h2 h3;have hd:=fun h=>zna (ps:=ps) (i:=i) h;have hnn:=zlg (ps.drop (i+1));have hbl:=Int.natCast_nonneg (ps.getD i ⟨[],[],[],[]⟩).bytes.length
 have hend: ¬ i<ps.length→r=WT ps:=fun h=>by rw [jF (by omega)] at h3;simp only [WT] at h3;omega
 refine orcL ?_;go_invoke;refine orcS (by kernel_rfl) ?_
 simp only [zq,Nat.reduceAdd]
 (repeat' (first|refine ja ?_ ?_|intro _))
 all_goals try(subst hI;(simp only [nrmA,nrmB,nrlB,reduceCtorEq,V0.agg.injEq,HO.pack.injEq,HO.obj.injEq] at *);first|done|omega|(exact jM _)|(have hd:=hd (by omega);omega)|(exact hA (i+1,_) ⟨by dsimp only;omega,by dsimp only;omega,by dsimp only;rw [hd (by omega)] at h3;omega⟩ (by dsimp only;omega))|(rw [hend (by omega)] at *;((repeat(first|rewrite [if_pos (by first|omega|assumption|(simp only [*,or_self,or_true,true_or,or_false,false_or,jf,jg,jd,je,and_self,and_true,true_and];done)|(simp only [*];omega)|(simp [*];done)|(simp [*];omega))] at hr|rewrite [if_neg (by first|omega|assumption|(simp only [*,or_self,or_true,true_or,or_false,false_or,jf,jg,jd,je,and_self,and_true,true_and];done)|(simp only [*];omega)|(simp [*];done)|(simp [*];omega))] at hr)));cases hr;simp [Y7];done))
 have hil: ¬ i<ps.length:=by
  subst hI;simp only [nrmA,nrmB,nrlB,reduceCtorEq] at *;omega
 have hro:zbW b (WT ps)=true:=by
  subst hI;simp only [nrmA,nrmB,nrlB,reduceCtorEq] at *;rw [hend hil] at *;assumption
 rw [if_neg (by simp [hro])] at hr
 clear hA hd hnn hbl hend h3 h2 h1
 refine zB hI zh mixed [wM,wL,zU,zT,xk,xh,Vg,Vf,uJ,uI,UJ,UI,za7,za6] hX [0,6,12,13,51,52,53] (fun(g:Nat × List Upl × Int × Str × List Int × Str)=>match g with|(i,l1,n1,b1,ids,t1)=>i≤ps.length∧qy ⟨l1,n1,b1,s⟩ ids t1 (ps.drop i)=⟨⟨st,fs,bd⟩,⟨l',n',b',s'⟩⟩∧zQ l1 n1∧n1≤n+i∧b1.length≤100000∧ids.length≤i∧t1.length≤60 * i) (fun(g:Nat × List Upl × Int × Str × List Int × Str)=>match g with|(i,l1,n1,b1,ids,t1)=>⟨[(0,.v (.one (.ptr 0 0))),(6,.v (.one (.ptr 6 0))),(12,.v (.one (.row 7))),(13,.v (.one (.p (.str t1)))),(51,.v (.one (.p (.list .prt ps)))),(52,.v (.one (.p (.int .i64 ((I.len (α:=Prt) ps)))))),(53,.v (.one (.p (.int .i64 i))))],[.obj 50 [(.ptr 1 0),(.ptr 2 0),(.ptr 3 0),(.ptr 4 0),(.ptr 5 0)],.pack [.obj 54 [(.ptr 1 0),(.ptr 2 0)],.pack [.obj 124 [(.row 1),(.p (.int .i64 n1))],.row .upl 81 l1],.pack [.obj 156 [(.row 1),(.p (.int .i64 s))],.row .byte 5 b1]],.abs (.cn c0),.abs (.cn c1),.abs (.cn c2),.abs (.cn c3),.pack [.obj 128 [(.p (.int .i64 0)),.nilS,.nilS]],.row .int 3 ids],111,none⟩) (fun(g:Nat × List Upl × Int × Str × List Int × Str)=>match g with|(i,l1,n1,b1,ids,t1)=>ps.length - i) (0,l,n,b,[],[]) (by kernel_rfl) (by kernel_rfl) ?_ ?_
 · exact⟨jM _,hr,hs,by simp,hb,jM _,jM _⟩
 rintro⟨i,l1,n1,b1,ids,t1⟩ ⟨h1,h2,h3,h4,h5,h6,h7⟩ A hA;simp only at hA h1 h2 h3 h4 h5 h6 h7
 have hx:i<ps.length→(ps.getD i ⟨[],[],[],[]⟩) ∈ ps:=fun h=>by rw [show ps.getD i ⟨[],[],[],[]⟩=ps[i] by simp [h]];exact List.getElem_mem h
 have hfd:=fun h=>zjE (q:=⟨l1,n1,b1,s⟩) (ids:=ids) (t:=t1) (ps:=ps) (i:=i) h
 have hend: ¬ i<ps.length→qy ⟨l1,n1,b1,s⟩ ids t1 (ps.drop i)=⟨⟨201,[],t1⟩,syS ⟨l1,n1,b1,s⟩⟩:=fun h=>by rw [jF (by omega)];rfl
 have hxf:i<ps.length→_:=fun h=>hsm.2.1 _ (hx h);have hxb:i<ps.length→_:=fun h=>zsI (hx h);have hql:=fun p=>zs4 (q:=⟨l1,n1,b1,s⟩) h3 h5 p;have hn0:=h3.n0;have hdl:=uO (n1+1)
 refine orcL ?_;go_invoke;refine orcS (by kernel_rfl) ?_
 simp only [zq,Nat.reduceAdd]
 have e1:I.get ps ⟨[],[],[],[]⟩ (i:Int)=ps.getD i ⟨[],[],[],[]⟩:=by subst hI;first|rfl|simp
 simp only [e1];generalize ps.getD i ⟨[],[],[],[]⟩=x at *;have e0:(⟨x.name,x.file,x.type,x.bytes⟩:Prt)=x:=rfl;have hql:=hql x;simp only [e0,hh];generalize zfC ⟨l1,n1,b1,s⟩ x=c at *;generalize Zj ⟨l1,n1,b1,s⟩ x=Y at *;obtain⟨l2,n2,b2,s2⟩:=Y;obtain⟨g1,g2,g3,g4,g5⟩:=hql;dsimp only at g1 g2 g3 g4 g5 hfd;obtain rfl:s=s2:=g5.symm
 (repeat' (first|refine ja ?_ ?_|intro _))
 all_goals try(subst hI;(simp only [nrmA,nrmB,nrlB,reduceCtorEq,V0.agg.injEq,HO.pack.injEq,HO.obj.injEq] at *);first|done|omega|(with_reducible assumption)|(have hxf:=hxf (by omega);have hxb:=hxb (by omega);first|omega|with_reducible assumption)|(rw [if_pos (by with_reducible assumption)];first|omega|(have hxf:=hxf (by omega);rw [jk];simp only [jh,ji];omega))|(have hfd:=hfd (by omega);rw [h2] at hfd;((repeat(first|rewrite [if_pos (by first|omega|assumption|(simp only [*,or_self,or_true,true_or,or_false,false_or,jf,jg,jd,je,and_self,and_true,true_and];done)|(simp only [*];omega)|(simp [*];done)|(simp [*];omega))] at hfd|rewrite [if_neg (by first|omega|assumption|(simp only [*,or_self,or_true,true_or,or_false,false_or,jf,jg,jd,je,and_self,and_true,true_and];done)|(simp only [*];omega)|(simp [*];done)|(simp [*];omega))] at hfd)));exact hA (i+1,l1,n1,b1,ids,t1) ⟨by dsimp only;omega,hfd.symm,h3,by dsimp only;omega,h5,by dsimp only;omega,by dsimp only;omega⟩ (by dsimp only;omega))|(rw [if_pos (show c=0 by omega)];have hxf:=hxf (by omega);simp only [jk,jh,ji];omega)|(rw [if_pos (show c=0 by omega)];have hxf:=hxf (by omega);have hfd:=hfd (by omega);rw [h2] at hfd;((repeat(first|rewrite [if_pos (by first|omega|assumption|(simp only [*,or_self,or_true,true_or,or_false,false_or,jf,jg,jd,je,and_self,and_true,true_and];done)|(simp only [*];omega)|(simp [*];done)|(simp [*];omega))] at hfd|rewrite [if_neg (by first|omega|assumption|(simp only [*,or_self,or_true,true_or,or_false,false_or,jf,jg,jd,je,and_self,and_true,true_and];done)|(simp only [*];omega)|(simp [*];done)|(simp [*];omega))] at hfd)));exact hA (i+1,l2,n2,b2,ids++[n1+1],t1++(decS (n1+1)++[32]++x.file++[10])) ⟨by dsimp only;omega,hfd.symm,g1,by dsimp only;omega,g2,by simp only [jk,jh,ji];omega,by simp only [jk,jh,ji];omega⟩ (by dsimp only;omega))|(rw [hend (by omega)] at h2;simp only [GA.mk.injEq,Rpl.mk.injEq,syS,Sto.mk.injEq] at h2;obtain⟨⟨rfl,rfl,rfl⟩,rfl,rfl,rfl,rfl⟩:=h2;simp))
 have hil:i<ps.length:=by
  subst hI;simp only [nrmA,nrmB,nrlB,reduceCtorEq] at *;omega
 have hc: ¬ c=0:=by
  subst hI;simp only [nrmA,nrmB,nrlB,reduceCtorEq] at *
  first|omega|with_reducible assumption
 have hfi: ¬ x.file=[]:=by
  subst hI;simp only [nrmA,nrmB,nrlB,reduceCtorEq] at *
  first|omega|with_reducible assumption
 have hfd:=hfd hil;rw [h2,if_neg hfi,if_pos hc] at hfd;generalize hD:TM ⟨l2,n2,b2,s⟩ ids=W at hfd;clear hA hend hxf hxb hdl h2
 refine zB hI zh mixed [wM,wL,zU,zT,xk,xh,Vg,Vf,uJ,uI,UJ,UI,za7,za6] hX [0,6,17,68,69,70] (fun(g:Nat × List Upl × Int × Str)=>match g with|(j,l3,n3,b3)=>j≤ids.length∧TM ⟨l3,n3,b3,s⟩ (ids.drop j)=W∧zQ l3 n3∧n3≤200000∧b3.length≤100000) (fun(g:Nat × List Upl × Int × Str)=>match g with|(j,l3,n3,b3)=>⟨[(0,.v (.one (.ptr 0 0))),(6,.v (.one (.ptr 6 0))),(17,.v (.one (.p (.int .i64 c)))),(68,.v (.one (.row 7))),(69,.v (.one (.p (.int .i64 ((I.len (α:=Int) ids)))))),(70,.v (.one (.p (.int .i64 j))))],[.obj 50 [(.ptr 1 0),(.ptr 2 0),(.ptr 3 0),(.ptr 4 0),(.ptr 5 0)],.pack [.obj 54 [(.ptr 1 0),(.ptr 2 0)],.pack [.obj 124 [(.row 1),(.p (.int .i64 n3))],.row .upl 81 l3],.pack [.obj 156 [(.row 1),(.p (.int .i64 s))],.row .byte 5 b3]],.abs (.cn c0),.abs (.cn c1),.abs (.cn c2),.abs (.cn c3),.pack [.obj 128 [(.p (.int .i64 0)),.nilS,.nilS]],.row .int 3 ids],111,none⟩) (fun(g:Nat × List Upl × Int × Str)=>match g with|(j,l3,n3,b3)=>ids.length - j) (0,l2,n2,b2) (by kernel_rfl) (by kernel_rfl) ?_ ?_
 · exact⟨jM _,hD,g1,by omega,g2⟩
 rintro⟨j,l3,n3,b3⟩ ⟨k1,k2,k3,k4,k5⟩ B hB;simp only at hB k1 k2 k3 k4 k5;have hdd:=fun h=>zjL (q:=⟨l3,n3,b3,s⟩) (ids:=ids) (j:=j) h
 have hend: ¬ j<ids.length→(⟨l3,n3,b3,s⟩:Sto)=W:=fun h=>by rw [← k2,jF (by omega)];rfl
 have hfin: ¬ j<ids.length→st=(if c=4 then 413 else 507)∧[]=bd∧n3=n'∧l3=l'∧(b3.length:Int)=s'∧b3=b':=fun h=>by
  rw [← hend h] at hfd;simp only [GA.mk.injEq,Rpl.mk.injEq,syS,Sto.mk.injEq,Y7] at hfd;obtain⟨⟨q1,q2,q3⟩,q4,q5,q6,q7⟩:=hfd;exact⟨q1,q3.symm,q5.symm,q4.symm,q7.symm,q6.symm⟩
 refine orcL ?_;go_invoke;refine orcS (by kernel_rfl) ?_
 simp only [zq,Nat.reduceAdd]
 have e2:I.get ids 0 (j:Int)=ids.getD j 0:=by subst hI;first|rfl|simp
 simp only [e2];generalize ids.getD j 0=y at *;have w1:=zdp k3 b3 (zdl y)
 have w2:wrtN l3 n3 b3 (zdl y)=n3:=Zq (show(4:Int)≠1 by decide)
 have w3:=Y8 (l:=l3) (n:=n3) (b:=b3) (zdl y) k5;unfold zdl at w1 w2 w3 hdd
 (repeat' (first|refine ja ?_ ?_|intro _))
 all_goals subst hI
 all_goals try simp only [nrmA,nrmB,nrlB,reduceCtorEq,V0.agg.injEq,HO.pack.injEq,HO.obj.injEq] at *
 all_goals first|omega|(with_reducible assumption)|(exact⟨k3,k4,k5⟩)|(exact jM _)|(have hdd:=hdd (by omega);rw [k2] at hdd;exact hB (j+1,wrtL l3 n3 b3 ⟨4,y,0,[]⟩,wrtN l3 n3 b3 ⟨4,y,0,[]⟩,wrtB l3 n3 b3 ⟨4,y,0,[]⟩) ⟨by dsimp only;omega,hdd.symm,w1,by dsimp only;omega,w3⟩ (by dsimp only;omega))|(obtain⟨q1,q2,q3,q4,q5,q6⟩:=hfin (by omega);first|(rw [if_pos (by with_reducible assumption)] at q1;exact⟨q1.symm,q2⟩)|(rw [if_neg (by with_reducible assumption)] at q1;exact⟨q1.symm,q2⟩)|exact⟨⟨q3,q4⟩,q5,q6⟩)|trace_state
def zth:Know Tryz.prog:=⟨125,za9,zl1⟩
def ztg:Know Tryz.prog:=⟨125,fun I=>zy I (za9 I),zf zl1⟩
end Go.Proofs.YtkjepecoodjbmaaGreatDoor
namespace Go.Proofs.YtkjepecoodjbmaaGreatDoor
open Go Go.Sep Go.Ab
set_option maxRecDepth 100000
def ztS:Cfg:= { sl:=[⟨207,0,.byte,some 5⟩]}
def zbr (I:Alg) (args:List D) (hp:List HO):Option CT:=match args,hp with
 |[],[]=>(fun(_:Unit)=>(some (.one ⟨I.hid (True),(.ret (.v (.one (.ptr 0 0)))),[.pack [.obj 228 [(.ptr 1 0),(.p (.int .i64 0)),(.p (.int .i64 0)),(.p (.int .i64 0)),(.p (.int .i64 0)),(.p (.int .i64 0))],.pack [.obj 207 [(.row 1),(.p (.bool false)),(.p (.int .i64 0))],.row .byte 5 (I.hid ([]))]]]⟩):Option CT)) ()
 |_,_=>none
theorem zmD:zx Tryz.prog 213 (zbr alg):=by
 intro args hp r h;unfold zbr at h;split at h<;>cases h
 simp only [CT.Good,zi];intro _
 refine spcG zh mixed Tryz.func213 (by kernel_rfl) { ztS with keep:=some [0]} [zaY,zaX] (by kernel_rfl) ?_
 intro I X hI hX
 refine orcL ?_;go_invoke;refine orcS (by kernel_rfl) ?_
 simp only [zq,Nat.reduceAdd];subst hI;exact⟨trivial,trivial,rfl⟩
def zmC:Know Tryz.prog:=⟨213,zbr,zmD⟩
def zmB:Know Tryz.prog:=⟨213,fun I=>zy I (zbr I),zf zmD⟩
def Si (I:Alg) (args:List D) (hp:List HO):Option CT:=match args,hp with
 |[.v (.one (.ptr 0 0)),.v (.one (.p (.int .i64 k)))],[.pack [.obj 228 [(.ptr 1 0),(.p (.int .i64 p)),(.p (.int .i64 l)),(.p (.int .i64 a)),(.p (.int .i64 t)),(.p (.int .i64 c))],.pack [.obj 207 [(.row 1),(.p (.bool lc)),(.p (.int .i64 lo))],.row .byte 5 lb]]]=>(fun(lb:Str) (lc:Bool) (lo p l a t c k:Int)=>(some (.one ⟨I.hid (True),(.ret (.tup [(.one (.row 1)),(.one (.p (.bool false))),(.one (.p (.int .i64 k)))])),[.pack [.obj 228 [(.ptr 1 0),(.p (.int .i64 p)),(.p (.int .i64 l)),(.p (.int .i64 a)),(.p (.int .i64 t)),(.p (.int .i64 k))],.pack [.obj 207 [(.row 1),(.p (.bool lc)),(.p (.int .i64 lo))],.row .byte 5 lb]],.row .byte 5 (I.hid ([]))]⟩):Option CT)) lb lc lo p l a t c k
 |_,_=>none
theorem ziz:zx Tryz.prog 167 (Si alg):=by
 intro args hp r h;unfold Si at h;split at h<;>cases h
 rename_i k p l a t c lc lo lb;simp only [CT.Good,zi];intro _
 refine spcG zh mixed Tryz.func167 (by kernel_rfl) { ztS with nr:=[4],keep:=some [0,1,4,5,6]} [] (by kernel_rfl) ?_
 intro I X hI hX
 refine orcL ?_;go_invoke;refine orcS (by kernel_rfl) ?_
 simp only [zq,Nat.reduceAdd];subst hI;simp only [nrmA,nrmB,nrlB,reduceCtorEq,HO.pack.injEq,HO.obj.injEq]
 try trivial
def zrl:Know Tryz.prog:=⟨167,Si,ziz⟩
def zrk:Know Tryz.prog:=⟨167,fun I=>zy I (Si I),zf ziz⟩
def Yd (I:Alg) (args:List D) (hp:List HO):Option CT:=match args,hp with
 |[.v (.one (.p (.str s)))],[]=>(fun(s:Str)=>(some (.one ⟨I.hid (s.length≤1000000),(.ret (.tup [(.one (.p (.int .i64 (I.hid ((if(wC s).2 then(wC s).1 else 0)))))),(.one (.p (.int .i64 (I.hid ((if(wC s).2 then 0 else 7))))))])),[]⟩):Option CT)) s
 |_,_=>none
theorem zcZ:zx Tryz.prog 209 (Yd alg):=by
 intro args hp r h;unfold Yd at h;split at h<;>cases h
 rename_i s;simp only [CT.Good,zi];intro hneed;generalize hr:wC s=r;obtain⟨n,ok⟩:=r;unfold wC at hr;have hl:=(zbl s 59).1
 refine spcG zh mixed Tryz.func209 (by kernel_rfl) { keep:=some [0,2,3,4,7,8]} [Sr,Sm,zoR,zoQ,zf9,zf8] (by kernel_rfl) ?_
 intro I X hI hX
 refine orcL ?_;go_invoke;refine orcS (by kernel_rfl) ?_
 simp only [zq,Nat.reduceAdd];subst hI;simp only [nrmA,nrmB,nrlB,reduceCtorEq];rw [hr];cases ok
 all_goals(repeat' (first|refine ja ?_ ?_|intro _))<;>first|omega|exact jb|exact jc ‹False›|skip
 all_goals first
  |exact hneed
  |trivial
  |omega
  |(simp at *;done)
def zjR:Know Tryz.prog:=⟨209,Yd,zcZ⟩
def zjQ:Know Tryz.prog:=⟨209,fun I=>zy I (Yd I),zf zcZ⟩
def TU (I:Alg) (args:List D) (hp:List HO):Option CT:=match args,hp with
 |[.v (.one (.ptr 0 0)),.v (.one (.p (.str s)))],[.pack [.obj 228 [(.ptr 1 0),(.p (.int .i64 p)),(.p (.int .i64 l)),(.p (.int .i64 a)),(.p (.int .i64 t)),(.p (.int .i64 c))],.pack [.obj 207 [(.row 1),(.p (.bool lc)),(.p (.int .i64 lo))],.row .byte 5 lb]]]=>(fun(lb:Str) (lc:Bool) (lo p l a t c:Int) (s:Str)=>(some (.one ⟨I.hid (s.length≤1000000∧(0≤a∧a≤1000000)∧0≤t∧t≤1000000),(.ret (.v (.one (.p (.int .i64 (I.hid ((chL ⟨⟨lb,lc,lo⟩,p,l,a,t,c⟩ s).2))))))),[.pack [.obj 228 [(.ptr 1 0),(.p (.int .i64 (I.hid ((chL ⟨⟨lb,lc,lo⟩,p,l,a,t,c⟩ s).1.pos)))),(.p (.int .i64 (I.hid ((chL ⟨⟨lb,lc,lo⟩,p,l,a,t,c⟩ s).1.left)))),(.p (.int .i64 (I.hid ((chL ⟨⟨lb,lc,lo⟩,p,l,a,t,c⟩ s).1.all)))),(.p (.int .i64 (I.hid ((chL ⟨⟨lb,lc,lo⟩,p,l,a,t,c⟩ s).1.tails)))),(.p (.int .i64 c))],.pack [.obj 207 [(.row 1),(.p (.bool lc)),(.p (.int .i64 lo))],.row .byte 5 lb]]]⟩):Option CT)) lb lc lo p l a t c s
 |_,_=>none
set_option maxHeartbeats 4000000 in
theorem zix:zx Tryz.prog 168 (TU alg):=by
 intro args hp r h;unfold TU at h;split at h<;>cases h
 rename_i s p l a t c lc lo lb;simp only [CT.Good,zi];intro hneed;obtain⟨hs,⟨ha0,ha1⟩,ht0,ht1⟩:=hneed;generalize hr:chL ⟨⟨lb,lc,lo⟩,p,l,a,t,c⟩ s=r;unfold chL at hr;simp only at hr;have hsz:=qL s
 have hsz2:(wC s).2=false∨(wC s).2=true:=by cases(wC s).2<;>simp
 obtain⟨⟨⟨rb,rc,ro⟩,rp,rl,ra,rt,rc2⟩,re⟩:=r
 refine spcG zh mixed Tryz.func168 (by kernel_rfl) { ztS with keep:=some [0,1,4,5,6,8,12]} [Uj,Ui,zjR,zjQ] (by kernel_rfl) ?_
 intro I X hI hX
 refine orcL ?_;go_invoke;refine orcS (by kernel_rfl) ?_
 simp only [zq,Nat.reduceAdd];subst hI;simp only [nrmA,nrmB,nrlB,reduceCtorEq,HO.pack.injEq,HO.obj.injEq];generalize wC s=z at *;obtain⟨n,ok⟩:=z;simp only at *;cases ok
 all_goals simp only [jd,if_false,if_true] at *
 all_goals(repeat' (first|refine ja ?_ ?_|intro _))<;>first|omega|exact jb|exact jc ‹False›|skip
 all_goals first
  |exact hs
  |omega
  |(exfalso;simp at *;done)
  |(((repeat(first|rewrite [if_pos (by first|omega|assumption|(simp only [*,or_self,or_true,true_or,or_false,false_or,jf,jg,jd,je,and_self,and_true,true_and];done)|(simp only [*];omega)|(simp [*];done)|(simp [*];omega))] at hr|rewrite [if_neg (by first|omega|assumption|(simp only [*,or_self,or_true,true_or,or_false,false_or,jf,jg,jd,je,and_self,and_true,true_and];done)|(simp only [*];omega)|(simp [*];done)|(simp [*];omega))] at hr)));cases hr;first|rfl|done|with_reducible assumption|exact⟨rfl,rfl,rfl⟩|(simp;done)|(simp;omega))
def zrj:Know Tryz.prog:=⟨168,TU,zix⟩
def zri:Know Tryz.prog:=⟨168,fun I=>zy I (TU I),zf zix⟩
theorem zmE (s:Ch) (t:Str):(chL s t).1.ln=s.ln∧(chL s t).1.code=s.code:=by
 unfold chL
 split
 · split<;>exact⟨rfl,rfl⟩
 split
 · split
   · exact⟨rfl,rfl⟩
   split
   · exact⟨rfl,rfl⟩
   split<;>exact⟨rfl,rfl⟩
 split
 · split
   · exact⟨rfl,rfl⟩
   split<;>exact⟨rfl,rfl⟩
 · exact⟨rfl,rfl⟩
def TY (I:Alg) (args:List D) (hp:List HO):Option CT:=match args,hp with
 |[.v (.one (.ptr 0 0)),.v (.one (.p (.int .u8 k)))],[.pack [.obj 228 [(.ptr 1 0),(.p (.int .i64 p)),(.p (.int .i64 l)),(.p (.int .i64 a)),(.p (.int .i64 t)),(.p (.int .i64 c))],.pack [.obj 207 [(.row 1),(.p (.bool lc)),(.p (.int .i64 lo))],.row .byte 5 lb]]]=>(fun(lb:Str) (lc:Bool) (lo p l a t c k:Int)=>(some (.one ⟨I.hid ((0≤k∧k≤255)∧lb.length≤1000000∧(-1000000≤l∧l≤100000000)∧(0≤a∧a≤1000000)∧0≤t∧t≤1000000),(.ret (.tup [(.one (.row 1)),(.one (.p (.bool (I.hid ((chF ⟨⟨lb,lc,lo⟩,p,l,a,t,c⟩ (UInt8.ofNat k.toNat)).2.2.1))))),(.one (.p (.int .i64 (I.hid ((chF ⟨⟨lb,lc,lo⟩,p,l,a,t,c⟩ (UInt8.ofNat k.toNat)).2.2.2)))))])),[.pack [.obj 228 [(.ptr 1 0),(.p (.int .i64 (I.hid ((chF ⟨⟨lb,lc,lo⟩,p,l,a,t,c⟩ (UInt8.ofNat k.toNat)).1.pos)))),(.p (.int .i64 (I.hid ((chF ⟨⟨lb,lc,lo⟩,p,l,a,t,c⟩ (UInt8.ofNat k.toNat)).1.left)))),(.p (.int .i64 (I.hid ((chF ⟨⟨lb,lc,lo⟩,p,l,a,t,c⟩ (UInt8.ofNat k.toNat)).1.all)))),(.p (.int .i64 (I.hid ((chF ⟨⟨lb,lc,lo⟩,p,l,a,t,c⟩ (UInt8.ofNat k.toNat)).1.tails)))),(.p (.int .i64 (I.hid ((chF ⟨⟨lb,lc,lo⟩,p,l,a,t,c⟩ (UInt8.ofNat k.toNat)).1.code))))],.pack [.obj 207 [(.row 1),(.p (.bool (I.hid ((chF ⟨⟨lb,lc,lo⟩,p,l,a,t,c⟩ (UInt8.ofNat k.toNat)).1.ln.cr)))),(.p (.int .i64 (I.hid ((chF ⟨⟨lb,lc,lo⟩,p,l,a,t,c⟩ (UInt8.ofNat k.toNat)).1.ln.code))))],.row .byte 5 (I.hid ((chF ⟨⟨lb,lc,lo⟩,p,l,a,t,c⟩ (UInt8.ofNat k.toNat)).1.ln.b))]],.row .byte 5 (I.hid ((chF ⟨⟨lb,lc,lo⟩,p,l,a,t,c⟩ (UInt8.ofNat k.toNat)).2.1))]⟩):Option CT)) lb lc lo p l a t c k
 |_,_=>none
set_option maxHeartbeats 8000000 in
theorem ziy:zx Tryz.prog 119 (TY alg):=by
 intro args hp r h;unfold TY at h;split at h<;>cases h
 rename_i k p l a t c lc lo lb;simp only [CT.Good,zi];intro hneed;obtain⟨⟨hk0,hk1⟩,hlb,⟨hl0,hl1⟩,⟨ha0,ha1⟩,ht0,ht1⟩:=hneed;generalize hr:chF ⟨⟨lb,lc,lo⟩,p,l,a,t,c⟩ (UInt8.ofNat k.toNat)=r;unfold chF at hr;simp only at hr;have hkeep:=zmE ⟨(lnF ⟨lb,lc,lo⟩ (UInt8.ofNat k.toNat)).1,p,l,a,t,c⟩ (lnF ⟨lb,lc,lo⟩ (UInt8.ofNat k.toNat)).2.1;have hlen:=YL ⟨lb,lc,lo⟩ (UInt8.ofNat k.toNat);obtain⟨⟨⟨rb,rc,ro⟩,rp,rl,ra,rt,rc2⟩,rd,ris,re⟩:=r
 refine spcG zh mixed Tryz.func119 (by kernel_rfl) { ztS with nr:=[4],keep:=some [0,1,4,5,6,7,8,9]} [qj,qi,zrl,zrk,zrj,zri] (by kernel_rfl) ?_
 intro I X hI hX
 refine orcL ?_;go_invoke;refine orcS (by kernel_rfl) ?_
 simp only [zq,Nat.reduceAdd];subst hI;simp only [nrmA,nrmB,nrlB,reduceCtorEq,HO.pack.injEq,HO.obj.injEq];generalize lnF ⟨lb,lc,lo⟩ (UInt8.ofNat k.toNat)=q at *;obtain⟨⟨qb,qc,qo⟩,qs,qis,qe⟩:=q;simp only at *;generalize chL ⟨⟨qb,qc,qo⟩,p,l,a,t,c⟩ qs=z at *;obtain⟨⟨⟨zb,zc,zo⟩,zp,zl,za,zt,zk⟩,ze⟩:=z;simp only [Ln.mk.injEq] at *;obtain⟨⟨rfl,rfl,rfl⟩,rfl⟩:=hkeep;cases qis
 all_goals simp only [jd,if_false,if_true] at *
 all_goals(repeat' (first|refine ja ?_ ?_|intro _))<;>first|omega|exact jb|exact jc ‹False›|skip
 all_goals first
  |omega
  |(exfalso;simp at *;done)
  |(((repeat(first|rewrite [if_pos (by first|omega|assumption|(simp only [*,or_self,or_true,true_or,or_false,false_or,jf,jg,jd,je,and_self,and_true,true_and];done)|(simp only [*];omega)|(simp [*];done)|(simp [*];omega))] at hr|rewrite [if_neg (by first|omega|assumption|(simp only [*,or_self,or_true,true_or,or_false,false_or,jf,jg,jd,je,and_self,and_true,true_and];done)|(simp only [*];omega)|(simp [*];done)|(simp [*];omega))] at hr)));cases hr;first|rfl|done|with_reducible assumption|exact⟨rfl,rfl,rfl⟩|(simp;done)|(simp;omega))
def TW:Know Tryz.prog:=⟨119,TY,ziy⟩
def TV:Know Tryz.prog:=⟨119,fun I=>zy I (TY I),zf ziy⟩
end Go.Proofs.YtkjepecoodjbmaaGreatDoor
namespace Go.Proofs.YtkjepecoodjbmaaGreatDoor
open Go Go.Sep Go.Ab
set_option maxRecDepth 100000
theorem zpT: ∀ (s:Str) (n:Int),0≤n→(numG 16 n s).1+1≤(n+1) * 16 ^ s.length
 |[],n,h=>by simp [numG]
 | c ::l,n,h=>by
   have h16:(0:Int)<16 ^ l.length:=Int.pow_pos (by decide)
   have e:((n+1) * 16 ^ (c::l).length:Int)=((n+1) * 16) * 16 ^ l.length:=by rw [jh,Int.pow_succ,Int.mul_assoc,Int.mul_comm (16 ^ l.length) 16]
   rw [e,numG]
   split
   · have h1:(1:Int) * 1≤((n+1) * 16) * 16 ^ l.length:=Int.mul_le_mul (by omega) (by omega) (by decide) (by omega)
     simpa using h1
   · rename_i hc
     have h2:=zpT l (n * 16+hexK c.toNat) (by omega)
     exact Int.le_trans h2 (Int.mul_le_mul_of_nonneg_right (by omega) (by omega))
theorem zkM (t:Str):(wC t).1≤16777215:=by
 unfold wC numA
 split
 · exact by decide
 · rename_i h
   have h1:=zpT (Lib.trimS (cutB t 59).1 [32,9]) 0 (Int.le_refl _)
   have h2:(Lib.trimS (cutB t 59).1 [32,9]).length≤6:=by omega
   have h3:(16:Int) ^ (Lib.trimS (cutB t 59).1 [32,9]).length≤16 ^ 6:=by
    have:=Nat.pow_le_pow_right (show 0<16 by decide) h2
    exact_mod_cast this
   have h4:(16:Int) ^ 6=16777216:=by decide
   omega
structure ChI (s:Ch) (i:Nat):Prop where
 b:s.ln.b.length≤i
 a0:0≤s.all
 a1:s.all≤i
 t0:0≤s.tails
 t1:s.tails≤i
 l0: -(i:Int)≤s.left
 l1:s.left≤16777215
theorem zxx:ChI ch0 0:=⟨by decide,by decide,by decide,by decide,by decide,by decide,by decide⟩
theorem zx7 {s:Ch} {i:Nat} (h:ChI s i) (c:UInt8):ChI (chF s c).1 (i+1):=by
 have hb:=zsZ s.ln c;have h0:=h;obtain⟨h1,h2,h3,h4,h5,h6,h7⟩:=h;unfold chF
 split
 · exact⟨by show s.ln.b.length≤i+1;omega,h2,by show s.all≤_;omega,h4,by show s.tails≤_;omega,by show _≤s.left;omega,h7⟩
 split
 · constructor<;>simp only<;>omega
 split
 · constructor<;>simp only<;>omega
 split
 · constructor<;>simp only<;>omega
 split
 · have hl: ∀ t,(chL { s with ln:=(lnF s.ln c).1} t).1.ln=(lnF s.ln c).1:=fun t=>(zmE _ _).1
   have key: ∀ t,ChI (chL { s with ln:=(lnF s.ln c).1} t).1 (i+1):=fun t=>by
    have hz:=qL t;have hz2:=zkM t;unfold chL
    repeat' split
    all_goals constructor
    all_goals simp only
    all_goals omega
   split
   · obtain⟨k1,k2,k3,k4,k5,k6,k7⟩:=key (lnF s.ln c).2.1
     exact⟨k1,k2,k3,k4,k5,k6,k7⟩
   · exact key _
 · constructor<;>simp only<;>omega
theorem zmF {s:Ch} {i:Nat} (h:ChI s i) (hi:i≤1000000):s.ln.b.length≤1000000∧(-1000000≤s.left∧s.left≤100000000)∧(0≤s.all∧s.all≤1000000)∧0≤s.tails∧s.tails≤1000000:=by
 obtain⟨h1,h2,h3,h4,h5,h6,h7⟩:=h;omega
theorem zf6 {s:Ch} {i j:Nat} (h:ChI s i) (k:i≤j):ChI s j:=by
 obtain⟨h1,h2,h3,h4,h5,h6,h7⟩:=h
 exact⟨by omega,h2,by omega,h4,by omega,by omega,h7⟩
end Go.Proofs.YtkjepecoodjbmaaGreatDoor
namespace Go.Proofs.YtkjepecoodjbmaaGreatDoor
open Go Go.Sep Go.Ab
set_option maxRecDepth 100000
structure RqI (q:Rq) (i:Nat):Prop where
 lb:q.ln.b.length≤i
 ck: ∀ c,q.ck=some c→ChI c i
 p3:q.pos=3→q.ck≠none
 ow:q.pos=0∨q.pos=1→q.own=true
 fl:q.h.fields.length≤16
 ff: ∀ f ∈ q.h.fields,f.name.length≤i∧f.value.length≤i
 l0:0≤q.left
 l1:q.left≤4000
 l2:q.pos=2→1≤q.left
 on:q.out.length≤4 * i
theorem zwy:RqI rq0 0:=⟨by decide,(fun c h=>by cases h),(fun h=>by cases h),fun _=>rfl,by decide,(fun f h=>by cases h),by decide,by decide,(fun h=>by cases h),by decide⟩
theorem zsr {q:Rq} {i j:Nat} (h:RqI q i) (k:i≤j):RqI q j:=by
 obtain⟨h1,h2,h3,h4,h5,h6,h7,h8,h9,h10⟩:=h
 exact⟨by omega,fun c e=>zf6 (h2 c e) k,h3,h4,h5,fun f m=>by have:=h6 f m;omega,h7,h8,h9,by omega⟩
theorem zo4 {q:Rq} {i:Nat} (h:RqI q i) {o:List Evt} (k:o.length≤4 * i):RqI { q with out:=o} i:=⟨h.lb,h.ck,h.p3,h.ow,h.fl,h.ff,h.l0,h.l1,h.l2,k⟩
theorem zfB (mi:Int) (f:List Fld): -1≤(lenM mi f).1∧(lenM mi f).1≤4000:=by
 have hs: ∀ (l:List Str) (a:Str) (n:Int),0≤n→0≤(sizM a n l).1:=by
  intro l
  induction l with
  |nil=>intro a n h;exact h
  | cons s r ih=>
    intro a n h;unfold sizM
    split
    · exact Int.le_refl _
    · split
      · exact Int.le_refl _
      · exact ih _ _ (vZ s).1
 unfold lenM
 repeat' split
 all_goals simp only
 all_goals first
  |decide
  |(have:=hs (valsF f Qc) ((valsF f Qc).getD 0 []) 0 (by decide);omega)
theorem zxC (s:Str):(begM s).2.fields=[]:=by
 unfold begM
 split
 · repeat' split
   all_goals rfl
 · rfl
theorem zsy {q:Rq} {i:Nat} (h:RqI q i) (k:Nat) (ho:q.out.length≤k):RqI { (yC q).1 with out:=[],pos:=4} i∧((yC q).2=0→RqI { (yC q).1 with out:=[]} i)∧(yC q).1.out.length≤k+2:=by
 have hl:=zfB q.h.minor q.h.fields;obtain⟨h1,h2,h3,h4,h5,h6,h7,h8,h9,h10⟩:=h;unfold yC vY
 split
 · exact⟨⟨h1,h2,(fun h=>by cases h),(fun h=>by simp at h),h5,h6,h7,h8,(fun h=>by cases h),by simp⟩,(fun h=>by cases h),by simp only;omega⟩
 split
 · rename_i hz
   exact⟨⟨h1,h2,(fun h=>by cases h),(fun h=>by simp at h),h5,h6,h7,h8,(fun h=>by cases h),by simp⟩,fun h=>absurd h hz,by simp only;omega⟩
 split
 · exact⟨⟨h1,h2,(fun h=>by cases h),(fun h=>by simp at h),by simp [hd0],(fun f m=>by cases m),h7,h8,(fun h=>by cases h),by simp⟩,fun _=>⟨h1,h2,(fun h=>by cases h),fun _=>rfl,by simp [hd0],(fun f m=>by cases m),h7,h8,(fun h=>by cases h),by simp⟩,by simp;omega⟩
 split
 · exact⟨⟨h1,h2,(fun h=>by cases h),(fun h=>by simp at h),h5,h6,by simp only;omega,by simp only;omega,(fun h=>by cases h),by simp⟩,fun _=>⟨h1,h2,(fun h=>by cases h),(fun h=>by simp at h),h5,h6,by simp only;omega,by simp only;omega,fun _=>by simp only;omega,by simp⟩,by simp;omega⟩
 · exact⟨⟨h1,(fun c e=>by cases e;exact zf6 zxx (jM _)),(fun h=>by cases h),(fun h=>by simp at h),h5,h6,h7,h8,(fun h=>by cases h),by simp⟩,fun _=>⟨h1,(fun c e=>by cases e;exact zf6 zxx (jM _)),(fun _ h=>by cases h),(fun h=>by simp at h),h5,h6,h7,h8,(fun h=>by simp at h),by simp⟩,by simp;omega⟩
theorem zaK {q:Rq} {i:Nat} (h:RqI q i):RqI { q with out:=[],pos:=4} i:=⟨h.lb,h.ck,(fun h=>by cases h),(fun h=>by simp at h),h.fl,h.ff,h.l0,h.l1,(fun h=>by cases h),by simp⟩
theorem zsq {q:Rq} {i:Nat} (h:RqI q i) (hp:q.pos=0∨q.pos=1) {s:Str} (hs:s.length≤i) (k:Nat) (ho:q.out.length≤k):RqI { (zJ q s).1 with out:=[],pos:=4} i∧((zJ q s).2=0→RqI { (zJ q s).1 with out:=[]} i)∧(zJ q s).1.out.length≤k+2:=by
 have h0:RqI { q with out:=[]} i:=zo4 h (by simp)
 have hx:=zaK h;have hd:=zsy h k ho;have hpl:=zb4 s;have hb:=zxC s;have how:=h.ow hp;unfold zJ
 split
 · split
   · exact⟨hx,fun _=>h0,by simp only;omega⟩
   split
   · have h1:RqI { q with h:=(begM s).2,pos:=1,out:=[]} i:=⟨h.lb,h.ck,(fun h=>by cases h),fun _=>how,by simp [hb],(by simp [hb]),h.l0,h.l1,(fun h=>by cases h),by simp⟩
     have hd1:=zaK h1
     exact⟨hd1,fun _=>h1,by simp only;omega⟩
   split
   · have h1:RqI { q with h:=(begM s).2,out:=[]} i:=⟨h.lb,h.ck,h.p3,fun _=>how,by simp [hb],(by simp [hb]),h.l0,h.l1,h.l2,by simp⟩
     have hd1:=zaK h1
     exact⟨hd1,fun _=>h1,by simp only;omega⟩
   · exact⟨hx,fun _=>h0,by simp only;omega⟩
 · split
   · exact hd
   split
   · exact⟨hx,fun _=>h0,by simp only;omega⟩
   · rename_i h16
     have h1:RqI { q with h:= { q.h with fields:=q.h.fields++[(yj s).1]},out:=[]} i:=by
      refine⟨h.lb,h.ck,h.p3,h.ow,?_,?_,h.l0,h.l1,h.l2,by simp⟩
      · have:=h.fl;simp;omega
      · intro f hf
        rcases List.mem_append.1 hf with hf|hf
        · exact h.ff f hf
        · simp only [List.mem_singleton] at hf
          subst hf;omega
     have hd1:=zaK h1
     exact⟨hd1,fun _=>h1,by simp only;omega⟩
theorem zi7 {q:Rq} {i:Nat} (h:RqI q i) (c:UInt8):RqI (rqF q c) (i+1):=by
 have hm:=zsr h (Nat.le_succ i);have hon:=h.on;unfold rqF
 split
 · rename_i hp
   have h2:=h.l2 hp
   split
   · exact⟨hm.lb,hm.ck,(fun h=>by cases h),fun _=>rfl,by simp [vY,hd0],(fun f m=>by cases m),(Int.le_refl _),(show(0:Int)≤4000 by decide),(fun h=>by cases h),by simp [vY];omega⟩
   · exact⟨hm.lb,hm.ck,hm.p3,hm.ow,hm.fl,hm.ff,by have:=h.l0;simp only;omega,by have:=h.l1;simp only;omega,fun _=>by simp only;omega,by simp;omega⟩
 split
 · rename_i hp
   have hc:ChI (chF (ckOf q) c).1 (i+1):=by
    unfold ckOf
    cases hq:q.ck with
    |none=>exact absurd hq (h.p3 hp)
    |some x=>exact zx7 (h.ck x hq) c
   split
   · exact⟨hm.lb,(fun x e=>by cases e;exact hc),(fun h=>by cases h),(fun h=>by simp [xO] at h),hm.fl,hm.ff,hm.l0,hm.l1,(fun h=>by cases h),by simp [xO];omega⟩
   split
   · refine⟨hm.lb,(fun x e=>by cases e;exact hc),(fun h=>by cases h),fun _=>rfl,by simp [vY,hd0],(fun f m=>by cases m),hm.l0,hm.l1,(fun h=>by cases h),?_⟩
     simp only [vY]
     split<;>((try simp);omega)
   · refine⟨hm.lb,(fun x e=>by cases e;exact hc),(fun _ h=>by cases h),hm.ow,hm.fl,hm.ff,hm.l0,hm.l1,hm.l2,?_⟩
     show(if(chF (ckOf q) c).2.1≠[] then q.out++[evB (chF (ckOf q) c).2.1] else q.out).length≤4 * (i+1)
     split<;>((try simp);omega)
 split
 · rename_i hp
   have hlb:(lnF q.ln c).1.b.length≤i+1:=by have:=zsZ q.ln c;have:=h.lb;omega
   have hll:(lnF q.ln c).2.1.length≤i+1:=by have:=YL q.ln c;have:=h.lb;omega
   have h1:RqI { q with ln:=(lnF q.ln c).1} (i+1):=⟨hlb,hm.ck,hm.p3,hm.ow,hm.fl,hm.ff,hm.l0,hm.l1,hm.l2,hm.on⟩
   split
   · exact⟨hlb,hm.ck,(fun h=>by cases h),(fun h=>by simp [xO] at h),hm.fl,hm.ff,hm.l0,hm.l1,(fun h=>by cases h),by simp [xO];omega⟩
   split
   · have hk:=zsq h1 hp hll (4 * i) hon
     generalize zJ { q with ln:=(lnF q.ln c).1} (lnF q.ln c).2.1=z at *
     obtain⟨⟨k1,k2,-,-,k5,k6,k7,k8,-,-⟩,kz,ko⟩:=hk
     split
     · exact⟨k1,k2,(fun h=>by cases h),(fun h=>by simp [xO] at h),k5,k6,k7,k8,(fun h=>by cases h),by simp [xO];omega⟩
     · rename_i hz
       obtain⟨k1,k2,k3,k4,k5,k6,k7,k8,k9,k10⟩:=kz (by simpa using hz)
       exact⟨k1,k2,k3,k4,k5,k6,k7,k8,k9,by omega⟩
   · exact h1
 · exact hm
end Go.Proofs.YtkjepecoodjbmaaGreatDoor
namespace Go.Proofs.YtkjepecoodjbmaaGreatDoor
open Go Go.Sep Go.Ab
set_option maxRecDepth 100000
def cfgQ:Cfg:= { sl:=[⟨207,0,.byte,some 5⟩,⟨160,5,.fld,some 108⟩,⟨160,9,.evt,some 34⟩]}
def zI (q:Rq):Prop:=q.out.length≤10000000
def zaI (I:Alg) (args:List D) (hp:List HO):Option CT:=match args,hp with
 |[],[]=>(fun(_:Unit)=>(some (.one ⟨I.hid (True),(.ret (.v (.one (.ptr 0 0)))),[.abs (.rq rq0)]⟩):Option CT)) ()
 |_,_=>none
theorem zk7:zx Tryz.prog 50 (zaI alg):=by
 intro args hp r h;unfold zaI at h;split at h<;>cases h
 simp only [CT.Good,zi];intro _
 refine spcG zh mixed Tryz.func50 (by kernel_rfl) { cfgQ with keep:=some [0]} [zaY,zaX] (by kernel_rfl) ?_
 intro I X hI hX
 refine orcL ?_;go_invoke;refine orcS (by kernel_rfl) ?_
 simp only [zq,Nat.reduceAdd];subst hI;simp only [nrmA,nrmB,nrlB,reduceCtorEq,HO.abs.injEq,Gh.rq.injEq,Rq.mk.injEq];rfl
def ZO:Know Tryz.prog:=⟨50,zaI,zk7⟩
def ZN:Know Tryz.prog:=⟨50,fun I=>zy I (zaI I),zf zk7⟩
theorem zk4 (ln:Ln) (p:Int) (m tg:Str) (hm:Int) (hf:List Fld) (hl le:Int) (out:List Evt) (k:Int) (ea eb:Str) (ei:Int) (ef:List Fld) (en:Int) (ebs ex ey ez et:Str) (ec:Int) (hneed:zI ⟨ln,p,⟨m,tg,hm,hf,hl⟩,le,none,true,out⟩):Spc Tryz.prog 117 [.v (.one (.ptr 0 0)),.v (.agg [(.p (.int .i64 k)),(.p (.str ea)),(.p (.str eb)),(.p (.int .i64 ei)),(.p (.list .fld ef)),(.p (.int .i64 en)),(.p (.list .byte ebs)),(.p (.str ex)),(.p (.str ey)),(.p (.str ez)),(.p (.nl et)),(.p (.int .i64 ec))])] [.abs (.rq ⟨ln,p,⟨m,tg,hm,hf,hl⟩,le,none,true,out⟩)] (.ret (.tup [])) [.abs (.rq ⟨ln,p,⟨m,tg,hm,hf,hl⟩,le,none,true,(out++[⟨k,⟨ea,eb,ei,ef,en⟩,ebs,⟨ex,ey,ez,et⟩,ec⟩])⟩)]:=by
 unfold zI at hneed;simp only at hneed
 refine spcG zh mixed Tryz.func117 (by kernel_rfl) { cfgQ with keep:=some [0,1,3]} [] (by kernel_rfl) ?_
 intro I X hI hX
 refine orcL ?_;go_invoke;refine orcS (by kernel_rfl) ?_
 simp only [zq,Nat.reduceAdd];subst hI;simp only [nrmA,nrmB,nrlB,reduceCtorEq,HO.abs.injEq,Gh.rq.injEq,Rq.mk.injEq]
 (repeat' (first|refine ja ?_ ?_|intro _))<;>first|omega|exact jb|exact jc ‹False›|skip
 all_goals first
  |omega
  |rfl
  |with_reducible assumption
  |(simp only [jh,ji];omega)
  |(simp;done)
def Xu (I:Alg) (args:List D) (hp:List HO):Option CT:=match args,hp with
 |[.v (.one (.ptr 0 0)),.v (.agg [(.p (.int .i64 k)),(.p (.str ea)),(.p (.str eb)),(.p (.int .i64 ei)),(.p (.list .fld ef)),(.p (.int .i64 en)),(.p (.list .byte ebs)),(.p (.str ex)),(.p (.str ey)),(.p (.str ez)),(.p (.nl et)),(.p (.int .i64 ec))])],[.abs (.rq ⟨ln,p,⟨m,tg,hm,hf,hl⟩,le,none,true,out⟩)]=>(fun(ln:Ln) (p:Int) (m tg:Str) (hm:Int) (hf:List Fld) (hl le:Int) (out:List Evt) (k:Int) (ea eb:Str) (ei:Int) (ef:List Fld) (en:Int) (ebs ex ey ez et:Str) (ec:Int)=>(some (.one ⟨I.hid (zI ⟨ln,p,⟨m,tg,hm,hf,hl⟩,le,none,true,out⟩),(.ret (.tup [])),[.abs (.rq ⟨ln,p,⟨m,tg,hm,hf,hl⟩,le,none,true,(I.hid (out++[⟨k,⟨ea,eb,ei,ef,en⟩,ebs,⟨ex,ey,ez,et⟩,ec⟩]))⟩)]⟩):Option CT)) ln p m tg hm hf hl le out k ea eb ei ef en ebs ex ey ez et ec
 |_,_=>none
theorem zdM:zx Tryz.prog 117 (Xu alg):=by
 intro args hp r h;unfold Xu at h
 split at h
 · cases h;exact fun hn=>zk4 _ _ _ _ _ _ _ _ _ _ _ _ _ _ _ _ _ _ _ _ _ hn
 · cases h
def yc:Know Tryz.prog:=⟨117,Xu,zdM⟩
def zZ:Know Tryz.prog:=⟨117,fun I=>zy I (Xu I),zf zdM⟩
theorem zk5 (ln:Ln) (p:Int) (m tg:Str) (hm:Int) (hf:List Fld) (hl le:Int) (out:List Evt) (k:Int) (ea eb:Str) (ei:Int) (ef:List Fld) (en:Int) (ebs ex ey ez et:Str) (ec:Int) (hneed:zI ⟨ln,p,⟨m,tg,hm,hf,hl⟩,le,none,false,out⟩):Spc Tryz.prog 117 [.v (.one (.ptr 0 0)),.v (.agg [(.p (.int .i64 k)),(.p (.str ea)),(.p (.str eb)),(.p (.int .i64 ei)),(.p (.list .fld ef)),(.p (.int .i64 en)),(.p (.list .byte ebs)),(.p (.str ex)),(.p (.str ey)),(.p (.str ez)),(.p (.nl et)),(.p (.int .i64 ec))])] [.abs (.rq ⟨ln,p,⟨m,tg,hm,hf,hl⟩,le,none,false,out⟩)] (.ret (.tup [])) [.abs (.rq ⟨ln,p,⟨m,tg,hm,hf,hl⟩,le,none,false,(out++[⟨k,⟨ea,eb,ei,ef,en⟩,ebs,⟨ex,ey,ez,et⟩,ec⟩])⟩)]:=by
 unfold zI at hneed;simp only at hneed
 refine spcG zh mixed Tryz.func117 (by kernel_rfl) { cfgQ with keep:=some [0,1,3]} [yc,zZ] (by kernel_rfl) ?_
 intro I X hI hX
 refine orcL ?_;go_invoke;refine orcS (by kernel_rfl) ?_
 simp only [zq,Nat.reduceAdd];subst hI;simp only [nrmA,nrmB,nrlB,reduceCtorEq,HO.abs.injEq,Gh.rq.injEq,Rq.mk.injEq]
 (repeat' (first|refine ja ?_ ?_|intro _))<;>first|omega|exact jb|exact jc ‹False›|skip
 all_goals first
  |omega
  |rfl
  |with_reducible assumption
  |(simp only [jh,ji];omega)
  |(simp;done)
def Xv (I:Alg) (args:List D) (hp:List HO):Option CT:=match args,hp with
 |[.v (.one (.ptr 0 0)),.v (.agg [(.p (.int .i64 k)),(.p (.str ea)),(.p (.str eb)),(.p (.int .i64 ei)),(.p (.list .fld ef)),(.p (.int .i64 en)),(.p (.list .byte ebs)),(.p (.str ex)),(.p (.str ey)),(.p (.str ez)),(.p (.nl et)),(.p (.int .i64 ec))])],[.abs (.rq ⟨ln,p,⟨m,tg,hm,hf,hl⟩,le,none,false,out⟩)]=>(fun(ln:Ln) (p:Int) (m tg:Str) (hm:Int) (hf:List Fld) (hl le:Int) (out:List Evt) (k:Int) (ea eb:Str) (ei:Int) (ef:List Fld) (en:Int) (ebs ex ey ez et:Str) (ec:Int)=>(some (.one ⟨I.hid (zI ⟨ln,p,⟨m,tg,hm,hf,hl⟩,le,none,false,out⟩),(.ret (.tup [])),[.abs (.rq ⟨ln,p,⟨m,tg,hm,hf,hl⟩,le,none,false,(I.hid (out++[⟨k,⟨ea,eb,ei,ef,en⟩,ebs,⟨ex,ey,ez,et⟩,ec⟩]))⟩)]⟩):Option CT)) ln p m tg hm hf hl le out k ea eb ei ef en ebs ex ey ez et ec
 |_,_=>none
theorem zdN:zx Tryz.prog 117 (Xv alg):=by
 intro args hp r h;unfold Xv at h
 split at h
 · cases h;exact fun hn=>zk5 _ _ _ _ _ _ _ _ _ _ _ _ _ _ _ _ _ _ _ _ _ hn
 · cases h
def yw:Know Tryz.prog:=⟨117,Xv,zdN⟩
def yu:Know Tryz.prog:=⟨117,fun I=>zy I (Xv I),zf zdN⟩
theorem zk2 (ln:Ln) (p:Int) (m tg:Str) (hm:Int) (hf:List Fld) (hl le:Int) (ch:Ch) (out:List Evt) (k:Int) (ea eb:Str) (ei:Int) (ef:List Fld) (en:Int) (ebs ex ey ez et:Str) (ec:Int) (hneed:zI ⟨ln,p,⟨m,tg,hm,hf,hl⟩,le,some ch,true,out⟩):Spc Tryz.prog 117 [.v (.one (.ptr 0 0)),.v (.agg [(.p (.int .i64 k)),(.p (.str ea)),(.p (.str eb)),(.p (.int .i64 ei)),(.p (.list .fld ef)),(.p (.int .i64 en)),(.p (.list .byte ebs)),(.p (.str ex)),(.p (.str ey)),(.p (.str ez)),(.p (.nl et)),(.p (.int .i64 ec))])] [.abs (.rq ⟨ln,p,⟨m,tg,hm,hf,hl⟩,le,some ch,true,out⟩)] (.ret (.tup [])) [.abs (.rq ⟨ln,p,⟨m,tg,hm,hf,hl⟩,le,some ch,true,(out++[⟨k,⟨ea,eb,ei,ef,en⟩,ebs,⟨ex,ey,ez,et⟩,ec⟩])⟩)]:=by
 unfold zI at hneed;simp only at hneed
 refine spcG zh mixed Tryz.func117 (by kernel_rfl) { cfgQ with keep:=some [0,1,3]} [yc,zZ,yw,yu] (by kernel_rfl) ?_
 intro I X hI hX
 refine orcL ?_;go_invoke;refine orcS (by kernel_rfl) ?_
 simp only [zq,Nat.reduceAdd];subst hI;simp only [nrmA,nrmB,nrlB,reduceCtorEq,HO.abs.injEq,Gh.rq.injEq,Rq.mk.injEq]
 (repeat' (first|refine ja ?_ ?_|intro _))<;>first|omega|exact jb|exact jc ‹False›|skip
 all_goals first
  |omega
  |rfl
  |with_reducible assumption
  |(simp only [jh,ji];omega)
  |(simp;done)
def Xr (I:Alg) (args:List D) (hp:List HO):Option CT:=match args,hp with
 |[.v (.one (.ptr 0 0)),.v (.agg [(.p (.int .i64 k)),(.p (.str ea)),(.p (.str eb)),(.p (.int .i64 ei)),(.p (.list .fld ef)),(.p (.int .i64 en)),(.p (.list .byte ebs)),(.p (.str ex)),(.p (.str ey)),(.p (.str ez)),(.p (.nl et)),(.p (.int .i64 ec))])],[.abs (.rq ⟨ln,p,⟨m,tg,hm,hf,hl⟩,le,some ch,true,out⟩)]=>(fun(ln:Ln) (p:Int) (m tg:Str) (hm:Int) (hf:List Fld) (hl le:Int) (ch:Ch) (out:List Evt) (k:Int) (ea eb:Str) (ei:Int) (ef:List Fld) (en:Int) (ebs ex ey ez et:Str) (ec:Int)=>(some (.one ⟨I.hid (zI ⟨ln,p,⟨m,tg,hm,hf,hl⟩,le,some ch,true,out⟩),(.ret (.tup [])),[.abs (.rq ⟨ln,p,⟨m,tg,hm,hf,hl⟩,le,some ch,true,(I.hid (out++[⟨k,⟨ea,eb,ei,ef,en⟩,ebs,⟨ex,ey,ez,et⟩,ec⟩]))⟩)]⟩):Option CT)) ln p m tg hm hf hl le ch out k ea eb ei ef en ebs ex ey ez et ec
 |_,_=>none
theorem zdK:zx Tryz.prog 117 (Xr alg):=by
 intro args hp r h;unfold Xr at h
 split at h
 · cases h;exact fun hn=>zk2 _ _ _ _ _ _ _ _ _ _ _ _ _ _ _ _ _ _ _ _ _ _ hn
 · cases h
def yH:Know Tryz.prog:=⟨117,Xr,zdK⟩
def yG:Know Tryz.prog:=⟨117,fun I=>zy I (Xr I),zf zdK⟩
theorem zk3 (ln:Ln) (p:Int) (m tg:Str) (hm:Int) (hf:List Fld) (hl le:Int) (ch:Ch) (out:List Evt) (k:Int) (ea eb:Str) (ei:Int) (ef:List Fld) (en:Int) (ebs ex ey ez et:Str) (ec:Int) (hneed:zI ⟨ln,p,⟨m,tg,hm,hf,hl⟩,le,some ch,false,out⟩):Spc Tryz.prog 117 [.v (.one (.ptr 0 0)),.v (.agg [(.p (.int .i64 k)),(.p (.str ea)),(.p (.str eb)),(.p (.int .i64 ei)),(.p (.list .fld ef)),(.p (.int .i64 en)),(.p (.list .byte ebs)),(.p (.str ex)),(.p (.str ey)),(.p (.str ez)),(.p (.nl et)),(.p (.int .i64 ec))])] [.abs (.rq ⟨ln,p,⟨m,tg,hm,hf,hl⟩,le,some ch,false,out⟩)] (.ret (.tup [])) [.abs (.rq ⟨ln,p,⟨m,tg,hm,hf,hl⟩,le,some ch,false,(out++[⟨k,⟨ea,eb,ei,ef,en⟩,ebs,⟨ex,ey,ez,et⟩,ec⟩])⟩)]:=by
 unfold zI at hneed;simp only at hneed
 refine spcG zh mixed Tryz.func117 (by kernel_rfl) { cfgQ with keep:=some [0,1,3]} [yc,zZ,yw,yu,yH,yG] (by kernel_rfl) ?_
 intro I X hI hX
 refine orcL ?_;go_invoke;refine orcS (by kernel_rfl) ?_
 simp only [zq,Nat.reduceAdd];subst hI;simp only [nrmA,nrmB,nrlB,reduceCtorEq,HO.abs.injEq,Gh.rq.injEq,Rq.mk.injEq]
 (repeat' (first|refine ja ?_ ?_|intro _))<;>first|omega|exact jb|exact jc ‹False›|skip
 all_goals first
  |omega
  |rfl
  |with_reducible assumption
  |(simp only [jh,ji];omega)
  |(simp;done)
def Xt (I:Alg) (args:List D) (hp:List HO):Option CT:=match args,hp with
 |[.v (.one (.ptr 0 0)),.v (.agg [(.p (.int .i64 k)),(.p (.str ea)),(.p (.str eb)),(.p (.int .i64 ei)),(.p (.list .fld ef)),(.p (.int .i64 en)),(.p (.list .byte ebs)),(.p (.str ex)),(.p (.str ey)),(.p (.str ez)),(.p (.nl et)),(.p (.int .i64 ec))])],[.abs (.rq ⟨ln,p,⟨m,tg,hm,hf,hl⟩,le,some ch,false,out⟩)]=>(fun(ln:Ln) (p:Int) (m tg:Str) (hm:Int) (hf:List Fld) (hl le:Int) (ch:Ch) (out:List Evt) (k:Int) (ea eb:Str) (ei:Int) (ef:List Fld) (en:Int) (ebs ex ey ez et:Str) (ec:Int)=>(some (.one ⟨I.hid (zI ⟨ln,p,⟨m,tg,hm,hf,hl⟩,le,some ch,false,out⟩),(.ret (.tup [])),[.abs (.rq ⟨ln,p,⟨m,tg,hm,hf,hl⟩,le,some ch,false,(I.hid (out++[⟨k,⟨ea,eb,ei,ef,en⟩,ebs,⟨ex,ey,ez,et⟩,ec⟩]))⟩)]⟩):Option CT)) ln p m tg hm hf hl le ch out k ea eb ei ef en ebs ex ey ez et ec
 |_,_=>none
theorem zdL:zx Tryz.prog 117 (Xt alg):=by
 intro args hp r h;unfold Xt at h
 split at h
 · cases h;exact fun hn=>zk3 _ _ _ _ _ _ _ _ _ _ _ _ _ _ _ _ _ _ _ _ _ _ hn
 · cases h
def yN:Know Tryz.prog:=⟨117,Xt,zdL⟩
def yM:Know Tryz.prog:=⟨117,fun I=>zy I (Xt I),zf zdL⟩
def zaH (I:Alg) (args:List D) (hp:List HO):Option CT:=match args,hp with
 |[.v (.one (.ptr 0 0)),.v (.agg [(.p (.int .i64 k)),(.p (.str ea)),(.p (.str eb)),(.p (.int .i64 ei)),(.p (.list .fld ef)),(.p (.int .i64 en)),(.p (.list .byte ebs)),(.p (.str ex)),(.p (.str ey)),(.p (.str ez)),(.p (.nl et)),(.p (.int .i64 ec))])],[.abs (.rq q)]=>(fun(q:Rq) (k:Int) (ea eb:Str) (ei:Int) (ef:List Fld) (en:Int) (ebs ex ey ez et:Str) (ec:Int)=>(some (.one ⟨I.hid (zI q),(.ret (.tup [])),[.abs (.rq (I.hid ((zxP q ⟨k,⟨ea,eb,ei,ef,en⟩,ebs,⟨ex,ey,ez,et⟩,ec⟩))))]⟩):Option CT)) q k ea eb ei ef en ebs ex ey ez et ec
 |_,_=>none
theorem zk6:zx Tryz.prog 117 (zaH alg):=by
 intro args hp r h;unfold zaH at h;split at h<;>cases h
 rename_i k ea eb ei ef en ebs ex ey ez et ec q
 revert ef;intro(ef:List Fld)
 simp only [CT.Good,zi];intro hneed;obtain⟨ln,p,⟨m,tg,hm,hf,hl⟩,le,ck,own,out⟩:=q
 cases ck with
 | none=>cases own with
   |true=>exact zk4 ln p m tg hm hf hl le out k ea eb ei ef en ebs ex ey ez et ec hneed
   |false=>exact zk5 ln p m tg hm hf hl le out k ea eb ei ef en ebs ex ey ez et ec hneed
 | some ch=>cases own with
   |true=>exact zk2 ln p m tg hm hf hl le ch out k ea eb ei ef en ebs ex ey ez et ec hneed
   |false=>exact zk3 ln p m tg hm hf hl le ch out k ea eb ei ef en ebs ex ey ez et ec hneed
def wX:Know Tryz.prog:=⟨117,zaH,zk6⟩
def wW:Know Tryz.prog:=⟨117,fun I=>zy I (zaH I),zf zk6⟩
theorem zpb (ln:Ln) (p:Int) (m tg:Str) (hm:Int) (hf:List Fld) (hl le:Int) (out:List Evt) (c:Int) (hneed:zI ⟨ln,p,⟨m,tg,hm,hf,hl⟩,le,none,true,out⟩):Spc Tryz.prog 120 [.v (.one (.ptr 0 0)),.v (.one (.p (.int .i64 c)))] [.abs (.rq ⟨ln,p,⟨m,tg,hm,hf,hl⟩,le,none,true,out⟩)] (.ret (.tup [])) [.abs (.rq ((xO ⟨ln,p,⟨m,tg,hm,hf,hl⟩,le,none,true,out⟩ c)))]:=by
 unfold zI at hneed;simp only at hneed
 refine spcG zh mixed Tryz.func120 (by kernel_rfl) { cfgQ with keep:=some [0,1]} [yc,zZ,yw,yu,yH,yG,yN,yM,wX,wW] (by kernel_rfl) ?_
 intro I X hI hX
 refine orcL ?_;go_invoke;refine orcS (by kernel_rfl) ?_
 simp only [zq,Nat.reduceAdd];subst hI;simp only [nrmA,nrmB,nrlB,reduceCtorEq,HO.abs.injEq,Gh.rq.injEq,Rq.mk.injEq]
 (repeat' (first|refine ja ?_ ?_|intro _))<;>first|omega|exact jb|exact jc ‹False›|skip
 all_goals first
  |omega
  |rfl
  |with_reducible assumption
  |(simp only [jh,ji];omega)
  |(unfold zI;simp only;omega)
  |(simp;done)
theorem zpc (ln:Ln) (p:Int) (m tg:Str) (hm:Int) (hf:List Fld) (hl le:Int) (out:List Evt) (c:Int) (hneed:zI ⟨ln,p,⟨m,tg,hm,hf,hl⟩,le,none,false,out⟩):Spc Tryz.prog 120 [.v (.one (.ptr 0 0)),.v (.one (.p (.int .i64 c)))] [.abs (.rq ⟨ln,p,⟨m,tg,hm,hf,hl⟩,le,none,false,out⟩)] (.ret (.tup [])) [.abs (.rq ((xO ⟨ln,p,⟨m,tg,hm,hf,hl⟩,le,none,false,out⟩ c)))]:=by
 unfold zI at hneed;simp only at hneed
 refine spcG zh mixed Tryz.func120 (by kernel_rfl) { cfgQ with keep:=some [0,1]} [yc,zZ,yw,yu,yH,yG,yN,yM,wX,wW] (by kernel_rfl) ?_
 intro I X hI hX
 refine orcL ?_;go_invoke;refine orcS (by kernel_rfl) ?_
 simp only [zq,Nat.reduceAdd];subst hI;simp only [nrmA,nrmB,nrlB,reduceCtorEq,HO.abs.injEq,Gh.rq.injEq,Rq.mk.injEq]
 (repeat' (first|refine ja ?_ ?_|intro _))<;>first|omega|exact jb|exact jc ‹False›|skip
 all_goals first
  |omega
  |rfl
  |with_reducible assumption
  |(simp only [jh,ji];omega)
  |(unfold zI;simp only;omega)
  |(simp;done)
theorem zo9 (ln:Ln) (p:Int) (m tg:Str) (hm:Int) (hf:List Fld) (hl le:Int) (ch:Ch) (out:List Evt) (c:Int) (hneed:zI ⟨ln,p,⟨m,tg,hm,hf,hl⟩,le,some ch,true,out⟩):Spc Tryz.prog 120 [.v (.one (.ptr 0 0)),.v (.one (.p (.int .i64 c)))] [.abs (.rq ⟨ln,p,⟨m,tg,hm,hf,hl⟩,le,some ch,true,out⟩)] (.ret (.tup [])) [.abs (.rq ((xO ⟨ln,p,⟨m,tg,hm,hf,hl⟩,le,some ch,true,out⟩ c)))]:=by
 unfold zI at hneed;simp only at hneed
 refine spcG zh mixed Tryz.func120 (by kernel_rfl) { cfgQ with keep:=some [0,1]} [yc,zZ,yw,yu,yH,yG,yN,yM,wX,wW] (by kernel_rfl) ?_
 intro I X hI hX
 refine orcL ?_;go_invoke;refine orcS (by kernel_rfl) ?_
 simp only [zq,Nat.reduceAdd];subst hI;simp only [nrmA,nrmB,nrlB,reduceCtorEq,HO.abs.injEq,Gh.rq.injEq,Rq.mk.injEq]
 (repeat' (first|refine ja ?_ ?_|intro _))<;>first|omega|exact jb|exact jc ‹False›|skip
 all_goals first
  |omega
  |rfl
  |with_reducible assumption
  |(simp only [jh,ji];omega)
  |(unfold zI;simp only;omega)
  |(simp;done)
theorem zpa (ln:Ln) (p:Int) (m tg:Str) (hm:Int) (hf:List Fld) (hl le:Int) (ch:Ch) (out:List Evt) (c:Int) (hneed:zI ⟨ln,p,⟨m,tg,hm,hf,hl⟩,le,some ch,false,out⟩):Spc Tryz.prog 120 [.v (.one (.ptr 0 0)),.v (.one (.p (.int .i64 c)))] [.abs (.rq ⟨ln,p,⟨m,tg,hm,hf,hl⟩,le,some ch,false,out⟩)] (.ret (.tup [])) [.abs (.rq ((xO ⟨ln,p,⟨m,tg,hm,hf,hl⟩,le,some ch,false,out⟩ c)))]:=by
 unfold zI at hneed;simp only at hneed
 refine spcG zh mixed Tryz.func120 (by kernel_rfl) { cfgQ with keep:=some [0,1]} [yc,zZ,yw,yu,yH,yG,yN,yM,wX,wW] (by kernel_rfl) ?_
 intro I X hI hX
 refine orcL ?_;go_invoke;refine orcS (by kernel_rfl) ?_
 simp only [zq,Nat.reduceAdd];subst hI;simp only [nrmA,nrmB,nrlB,reduceCtorEq,HO.abs.injEq,Gh.rq.injEq,Rq.mk.injEq]
 (repeat' (first|refine ja ?_ ?_|intro _))<;>first|omega|exact jb|exact jc ‹False›|skip
 all_goals first
  |omega
  |rfl
  |with_reducible assumption
  |(simp only [jh,ji];omega)
  |(unfold zI;simp only;omega)
  |(simp;done)
def V6 (I:Alg) (args:List D) (hp:List HO):Option CT:=match args,hp with
 |[.v (.one (.ptr 0 0)),.v (.one (.p (.int .i64 c)))],[.abs (.rq q)]=>(fun(q:Rq) (c:Int)=>(some (.one ⟨I.hid (zI q),(.ret (.tup [])),[.abs (.rq (I.hid ((xO q c))))]⟩):Option CT)) q c
 |_,_=>none
theorem zgO:zx Tryz.prog 120 (V6 alg):=by
 intro args hp r h;unfold V6 at h;split at h<;>cases h
 rename_i c q;simp only [CT.Good,zi];intro hneed;obtain⟨ln,p,⟨m,tg,hm,hf,hl⟩,le,ck,own,out⟩:=q
 cases ck with
 | none=>cases own with
   |true=>exact zpb ln p m tg hm hf hl le out c hneed
   |false=>exact zpc ln p m tg hm hf hl le out c hneed
 | some ch=>cases own with
   |true=>exact zo9 ln p m tg hm hf hl le ch out c hneed
   |false=>exact zpa ln p m tg hm hf hl le ch out c hneed
def V5:Know Tryz.prog:=⟨120,V6,zgO⟩
def V4:Know Tryz.prog:=⟨120,fun I=>zy I (V6 I),zf zgO⟩
theorem zsv (ln:Ln) (p:Int) (m tg:Str) (hm:Int) (hf:List Fld) (hl le:Int) (out:List Evt) (hneed:zI ⟨ln,p,⟨m,tg,hm,hf,hl⟩,le,none,true,out⟩):Spc Tryz.prog 118 [.v (.one (.ptr 0 0))] [.abs (.rq ⟨ln,p,⟨m,tg,hm,hf,hl⟩,le,none,true,out⟩)] (.ret (.tup [])) [.abs (.rq ((vY ⟨ln,p,⟨m,tg,hm,hf,hl⟩,le,none,true,out⟩)))]:=by
 unfold zI at hneed;simp only at hneed
 refine spcG zh mixed Tryz.func118 (by kernel_rfl) { cfgQ with keep:=some [0]} [yc,zZ,yw,yu,yH,yG,yN,yM,wX,wW] (by kernel_rfl) ?_
 intro I X hI hX
 refine orcL ?_;go_invoke;refine orcS (by kernel_rfl) ?_
 simp only [zq,Nat.reduceAdd];subst hI;simp only [nrmA,nrmB,nrlB,reduceCtorEq,HO.abs.injEq,Gh.rq.injEq,Rq.mk.injEq]
 (repeat' (first|refine ja ?_ ?_|intro _))<;>first|omega|exact jb|exact jc ‹False›|skip
 all_goals first
  |omega
  |rfl
  |with_reducible assumption
  |(simp only [jh,ji];omega)
  |(unfold zI;simp only;omega)
  |(simp;done)
theorem zsw (ln:Ln) (p:Int) (m tg:Str) (hm:Int) (hf:List Fld) (hl le:Int) (out:List Evt) (hneed:zI ⟨ln,p,⟨m,tg,hm,hf,hl⟩,le,none,false,out⟩):Spc Tryz.prog 118 [.v (.one (.ptr 0 0))] [.abs (.rq ⟨ln,p,⟨m,tg,hm,hf,hl⟩,le,none,false,out⟩)] (.ret (.tup [])) [.abs (.rq ((vY ⟨ln,p,⟨m,tg,hm,hf,hl⟩,le,none,false,out⟩)))]:=by
 unfold zI at hneed;simp only at hneed
 refine spcG zh mixed Tryz.func118 (by kernel_rfl) { cfgQ with keep:=some [0]} [yc,zZ,yw,yu,yH,yG,yN,yM,wX,wW] (by kernel_rfl) ?_
 intro I X hI hX
 refine orcL ?_;go_invoke;refine orcS (by kernel_rfl) ?_
 simp only [zq,Nat.reduceAdd];subst hI;simp only [nrmA,nrmB,nrlB,reduceCtorEq,HO.abs.injEq,Gh.rq.injEq,Rq.mk.injEq]
 (repeat' (first|refine ja ?_ ?_|intro _))<;>first|omega|exact jb|exact jc ‹False›|skip
 all_goals first
  |omega
  |rfl
  |with_reducible assumption
  |(simp only [jh,ji];omega)
  |(unfold zI;simp only;omega)
  |(simp;done)
theorem zst (ln:Ln) (p:Int) (m tg:Str) (hm:Int) (hf:List Fld) (hl le:Int) (ch:Ch) (out:List Evt) (hneed:zI ⟨ln,p,⟨m,tg,hm,hf,hl⟩,le,some ch,true,out⟩):Spc Tryz.prog 118 [.v (.one (.ptr 0 0))] [.abs (.rq ⟨ln,p,⟨m,tg,hm,hf,hl⟩,le,some ch,true,out⟩)] (.ret (.tup [])) [.abs (.rq ((vY ⟨ln,p,⟨m,tg,hm,hf,hl⟩,le,some ch,true,out⟩)))]:=by
 unfold zI at hneed;simp only at hneed
 refine spcG zh mixed Tryz.func118 (by kernel_rfl) { cfgQ with keep:=some [0]} [yc,zZ,yw,yu,yH,yG,yN,yM,wX,wW] (by kernel_rfl) ?_
 intro I X hI hX
 refine orcL ?_;go_invoke;refine orcS (by kernel_rfl) ?_
 simp only [zq,Nat.reduceAdd];subst hI;simp only [nrmA,nrmB,nrlB,reduceCtorEq,HO.abs.injEq,Gh.rq.injEq,Rq.mk.injEq]
 (repeat' (first|refine ja ?_ ?_|intro _))<;>first|omega|exact jb|exact jc ‹False›|skip
 all_goals first
  |omega
  |rfl
  |with_reducible assumption
  |(simp only [jh,ji];omega)
  |(unfold zI;simp only;omega)
  |(simp;done)
theorem zsu (ln:Ln) (p:Int) (m tg:Str) (hm:Int) (hf:List Fld) (hl le:Int) (ch:Ch) (out:List Evt) (hneed:zI ⟨ln,p,⟨m,tg,hm,hf,hl⟩,le,some ch,false,out⟩):Spc Tryz.prog 118 [.v (.one (.ptr 0 0))] [.abs (.rq ⟨ln,p,⟨m,tg,hm,hf,hl⟩,le,some ch,false,out⟩)] (.ret (.tup [])) [.abs (.rq ((vY ⟨ln,p,⟨m,tg,hm,hf,hl⟩,le,some ch,false,out⟩)))]:=by
 unfold zI at hneed;simp only at hneed
 refine spcG zh mixed Tryz.func118 (by kernel_rfl) { cfgQ with keep:=some [0]} [yc,zZ,yw,yu,yH,yG,yN,yM,wX,wW] (by kernel_rfl) ?_
 intro I X hI hX
 refine orcL ?_;go_invoke;refine orcS (by kernel_rfl) ?_
 simp only [zq,Nat.reduceAdd];subst hI;simp only [nrmA,nrmB,nrlB,reduceCtorEq,HO.abs.injEq,Gh.rq.injEq,Rq.mk.injEq]
 (repeat' (first|refine ja ?_ ?_|intro _))<;>first|omega|exact jb|exact jc ‹False›|skip
 all_goals first
  |omega
  |rfl
  |with_reducible assumption
  |(simp only [jh,ji];omega)
  |(unfold zI;simp only;omega)
  |(simp;done)
def zaL (I:Alg) (args:List D) (hp:List HO):Option CT:=match args,hp with
 |[.v (.one (.ptr 0 0))],[.abs (.rq q)]=>(fun(q:Rq)=>(some (.one ⟨I.hid (zI q),(.ret (.tup [])),[.abs (.rq (I.hid ((vY q))))]⟩):Option CT)) q
 |_,_=>none
theorem zlb:zx Tryz.prog 118 (zaL alg):=by
 intro args hp r h;unfold zaL at h;split at h<;>cases h
 rename_i q;simp only [CT.Good,zi];intro hneed;obtain⟨ln,p,⟨m,tg,hm,hf,hl⟩,le,ck,own,out⟩:=q
 cases ck with
 | none=>cases own with
   |true=>exact zsv ln p m tg hm hf hl le out hneed
   |false=>exact zsw ln p m tg hm hf hl le out hneed
 | some ch=>cases own with
   |true=>exact zst ln p m tg hm hf hl le ch out hneed
   |false=>exact zsu ln p m tg hm hf hl le ch out hneed
def Xy:Know Tryz.prog:=⟨118,zaL,zlb⟩
def Xx:Know Tryz.prog:=⟨118,fun I=>zy I (zaL I),zf zlb⟩
def XM (I:Alg) (args:List D) (hp:List HO):Option CT:=match args,hp with
 |[.v (.one (.ptr 0 0))],[.pack [.obj 207 [(.row 1),(.p (.bool cr)),(.p (.int .i64 code))],.row .byte 5 b]]=>(fun(b:Str) (cr:Bool) (code:Int)=>(some (.one ⟨I.hid (True),(.ret (.v (.one (.p (.bool (I.hid ((lnB ⟨b,cr,code⟩)))))))),[.pack [.obj 207 [(.row 1),(.p (.bool cr)),(.p (.int .i64 code))],.row .byte 5 b]]⟩):Option CT)) b cr code
 |_,_=>none
theorem zd7:zx Tryz.prog 99 (XM alg):=by
 intro args hp r h;unfold XM at h;split at h<;>cases h
 rename_i cr code b;simp only [CT.Good,zi];intro _
 refine spcG zh mixed Tryz.func99 (by kernel_rfl) { ztR with keep:=some [0,2]} [] (by kernel_rfl) ?_
 intro I X hI hX
 refine orcL ?_;go_invoke;refine orcS (by kernel_rfl) ?_
 simp only [zq,Nat.reduceAdd];subst hI;unfold lnB;simp only [nrmA,nrmB,nrlB,reduceCtorEq,HO.pack.injEq,HO.obj.injEq]
 (repeat' (first|refine ja ?_ ?_|intro _))<;>first|omega|exact jb|exact jc ‹False›|skip
 all_goals first|omega|rfl|(simp_all;done)|trace_state
def XL:Know Tryz.prog:=⟨99,XM,zd7⟩
def XK:Know Tryz.prog:=⟨99,fun I=>zy I (XM I),zf zd7⟩
theorem zpj (ln:Ln) (p:Int) (m tg:Str) (hm:Int) (hf:List Fld) (hl le:Int) (out:List Evt):Spc Tryz.prog 44 [.v (.one (.ptr 0 0))] [.abs (.rq ⟨ln,p,⟨m,tg,hm,hf,hl⟩,le,none,true,out⟩)] (.ret (.v (.one (.p (.bool ((decide (Rq.pos ⟨ln,p,⟨m,tg,hm,hf,hl⟩,le,none,true,out⟩=4)))))))) [.abs (.rq ⟨ln,p,⟨m,tg,hm,hf,hl⟩,le,none,true,out⟩)]:=by
 refine spcG zh mixed Tryz.func44 (by kernel_rfl) { cfgQ with keep:=some [0,2]} [] (by kernel_rfl) ?_
 intro I X hI hX
 refine orcL ?_;go_invoke;refine orcS (by kernel_rfl) ?_
 simp only [zq,Nat.reduceAdd];subst hI;simp only [nrmA,nrmB,nrlB,reduceCtorEq,HO.abs.injEq,Gh.rq.injEq,Rq.mk.injEq]
 (repeat' (first|refine ja ?_ ?_|intro _))<;>first|omega|exact jb|exact jc ‹False›|skip
 all_goals first
  |omega
  |rfl
  |with_reducible assumption
  |(simp only [jh,ji];omega)
  |(simp;done)
theorem zpk (ln:Ln) (p:Int) (m tg:Str) (hm:Int) (hf:List Fld) (hl le:Int) (out:List Evt):Spc Tryz.prog 44 [.v (.one (.ptr 0 0))] [.abs (.rq ⟨ln,p,⟨m,tg,hm,hf,hl⟩,le,none,false,out⟩)] (.ret (.v (.one (.p (.bool ((decide (Rq.pos ⟨ln,p,⟨m,tg,hm,hf,hl⟩,le,none,false,out⟩=4)))))))) [.abs (.rq ⟨ln,p,⟨m,tg,hm,hf,hl⟩,le,none,false,out⟩)]:=by
 refine spcG zh mixed Tryz.func44 (by kernel_rfl) { cfgQ with keep:=some [0,2]} [] (by kernel_rfl) ?_
 intro I X hI hX
 refine orcL ?_;go_invoke;refine orcS (by kernel_rfl) ?_
 simp only [zq,Nat.reduceAdd];subst hI;simp only [nrmA,nrmB,nrlB,reduceCtorEq,HO.abs.injEq,Gh.rq.injEq,Rq.mk.injEq]
 (repeat' (first|refine ja ?_ ?_|intro _))<;>first|omega|exact jb|exact jc ‹False›|skip
 all_goals first
  |omega
  |rfl
  |with_reducible assumption
  |(simp only [jh,ji];omega)
  |(simp;done)
theorem zph (ln:Ln) (p:Int) (m tg:Str) (hm:Int) (hf:List Fld) (hl le:Int) (ch:Ch) (out:List Evt):Spc Tryz.prog 44 [.v (.one (.ptr 0 0))] [.abs (.rq ⟨ln,p,⟨m,tg,hm,hf,hl⟩,le,some ch,true,out⟩)] (.ret (.v (.one (.p (.bool ((decide (Rq.pos ⟨ln,p,⟨m,tg,hm,hf,hl⟩,le,some ch,true,out⟩=4)))))))) [.abs (.rq ⟨ln,p,⟨m,tg,hm,hf,hl⟩,le,some ch,true,out⟩)]:=by
 refine spcG zh mixed Tryz.func44 (by kernel_rfl) { cfgQ with keep:=some [0,2]} [] (by kernel_rfl) ?_
 intro I X hI hX
 refine orcL ?_;go_invoke;refine orcS (by kernel_rfl) ?_
 simp only [zq,Nat.reduceAdd];subst hI;simp only [nrmA,nrmB,nrlB,reduceCtorEq,HO.abs.injEq,Gh.rq.injEq,Rq.mk.injEq]
 (repeat' (first|refine ja ?_ ?_|intro _))<;>first|omega|exact jb|exact jc ‹False›|skip
 all_goals first
  |omega
  |rfl
  |with_reducible assumption
  |(simp only [jh,ji];omega)
  |(simp;done)
theorem zpi (ln:Ln) (p:Int) (m tg:Str) (hm:Int) (hf:List Fld) (hl le:Int) (ch:Ch) (out:List Evt):Spc Tryz.prog 44 [.v (.one (.ptr 0 0))] [.abs (.rq ⟨ln,p,⟨m,tg,hm,hf,hl⟩,le,some ch,false,out⟩)] (.ret (.v (.one (.p (.bool ((decide (Rq.pos ⟨ln,p,⟨m,tg,hm,hf,hl⟩,le,some ch,false,out⟩=4)))))))) [.abs (.rq ⟨ln,p,⟨m,tg,hm,hf,hl⟩,le,some ch,false,out⟩)]:=by
 refine spcG zh mixed Tryz.func44 (by kernel_rfl) { cfgQ with keep:=some [0,2]} [] (by kernel_rfl) ?_
 intro I X hI hX
 refine orcL ?_;go_invoke;refine orcS (by kernel_rfl) ?_
 simp only [zq,Nat.reduceAdd];subst hI;simp only [nrmA,nrmB,nrlB,reduceCtorEq,HO.abs.injEq,Gh.rq.injEq,Rq.mk.injEq]
 (repeat' (first|refine ja ?_ ?_|intro _))<;>first|omega|exact jb|exact jc ‹False›|skip
 all_goals first
  |omega
  |rfl
  |with_reducible assumption
  |(simp only [jh,ji];omega)
  |(simp;done)
def V8 (I:Alg) (args:List D) (hp:List HO):Option CT:=match args,hp with
 |[.v (.one (.ptr 0 0))],[.abs (.rq q)]=>(fun(q:Rq)=>(some (.one ⟨I.hid (True),(.ret (.v (.one (.p (.bool (I.hid ((decide (Rq.pos q=4))))))))),[.abs (.rq (I.hid ((q))))]⟩):Option CT)) q
 |_,_=>none
theorem zgS:zx Tryz.prog 44 (V8 alg):=by
 intro args hp r h;unfold V8 at h;split at h<;>cases h
 rename_i q;simp only [CT.Good,zi];intro _;obtain⟨ln,p,⟨m,tg,hm,hf,hl⟩,le,ck,own,out⟩:=q
 cases ck with
 | none=>cases own with
   |true=>exact zpj ln p m tg hm hf hl le out
   |false=>exact zpk ln p m tg hm hf hl le out
 | some ch=>cases own with
   |true=>exact zph ln p m tg hm hf hl le ch out
   |false=>exact zpi ln p m tg hm hf hl le ch out
def xY:Know Tryz.prog:=⟨44,V8,zgS⟩
def xX:Know Tryz.prog:=⟨44,fun I=>zy I (V8 I),zf zgS⟩
theorem zpr (ln:Ln) (p:Int) (m tg:Str) (hm:Int) (hf:List Fld) (hl le:Int) (out:List Evt):Spc Tryz.prog 57 [.v (.one (.ptr 0 0))] [.abs (.rq ⟨ln,p,⟨m,tg,hm,hf,hl⟩,le,none,true,out⟩)] (.ret (.v (.one (.p (.bool ((x9 ⟨ln,p,⟨m,tg,hm,hf,hl⟩,le,none,true,out⟩))))))) [.abs (.rq ⟨ln,p,⟨m,tg,hm,hf,hl⟩,le,none,true,out⟩)]:=by
 refine spcG zh mixed Tryz.func57 (by kernel_rfl) { cfgQ with keep:=some [0,2]} [XL,XK] (by kernel_rfl) ?_
 intro I X hI hX
 refine orcL ?_;go_invoke;refine orcS (by kernel_rfl) ?_
 simp only [zq,Nat.reduceAdd];subst hI;simp only [nrmA,nrmB,nrlB,reduceCtorEq,HO.abs.injEq,Gh.rq.injEq,Rq.mk.injEq]
 (repeat' (first|refine ja ?_ ?_|intro _))<;>first|omega|exact jb|exact jc ‹False›|skip
 all_goals first
  |omega
  |rfl
  |with_reducible assumption
  |(simp only [jh,ji];omega)
  |(simp_all [x9];done)
  |(simp;done)
theorem zps (ln:Ln) (p:Int) (m tg:Str) (hm:Int) (hf:List Fld) (hl le:Int) (out:List Evt):Spc Tryz.prog 57 [.v (.one (.ptr 0 0))] [.abs (.rq ⟨ln,p,⟨m,tg,hm,hf,hl⟩,le,none,false,out⟩)] (.ret (.v (.one (.p (.bool ((x9 ⟨ln,p,⟨m,tg,hm,hf,hl⟩,le,none,false,out⟩))))))) [.abs (.rq ⟨ln,p,⟨m,tg,hm,hf,hl⟩,le,none,false,out⟩)]:=by
 refine spcG zh mixed Tryz.func57 (by kernel_rfl) { cfgQ with keep:=some [0,2]} [XL,XK] (by kernel_rfl) ?_
 intro I X hI hX
 refine orcL ?_;go_invoke;refine orcS (by kernel_rfl) ?_
 simp only [zq,Nat.reduceAdd];subst hI;simp only [nrmA,nrmB,nrlB,reduceCtorEq,HO.abs.injEq,Gh.rq.injEq,Rq.mk.injEq]
 (repeat' (first|refine ja ?_ ?_|intro _))<;>first|omega|exact jb|exact jc ‹False›|skip
 all_goals first
  |omega
  |rfl
  |with_reducible assumption
  |(simp only [jh,ji];omega)
  |(simp_all [x9];done)
  |(simp;done)
theorem zpp (ln:Ln) (p:Int) (m tg:Str) (hm:Int) (hf:List Fld) (hl le:Int) (ch:Ch) (out:List Evt):Spc Tryz.prog 57 [.v (.one (.ptr 0 0))] [.abs (.rq ⟨ln,p,⟨m,tg,hm,hf,hl⟩,le,some ch,true,out⟩)] (.ret (.v (.one (.p (.bool ((x9 ⟨ln,p,⟨m,tg,hm,hf,hl⟩,le,some ch,true,out⟩))))))) [.abs (.rq ⟨ln,p,⟨m,tg,hm,hf,hl⟩,le,some ch,true,out⟩)]:=by
 refine spcG zh mixed Tryz.func57 (by kernel_rfl) { cfgQ with keep:=some [0,2]} [XL,XK] (by kernel_rfl) ?_
 intro I X hI hX
 refine orcL ?_;go_invoke;refine orcS (by kernel_rfl) ?_
 simp only [zq,Nat.reduceAdd];subst hI;simp only [nrmA,nrmB,nrlB,reduceCtorEq,HO.abs.injEq,Gh.rq.injEq,Rq.mk.injEq]
 (repeat' (first|refine ja ?_ ?_|intro _))<;>first|omega|exact jb|exact jc ‹False›|skip
 all_goals first
  |omega
  |rfl
  |with_reducible assumption
  |(simp only [jh,ji];omega)
  |(simp_all [x9];done)
  |(simp;done)
theorem zpq (ln:Ln) (p:Int) (m tg:Str) (hm:Int) (hf:List Fld) (hl le:Int) (ch:Ch) (out:List Evt):Spc Tryz.prog 57 [.v (.one (.ptr 0 0))] [.abs (.rq ⟨ln,p,⟨m,tg,hm,hf,hl⟩,le,some ch,false,out⟩)] (.ret (.v (.one (.p (.bool ((x9 ⟨ln,p,⟨m,tg,hm,hf,hl⟩,le,some ch,false,out⟩))))))) [.abs (.rq ⟨ln,p,⟨m,tg,hm,hf,hl⟩,le,some ch,false,out⟩)]:=by
 refine spcG zh mixed Tryz.func57 (by kernel_rfl) { cfgQ with keep:=some [0,2]} [XL,XK] (by kernel_rfl) ?_
 intro I X hI hX
 refine orcL ?_;go_invoke;refine orcS (by kernel_rfl) ?_
 simp only [zq,Nat.reduceAdd];subst hI;simp only [nrmA,nrmB,nrlB,reduceCtorEq,HO.abs.injEq,Gh.rq.injEq,Rq.mk.injEq]
 (repeat' (first|refine ja ?_ ?_|intro _))<;>first|omega|exact jb|exact jc ‹False›|skip
 all_goals first
  |omega
  |rfl
  |with_reducible assumption
  |(simp only [jh,ji];omega)
  |(simp_all [x9];done)
  |(simp;done)
def Ua (I:Alg) (args:List D) (hp:List HO):Option CT:=match args,hp with
 |[.v (.one (.ptr 0 0))],[.abs (.rq q)]=>(fun(q:Rq)=>(some (.one ⟨I.hid (True),(.ret (.v (.one (.p (.bool (I.hid ((x9 q)))))))),[.abs (.rq (I.hid ((q))))]⟩):Option CT)) q
 |_,_=>none
theorem zgU:zx Tryz.prog 57 (Ua alg):=by
 intro args hp r h;unfold Ua at h;split at h<;>cases h
 rename_i q;simp only [CT.Good,zi];intro _;obtain⟨ln,p,⟨m,tg,hm,hf,hl⟩,le,ck,own,out⟩:=q
 cases ck with
 | none=>cases own with
   |true=>exact zpr ln p m tg hm hf hl le out
   |false=>exact zps ln p m tg hm hf hl le out
 | some ch=>cases own with
   |true=>exact zpp ln p m tg hm hf hl le ch out
   |false=>exact zpq ln p m tg hm hf hl le ch out
def YG:Know Tryz.prog:=⟨57,Ua,zgU⟩
def YF:Know Tryz.prog:=⟨57,fun I=>zy I (Ua I),zf zgU⟩
end Go.Proofs.YtkjepecoodjbmaaGreatDoor
namespace Go.Ab
open Go Go.Sep
variable [Facts]
theorem Spc.zwU {Pr:Program} {f:Nat} {args:List D} {hp:List HO} {u:U} {E:Nat} {l:List u.den} (hl:l.length≤maxLen) (hf: ∃ fn,Pr.funcs[f]? =some fn∧(fn.name == "runtime.NumGoroutine")=false∧fn.body.isNone=false)
  (h: ∀ (S:Frz) (bs:List Value) (w:World) (vs:List Value),Facts.p w→MDs S bs args vs→∃ cs:Array Value,cs.size=l.length * u.size∧(∀ (i:Nat) (x:u.den) (j:Nat) (p:P) (v:Value),l[i]? =some x→(enc alg u x)[j]? =some p→cs.toList[i * u.size+j]? =some v→MP S p v)∧Calls Pr f vs.toArray w fun e w'=>e=.returned (.slice (some ⟨w.heap.size,0,none⟩) l.length l.length)∧w'=w.alloc (.cells cs E)):Spc Pr f args hp (.ret (.v (.one (.row hp.length)))) (hp++[.row u E l]):=by
 refine⟨hf,fun S K fr w vs hH hM hA=> ?_⟩;obtain⟨cs,hcs,hx,hc⟩:=h S _ w vs (At.frz hA).facts hM;refine hc.mono fun e w' he=> ?_;obtain⟨rfl,rfl⟩:=he
 have he:Ext (K.map CO.base) ((K++[CO.row E u.size (some ⟨w.heap.size,0,none⟩) l.length l.length cs.toList]).map CO.base):=by rw [List.map_append];exact Ext.append _ _
 refine⟨S,K++[CO.row E u.size (some ⟨w.heap.size,0,none⟩) l.length l.length cs.toList],Frz.le.refl S,he,(hH.mono (Frz.le.refl S) he).push (.row (by rw [Array.length_toList];exact hcs) hx),?_,?_⟩
 · have h1:=hA.zbt E u.size l.length cs (0,0) hcs hl (su _)
   exact At.more h1
 · refine⟨?_,some ⟨w.heap.size,0,none⟩,l.length,l.length,rfl⟩
   rw [hH.1];exact xM _ _
end Go.Ab
namespace Go.Proofs.YtkjepecoodjbmaaGreatDoor
open Go Go.Sep Go.Ab
set_option maxRecDepth 100000
theorem index_one: ∀ (s:Str) (c:UInt8),c ∉ s→Lib.index s [c]= -1
 |[],c,_=>rfl
 | b::l,c,h=>by
   have h1: ¬ b=c:=fun e=>h (by rw [e];exact List.mem_cons_self)
   have h2:c ∉ l:=fun e=>h (List.mem_cons_of_mem _ e)
   have h0:(c == b)=false:=by simpa using fun e:c=b=>h1 e.symm
   have h3:([c]:Str).isPrefixOf (b::l)=false:=by simp [List.isPrefixOf,h0]
   unfold Lib.index;rw [h3,index_one l c h2];rfl
theorem zlV: ∀ (p r:Str) (c:UInt8),c ∉ p→Lib.index (p++c::r) [c]=p.length
 |[],r,c,_=>by simp [Lib.index,List.isPrefixOf]
 | b::l,r,c,h=>by
   have h1: ¬ b=c:=fun e=>h (by rw [e];exact List.mem_cons_self)
   have h2:c ∉ l:=fun e=>h (List.mem_cons_of_mem _ e)
   have h0:(c == b)=false:=by simpa using fun e:c=b=>h1 e.symm
   have h3:([c]:Str).isPrefixOf (b::(l++c::r))=false:=by simp [List.isPrefixOf,h0]
   rw [List.cons_append];unfold Lib.index;rw [h3,zlV l r c h2]
   have: ¬ ((l.length:Int) == -1)=true:=fun e=>by have:=beq_iff_eq.1 e;omega
   rw [if_neg (by simp),if_neg this]
   simp
theorem zbI: ∀ (s:Str),(32:UInt8) ∉ s→zO s=[s]
 |[],_=>rfl
 | b::l,h=>by
   have h1: ¬ b=32:=fun e=>h (by rw [e];exact List.mem_cons_self)
   have h2:(32:UInt8) ∉ l:=fun e=>h (List.mem_cons_of_mem _ e);rw [zO,if_neg h1,zbI l h2]
theorem zdB: ∀ (p r:Str),(32:UInt8) ∉ p→zO (p++32::r)=p::zO r
 |[],r,_=>by simp [zO]
 | b::l,r,h=>by
   have h1: ¬ b=32:=fun e=>h (by rw [e];exact List.mem_cons_self)
   have h2:(32:UInt8) ∉ l:=fun e=>h (List.mem_cons_of_mem _ e);rw [List.cons_append,zO,if_neg h1,zdB l r h2]
theorem zuJ: ∀ (s:Str) (c:UInt8),c ∈ s→∃ p r,s=p++c::r∧c ∉ p
 | b ::l,c,h=>by
   by_cases e:b=c
   · exact⟨[],l,by rw [e];rfl,by simp⟩
   · have h2:c ∈ l:=by
      rcases List.mem_cons.1 h with h|h
      · exact absurd h.symm e
      · exact h
     obtain⟨p,r,rfl,h3⟩:=zuJ l c h2;refine⟨b::p,r,rfl,fun h4=> ?_⟩
     rcases List.mem_cons.1 h4 with h4|h4
     · exact e h4.symm
     · exact h3 h4
theorem zgx: ∀ (n:Nat) (s:Str),s.length≤n→∀ k,s.count 32≤k→Lib.splitK [32] 0 k s=zO s
 | 0,s,hs,k,_=>by
   have:s=[]:=List.length_eq_zero_iff.1 (by omega)
   subst this
   cases k<;>rfl
 | n + 1,s,hs,k,hk=>by
   by_cases hm:(32:UInt8) ∈ s
   · obtain⟨p,r,rfl,hp⟩:=zuJ s 32 hm
     have hc:(p++32::r).count 32=r.count 32+1:=by
      rw [List.count_append,List.count_eq_zero.2 hp,List.count_cons_self];omega
     rw [hc] at hk
     cases k with
     |zero=>omega
     | succ k=>
       rw [zdB p r hp];unfold Lib.splitK;rw [zlV p r 32 hp]
       have: ¬ ((p.length:Int) == -1)=true:=fun e=>by have:=beq_iff_eq.1 e;omega
       rw [if_neg this];simp only [jJ,Nat.add_zero,jh,ji,Nat.zero_add]
       rw [List.take_left,show p.length+1=(p++[(32:UInt8)]).length by simp,show p++32::r=(p++[32])++r by simp,List.drop_left]
       congr 1
       refine zgx n r ?_ k (by omega)
       simp only [jk,jh] at hs;omega
   · rw [zbI s hm]
     cases k with
     |zero=>rfl
     | succ k=>
       unfold Lib.splitK;rw [index_one s 32 hm];rfl
theorem count_one (s:Str):Lib.count s [32]=s.count 32:=Lib.count_one 32 s
theorem zbJ: ∀ (s:Str),(zO s).length=s.count 32+1
 |[]=>rfl
 | c ::r=>by
   have ih:=zbJ r;rw [zO]
   split
   · rename_i h;subst h;rw [jh,ih,List.count_cons_self]
   · rename_i h
     rw [List.count_cons_of_ne (by simpa using h)]
     cases hq:zO r with
     |nil=>exact absurd hq (Xi r)
     |cons w ws=>rw [hq] at ih;simpa using ih
theorem zou {S:Frz} {l:List Str} (hl: ∀ x ∈ l,x.length≤maxLen) {vs:List Value} (hv:vs=l.map fun x=>Value.string (Sep.S x)): ∀ (i:Nat) (x:Str) (j:Nat) (p:P) (v:Value),l[i]? =some x→(enc alg .str x)[j]? =some p→vs[i * U.str.size+j]? =some v→MP S p v:=by
 intro i x j p v hi hj hv2
 cases j with
 | zero=>
   simp only [enc,List.getElem?_cons_zero,jw] at hj;subst hj
   rw [hv,show i * U.str.size+0=i by simp [U.size],List.getElem?_map,hi] at hv2
   cases hv2;exact .str _ (hl x (List.mem_of_getElem? hi))
 |succ j=>simp [enc] at hj
theorem rC: ∀ (s:Str),∀ x ∈ zO s,x.length≤s.length
 |[],x,h=>by simp [zO] at h;subst h;simp
 | c ::r,x,h=>by
   have ih:=rC r;rw [zO] at h
   split at h
   · rcases List.mem_cons.1 h with rfl|h
     · simp
     · have:=ih x h;simp;omega
   · cases hq:zO r with
     |nil=>exact absurd hq (Xi r)
     | cons w ws=>
       rw [hq] at h ih
       rcases List.mem_cons.1 h with rfl|h
       · have:=ih w List.mem_cons_self;simp;omega
       · have:=ih x (List.mem_cons_of_mem _ h);simp;omega
def zam (I:Alg) (args:List D) (hp:List HO):Option CT:=match args,hp with
 |[.v (.one (.p (.str s))),.v (.one (.p (.str ([32]))))],[]=>(fun(s:Str)=>(some (.one ⟨I.hid (s.length≤1000000),(.ret (.v (.one (.row 0)))),[.row .str 9 (I.hid ((zO s)))]⟩):Option CT)) s
 |_,_=>none
theorem zkA:zx Tryz.prog 210 (zam alg):=by
 intro args hp r h;unfold zam at h;split at h<;>cases h
 rename_i s;simp only [CT.Good,zi];intro hneed;have hlen:=zbJ s;have hcl:s.count 32≤s.length:=List.count_le_length
 refine Spc.zwU (hp:=[]) (u:=.str) (by rw [hlen];unfold maxLen;omega) ⟨_,Tryz.func210,by kernel_rfl,by kernel_rfl⟩ fun S bs w vs hW hM=> ?_
 obtain⟨v,r,rfl⟩: ∃ v r,vs=v::r:=by cases vs with|nil=>exact hM.elim|cons v r=>exact⟨v,r,rfl⟩
 obtain⟨h1,hM⟩:=hM
 obtain⟨v2,r2,rfl⟩: ∃ v r2,r=v::r2:=by cases r with|nil=>exact hM.elim|cons v r=>exact⟨v,r,rfl⟩
 obtain⟨h2,hM⟩:=hM
 obtain rfl:r2=[]:=by cases r2 with|nil=>rfl|cons v r=>exact hM.elim
 obtain⟨mx,hmx⟩:=hW.2
 cases h1 with
 | str _ hl1=>
   cases h2 with
   | str _ hl2=>
     have hc:=Tryz.strings_Split (Sep.S s) (Sep.S [32]) mx w (by show s.length<_;omega) hmx (by decide)
     have hk:Lib.countB (Sep.S s) (Sep.S [32])=s.count 32:=count_one s
     have hd:(Lib.splitB (Sep.S [32]) 0 (Lib.countB (Sep.S s) (Sep.S [32])) (Sep.S s)).map (fun b=>b.data.toList)=zO s:=by
      rw [Lib.splitB_data,hk];exact zgx s.length s (jL _) _ (jL _)
     have hv:(Lib.splitB (Sep.S [32]) 0 (Lib.countB (Sep.S s) (Sep.S [32])) (Sep.S s)).map Value.string=(zO s).map fun x=>Value.string (Sep.S x):=by
      rw [← hd,List.map_map]
      exact List.map_congr_left fun b _=>by simp [Sep.S]
     refine⟨((Lib.splitB (Sep.S [32]) 0 (Lib.countB (Sep.S s) (Sep.S [32])) (Sep.S s)).map Value.string).toArray,?_,?_,hc.mono fun e w' h=> ?_⟩
     · rw [hv];simp [U.size]
     · exact zou (fun x hx=>by have:=rC s x hx;unfold maxLen;omega) (by rw [hv])
     · obtain⟨he,hw⟩:=h
       rw [hk] at he;rw [hlen];exact⟨he,hw⟩
def zkz:Know Tryz.prog:=⟨210,zam,zkA⟩
def zky:Know Tryz.prog:=⟨210,fun I=>zy I (zam I),zf zkA⟩
end Go.Proofs.YtkjepecoodjbmaaGreatDoor
namespace Go.Proofs.YtkjepecoodjbmaaGreatDoor
open Go Go.Sep Go.Ab
set_option maxRecDepth 100000
theorem zoj (s:Str):decide (0≤Lib.indexByte s 9)=s.contains 9:=by
 have h: ∀ s:Str,(0≤Lib.indexByte s 9)↔s.contains 9=true:=by
  intro s
  induction s with
  |nil=>simp [Lib.indexByte]
  | cons b l ih=>
    have hb:=vC l 9;unfold Lib.indexByte
    by_cases e:b=9
    · subst e;simp
    · have e2:(b == 9)=false:=by simpa using e
      have e3:((9:UInt8) == b)=false:=by simpa using fun h:9=b=>e h.symm
      rw [e2,if_neg (by simp),List.contains_cons,e3,Bool.false_or,← ih]
      split
      · rename_i h;have:=beq_iff_eq.1 h;omega
      · rename_i h;have: ¬ Lib.indexByte l 9= -1:=fun e=>h (by rw [e];rfl);omega
 rw [Bool.eq_iff_iff,decide_eq_true_eq];exact h s
theorem zoi (s:Str):(0≤Lib.indexByte s 9)↔s.contains 9=true:=by rw [← zoj,decide_eq_true_iff]
theorem zlm (b:Str):Lib.hasPrefix b [47]=decide (b.head?=some 47):=by
 cases b with
 |nil=>rfl
 | cons c r=>
   unfold Lib.hasPrefix
   by_cases h:c=47
   · subst h;simp [List.isPrefixOf]
   · simp [List.isPrefixOf,h];exact fun e=>h e.symm
def rZ (q:Rq) (s:Str):Rq:=
 if(begM s).1=0 then { q with h:=(begM s).2,pos:=1} else if(begM s).1=11 then { q with h:=(begM s).2} else q
def uQ (q:Rq):Prop:=q.own=true
theorem zsB (ln:Ln) (p:Int) (m tg:Str) (hm:Int) (hf:List Fld) (hl le:Int) (out:List Evt) (s:Str) (hneed:uQ ⟨ln,p,⟨m,tg,hm,hf,hl⟩,le,none,true,out⟩∧s.length≤1000000):Spc Tryz.prog 171 [.v (.one (.ptr 0 0)),.v (.one (.p (.str s)))] [.abs (.rq ⟨ln,p,⟨m,tg,hm,hf,hl⟩,le,none,true,out⟩)] (.ret (.v (.one (.p (.int .i64 ((begM s).1)))))) [.abs (.rq ((rZ ⟨ln,p,⟨m,tg,hm,hf,hl⟩,le,none,true,out⟩ s)))]:=by
 obtain⟨-,hs⟩:=hneed;generalize hr:begM s=r;obtain⟨rc,⟨rm,rt,ri,rf,rl⟩⟩:=r;unfold rZ;rw [hr];unfold begM at hr;have hsm:=rC s
 refine spcG zh mixed Tryz.func171 (by kernel_rfl) { cfgQ with keep:=some [0,1,4,5,39]} [XQ,XP,zkz,zky,xG,xE,QX,QW] (by kernel_rfl) ?_
 intro I X hI hX
 refine orcL ?_;go_invoke;refine orcS (by kernel_rfl) ?_
 simp only [zq,Nat.reduceAdd];subst hI;simp only [nrmA,nrmB,nrlB,reduceCtorEq,HO.abs.injEq,Gh.rq.injEq,Rq.mk.injEq];generalize zO s=L at *
 by_cases h3:L.length=3
 · obtain⟨a,b,c,rfl⟩: ∃ a b c,L=[a,b,c]:=by
    match L,h3 with
    |[a,b,c],_=>exact⟨a,b,c,rfl⟩
   have ha:=hsm a (by simp)
   have hb:=hsm b (by simp)
   clear hsm h3;simp only [show Int.toNat 1=1 from rfl,show Int.toNat 2=2 from rfl,List.getD_cons_zero,List.getD_cons_succ,zlm,zoj,zoi,Bool.decide_eq_true] at hr ⊢
   by_cases q1:qI a=false
   · rw [if_pos q1] at hr
     simp only [Prod.mk.injEq,hd0,Hd.mk.injEq] at hr;obtain⟨rfl,rfl,rfl,rfl,rfl,rfl⟩:=hr
     (repeat' (first|refine ja ?_ ?_|intro _))<;>first|omega|exact jb|exact jc ‹False›|skip
     all_goals first|omega|rfl|(simp only [jh,ji];omega)|(simp_all;done)|trace_state
   rw [if_neg q1] at hr
   by_cases q2:b.head?≠some 47∨b.contains 9=true
   · rw [if_pos q2] at hr
     simp only [Prod.mk.injEq,hd0,Hd.mk.injEq] at hr;obtain⟨rfl,rfl,rfl,rfl,rfl,rfl⟩:=hr
     (repeat' (first|refine ja ?_ ?_|intro _))<;>first|omega|exact jb|exact jc ‹False›|skip
     all_goals first|omega|rfl|(simp only [jh,ji];omega)|(simp_all;done)|trace_state
   rw [if_neg q2] at hr
   by_cases q3:c=YP
   · rw [if_pos q3] at hr
     simp only [Prod.mk.injEq,Hd.mk.injEq] at hr;obtain⟨rfl,rfl,rfl,rfl,rfl,rfl⟩:=hr;unfold YP at q3
     (repeat' (first|refine ja ?_ ?_|intro _))<;>first|omega|exact jb|exact jc ‹False›|skip
     all_goals first|omega|rfl|(simp only [jh,ji];omega)|(simp_all;done)|trace_state
   rw [if_neg q3] at hr
   by_cases q4:c=UF
   · rw [if_pos q4] at hr
     simp only [Prod.mk.injEq,Hd.mk.injEq] at hr;obtain⟨rfl,rfl,rfl,rfl,rfl,rfl⟩:=hr;unfold YP at q3;unfold UF at q4
     (repeat' (first|refine ja ?_ ?_|intro _))<;>first|omega|exact jb|exact jc ‹False›|skip
     all_goals first|omega|rfl|(simp only [jh,ji];omega)|(simp_all;done)|trace_state
   rw [if_neg q4] at hr;simp only [Prod.mk.injEq,Hd.mk.injEq] at hr;obtain⟨rfl,rfl,rfl,rfl,rfl,rfl⟩:=hr;unfold YP at q3;unfold UF at q4
   (repeat' (first|refine ja ?_ ?_|intro _))<;>first|omega|exact jb|exact jc ‹False›|skip
   all_goals first|omega|rfl|(simp only [jh,ji];omega)|(simp_all;done)|trace_state
 · have hr2:(5,hd0)=((rc,⟨rm,rt,ri,rf,rl⟩):Int × Hd):=by
    rw [← hr]
    split
    · exact absurd rfl h3
    · rfl
   simp only [Prod.mk.injEq,hd0,Hd.mk.injEq] at hr2;obtain⟨rfl,rfl,rfl,rfl,rfl,rfl⟩:=hr2
   (repeat' (first|refine ja ?_ ?_|intro _))<;>first|omega|exact jb|exact jc ‹False›|skip
   all_goals first|omega|rfl|(simp only [jh,ji];omega)|trace_state
theorem zsC (ln:Ln) (p:Int) (m tg:Str) (hm:Int) (hf:List Fld) (hl le:Int) (out:List Evt) (s:Str) (hneed:uQ ⟨ln,p,⟨m,tg,hm,hf,hl⟩,le,none,false,out⟩∧s.length≤1000000):Spc Tryz.prog 171 [.v (.one (.ptr 0 0)),.v (.one (.p (.str s)))] [.abs (.rq ⟨ln,p,⟨m,tg,hm,hf,hl⟩,le,none,false,out⟩)] (.ret (.v (.one (.p (.int .i64 ((begM s).1)))))) [.abs (.rq ((rZ ⟨ln,p,⟨m,tg,hm,hf,hl⟩,le,none,false,out⟩ s)))]:=by
 exact absurd hneed.1 (fun h=>by unfold uQ at h;cases h)
theorem zsz (ln:Ln) (p:Int) (m tg:Str) (hm:Int) (hf:List Fld) (hl le:Int) (ch:Ch) (out:List Evt) (s:Str) (hneed:uQ ⟨ln,p,⟨m,tg,hm,hf,hl⟩,le,some ch,true,out⟩∧s.length≤1000000):Spc Tryz.prog 171 [.v (.one (.ptr 0 0)),.v (.one (.p (.str s)))] [.abs (.rq ⟨ln,p,⟨m,tg,hm,hf,hl⟩,le,some ch,true,out⟩)] (.ret (.v (.one (.p (.int .i64 ((begM s).1)))))) [.abs (.rq ((rZ ⟨ln,p,⟨m,tg,hm,hf,hl⟩,le,some ch,true,out⟩ s)))]:=by
 obtain⟨-,hs⟩:=hneed;generalize hr:begM s=r;obtain⟨rc,⟨rm,rt,ri,rf,rl⟩⟩:=r;unfold rZ;rw [hr];unfold begM at hr;have hsm:=rC s
 refine spcG zh mixed Tryz.func171 (by kernel_rfl) { cfgQ with keep:=some [0,1,4,5,39]} [XQ,XP,zkz,zky,xG,xE,QX,QW] (by kernel_rfl) ?_
 intro I X hI hX
 refine orcL ?_;go_invoke;refine orcS (by kernel_rfl) ?_
 simp only [zq,Nat.reduceAdd];subst hI;simp only [nrmA,nrmB,nrlB,reduceCtorEq,HO.abs.injEq,Gh.rq.injEq,Rq.mk.injEq];generalize zO s=L at *
 by_cases h3:L.length=3
 · obtain⟨a,b,c,rfl⟩: ∃ a b c,L=[a,b,c]:=by
    match L,h3 with
    |[a,b,c],_=>exact⟨a,b,c,rfl⟩
   have ha:=hsm a (by simp)
   have hb:=hsm b (by simp)
   clear hsm h3;simp only [show Int.toNat 1=1 from rfl,show Int.toNat 2=2 from rfl,List.getD_cons_zero,List.getD_cons_succ,zlm,zoj,zoi,Bool.decide_eq_true] at hr ⊢
   by_cases q1:qI a=false
   · rw [if_pos q1] at hr
     simp only [Prod.mk.injEq,hd0,Hd.mk.injEq] at hr;obtain⟨rfl,rfl,rfl,rfl,rfl,rfl⟩:=hr
     (repeat' (first|refine ja ?_ ?_|intro _))<;>first|omega|exact jb|exact jc ‹False›|skip
     all_goals first|omega|rfl|(simp only [jh,ji];omega)|(simp_all;done)|trace_state
   rw [if_neg q1] at hr
   by_cases q2:b.head?≠some 47∨b.contains 9=true
   · rw [if_pos q2] at hr
     simp only [Prod.mk.injEq,hd0,Hd.mk.injEq] at hr;obtain⟨rfl,rfl,rfl,rfl,rfl,rfl⟩:=hr
     (repeat' (first|refine ja ?_ ?_|intro _))<;>first|omega|exact jb|exact jc ‹False›|skip
     all_goals first|omega|rfl|(simp only [jh,ji];omega)|(simp_all;done)|trace_state
   rw [if_neg q2] at hr
   by_cases q3:c=YP
   · rw [if_pos q3] at hr
     simp only [Prod.mk.injEq,Hd.mk.injEq] at hr;obtain⟨rfl,rfl,rfl,rfl,rfl,rfl⟩:=hr;unfold YP at q3
     (repeat' (first|refine ja ?_ ?_|intro _))<;>first|omega|exact jb|exact jc ‹False›|skip
     all_goals first|omega|rfl|(simp only [jh,ji];omega)|(simp_all;done)|trace_state
   rw [if_neg q3] at hr
   by_cases q4:c=UF
   · rw [if_pos q4] at hr
     simp only [Prod.mk.injEq,Hd.mk.injEq] at hr;obtain⟨rfl,rfl,rfl,rfl,rfl,rfl⟩:=hr;unfold YP at q3;unfold UF at q4
     (repeat' (first|refine ja ?_ ?_|intro _))<;>first|omega|exact jb|exact jc ‹False›|skip
     all_goals first|omega|rfl|(simp only [jh,ji];omega)|(simp_all;done)|trace_state
   rw [if_neg q4] at hr;simp only [Prod.mk.injEq,Hd.mk.injEq] at hr;obtain⟨rfl,rfl,rfl,rfl,rfl,rfl⟩:=hr;unfold YP at q3;unfold UF at q4
   (repeat' (first|refine ja ?_ ?_|intro _))<;>first|omega|exact jb|exact jc ‹False›|skip
   all_goals first|omega|rfl|(simp only [jh,ji];omega)|(simp_all;done)|trace_state
 · have hr2:(5,hd0)=((rc,⟨rm,rt,ri,rf,rl⟩):Int × Hd):=by
    rw [← hr]
    split
    · exact absurd rfl h3
    · rfl
   simp only [Prod.mk.injEq,hd0,Hd.mk.injEq] at hr2;obtain⟨rfl,rfl,rfl,rfl,rfl,rfl⟩:=hr2
   (repeat' (first|refine ja ?_ ?_|intro _))<;>first|omega|exact jb|exact jc ‹False›|skip
   all_goals first|omega|rfl|(simp only [jh,ji];omega)|trace_state
theorem zsA (ln:Ln) (p:Int) (m tg:Str) (hm:Int) (hf:List Fld) (hl le:Int) (ch:Ch) (out:List Evt) (s:Str) (hneed:uQ ⟨ln,p,⟨m,tg,hm,hf,hl⟩,le,some ch,false,out⟩∧s.length≤1000000):Spc Tryz.prog 171 [.v (.one (.ptr 0 0)),.v (.one (.p (.str s)))] [.abs (.rq ⟨ln,p,⟨m,tg,hm,hf,hl⟩,le,some ch,false,out⟩)] (.ret (.v (.one (.p (.int .i64 ((begM s).1)))))) [.abs (.rq ((rZ ⟨ln,p,⟨m,tg,hm,hf,hl⟩,le,some ch,false,out⟩ s)))]:=by
 exact absurd hneed.1 (fun h=>by unfold uQ at h;cases h)
def zaM (I:Alg) (args:List D) (hp:List HO):Option CT:=match args,hp with
 |[.v (.one (.ptr 0 0)),.v (.one (.p (.str s)))],[.abs (.rq q)]=>(fun(q:Rq) (s:Str)=>(some (.one ⟨I.hid (uQ q∧s.length≤1000000),(.ret (.v (.one (.p (.int .i64 (I.hid ((begM s).1))))))),[.abs (.rq (I.hid ((rZ q s))))]⟩):Option CT)) q s
 |_,_=>none
theorem zle:zx Tryz.prog 171 (zaM alg):=by
 intro args hp r h;unfold zaM at h;split at h<;>cases h
 rename_i s q;simp only [CT.Good,zi];intro hneed;obtain⟨ln,p,⟨m,tg,hm,hf,hl⟩,le,ck,own,out⟩:=q
 cases ck with
 | none=>cases own with
   |true=>exact zsB ln p m tg hm hf hl le out s hneed
   |false=>exact zsC ln p m tg hm hf hl le out s hneed
 | some ch=>cases own with
   |true=>exact zsz ln p m tg hm hf hl le ch out s hneed
   |false=>exact zsA ln p m tg hm hf hl le ch out s hneed
def zld:Know Tryz.prog:=⟨171,zaM,zle⟩
def zlc:Know Tryz.prog:=⟨171,fun I=>zy I (zaM I),zf zle⟩
def FsOk (f:List Fld):Prop:=f.length≤1000∧∀ x ∈ f,x.name.length≤1000000∧x.value.length≤1000000
theorem Vo (f:List Fld) (n:Str):(valsF f n).length≤f.length:=by
 unfold valsF
 first|exact Nat.le_trans (List.length_map ..).le (List.length_filter_le _ _)|(rw [List.length_map];exact List.length_filter_le _ _)|exact List.length_filterMap_le _ _
theorem zkN (a:Str) (n:Int) (l:List Str) (i:Nat) (h: ¬ i<l.length):sizM a n (l.drop i)=(n,0):=by
 rw [jF (by omega)];rfl
theorem zgB (a:Str) (n:Int) (l:List Str) (i:Nat) (h:i<l.length):sizM a n (l.drop i)=if(numA (l.getD i []) 10 9).2=false then(0,7) else if l.getD i []≠a then(0,12) else sizM a (numA (l.getD i []) 10 9).1 (l.drop (i+1)):=by
 rw [jE h,show l.getD i []=l[i] by simp [h]];rfl
def zaJ (I:Alg) (args:List D) (hp:List HO):Option CT:=match args,hp with
 |[.v (.agg [(.p (.str m)),(.p (.str t)),(.p (.int .i64 mi)),(.p (.list .fld f)),(.p (.int .i64 le))])],[]=>(fun(m t:Str) (mi:Int) (f:List Fld) (le:Int)=>(some (.one ⟨I.hid (FsOk f),(.ret (.tup [(.one (.p (.int .i64 (I.hid ((lenM mi f).1))))),(.one (.p (.int .i64 (I.hid ((lenM mi f).2)))))])),[]⟩):Option CT)) m t mi f le
 |_,_=>none
theorem zla:zx Tryz.prog 212 (zaJ alg):=by
 intro args hp r h;unfold zaJ at h;split at h<;>cases h
 rename_i m t mi f le
 revert f;intro(f:List Fld)
 simp only [CT.Good,zi];intro hneed;obtain⟨hf1,hf2⟩:=hneed;generalize hr:lenM mi f=r;obtain⟨rn,rc⟩:=r
 refine spcG zh mixed Tryz.func212 (by kernel_rfl) { keep:=some [0,1,2,3,4,5,6,7,8,9,10,45,46,47]} [vJ,vI,zcS,zcR,rW,rV] (by kernel_rfl) ?_
 intro I X hI hX
 refine orcL ?_;go_invoke;refine orcS (by kernel_rfl) ?_
 simp only [zq,Nat.reduceAdd]
 have hh: ∀ {α:Type} (x:α),I.hid x=x:=by subst hI;intros;rfl
 have hln: ∀ (l:List Str),I.len l=(l.length:Int):=by subst hI;intros;rfl
 simp only [hh,hln];unfold lenM at hr;rw [show zoh=[116,114,97,110,115,102,101,114,45,101,110,99,111,100,105,110,103] from rfl,show Qc=[99,111,110,116,101,110,116,45,108,101,110,103,116,104] from rfl] at hr;have hL1:=Vo f [99,111,110,116,101,110,116,45,108,101,110,103,116,104];have hT1:=Vo f [116,114,97,110,115,102,101,114,45,101,110,99,111,100,105,110,103]
 have hT2: ∀ x ∈ valsF f [116,114,97,110,115,102,101,114,45,101,110,99,111,100,105,110,103],x.length≤1000000:=by
  intro x hx;unfold valsF at hx;rw [List.mem_map] at hx;obtain⟨y,hy,rfl⟩:=hx;exact(hf2 y (List.mem_filter.1 hy).1).2
 generalize valsF f [99,111,110,116,101,110,116,45,108,101,110,103,116,104]=L at *;generalize valsF f [116,114,97,110,115,102,101,114,45,101,110,99,111,100,105,110,103]=T at *
 have keyL: ∀ (k:Int) (st:St),k=(L.length:Int)→(if(sizM (L.getD 0 []) 0 L).2≠0 then(0,(sizM (L.getD 0 []) 0 L).2) else if 4000<(sizM (L.getD 0 []) 0 L).1 then(0,4) else((sizM (L.getD 0 []) 0 L).1,0))=(rn,rc)→cutM { keep:=some [0,1,2,3,4,5,6,7,8,9,10,45,46,47]} 0 [4,6,45,46,47] st=some ⟨[(4,.v (.one (.row 0))),(6,.v (.one (.p (.int .i64 0)))),(45,.v (.one (.row 0))),(46,.v (.one (.p (.int .i64 k)))),(47,.v (.one (.p (.int .i64 0))))],[.row .str 9 L],75,none⟩→Ok Tryz.prog X (fun o h=>o=(.ret (.tup [(.one (.p (.int .i64 rn))),(.one (.p (.int .i64 rc)))]))∧h=[]) (leaf I tab { keep:=some [0,1,2,3,4,5,6,7,8,9,10,45,46,47]} [⟨vV Tryz.f212,finK I tab { keep:=some [0,1,2,3,4,5,6,7,8,9,10,45,46,47]} 0 Tryz.f212⟩] 0 [1,1,1,1,0,1,0] st):=by
  intro k st hk hm hst
  refine zB hI zh mixed [vJ,vI,zcS,zcR,rW,rV] hX [4,6,45,46,47] (fun(g:Nat × Int)=>match g with|(i,n)=>i≤L.length∧(if(sizM (L.getD 0 []) n (L.drop i)).2≠0 then(0,(sizM (L.getD 0 []) n (L.drop i)).2) else if 4000<(sizM (L.getD 0 []) n (L.drop i)).1 then(0,4) else((sizM (L.getD 0 []) n (L.drop i)).1,0))=(rn,rc)) (fun(g:Nat × Int)=>match g with|(i,n)=>⟨[(4,.v (.one (.row 0))),(6,.v (.one (.p (.int .i64 n)))),(45,.v (.one (.row 0))),(46,.v (.one (.p (.int .i64 k)))),(47,.v (.one (.p (.int .i64 i))))],[.row .str 9 L],75,none⟩) (fun(g:Nat × Int)=>match g with|(i,n)=>L.length - i) (0,0) (by kernel_rfl) hst ?_ ?_
  · exact⟨jM _,hm⟩
  clear hm hst hr;rintro⟨i,n⟩ ⟨h1,hm⟩ A hA;simp only at hA
  refine orcL ?_;go_invoke;refine orcS (by kernel_rfl) ?_
  simp only [zq,Nat.reduceAdd];subst hI;simp only [nrmA,nrmB]
  by_cases hi:i<L.length
  · rw [zgB _ _ _ _ hi] at hm
    have h0:i=0→L.getD i []=L.getD 0 []:=fun h=>by rw [h]
    have hn:=vZ (L.getD i []);have hgo:=hA (i+1,(numA (L.getD i []) 10 9).1);generalize L.getD i []=x at *;generalize L.getD 0 []=y at *;generalize numA x 10 9=na at *;obtain⟨na,nb⟩:=na;simp only at hm hgo hn
    cases nb with
    | false=>
      rw [if_pos rfl] at hm;simp only [ne_eq,Int.reduceEq,jg,if_true,Prod.mk.injEq] at hm;obtain⟨rfl,rfl⟩:=hm
      (repeat' (first|refine ja ?_ ?_|intro _))<;>first|omega|exact jb|exact jc ‹False›|skip
      all_goals first|omega|rfl|contradiction|(simp_all;done)|trace_state
    | true=>
      simp only [je,if_false] at hm
      by_cases hxy:x=y
      · simp only [if_neg (fun h:x≠y=>h hxy)] at hm
        have hg:=hgo ⟨by omega,hm⟩ (by omega)
        (repeat' (first|refine ja ?_ ?_|intro _))<;>first|omega|exact jb|exact jc ‹False›|skip
        all_goals first|omega|exact hg|contradiction|(exfalso;exact ‹¬ x=y› hxy)|trace_state
      · simp only [if_pos (show x≠y from hxy),ne_eq,Int.reduceEq,jg,if_true,Prod.mk.injEq] at hm
        obtain⟨rfl,rfl⟩:=hm;have hi0: ¬ i=0:=fun h=>hxy (h0 h)
        (repeat' (first|refine ja ?_ ?_|intro _))<;>first|omega|exact jb|exact jc ‹False›|skip
        all_goals first|omega|rfl|contradiction|(exfalso;exact hxy ‹x=y›)|trace_state
  · rw [zkN _ _ _ _ hi] at hm
    simp only [ne_eq,jf,if_false] at hm
    by_cases h4:4000<n
    · rw [if_pos h4] at hm
      simp only [Prod.mk.injEq] at hm;obtain⟨rfl,rfl⟩:=hm
      (repeat' (first|refine ja ?_ ?_|intro _))<;>first|omega|exact jb|exact jc ‹False›|skip
      all_goals first|omega|rfl|trace_state
    · rw [if_neg h4] at hm
      simp only [Prod.mk.injEq] at hm;obtain⟨rfl,rfl⟩:=hm
      (repeat' (first|refine ja ?_ ?_|intro _))<;>first|omega|exact jb|exact jc ‹False›|skip
      all_goals first|omega|rfl|trace_state
 subst hI;have hT0:T.length=0↔T=[]:=List.length_eq_zero_iff;have hLz:L.length=0↔L=[]:=List.length_eq_zero_iff;simp only [nrmA,nrmB]
 have hg0:0<T.length→(T.getD 0 []).length≤1000000:=fun h=>hT2 _ (by rw [show T.getD 0 []=T[0] by simp [h]];exact List.getElem_mem h)
 by_cases q1:T=[]
 · rw [if_neg (fun h=>h q1)] at hr
   have q2:=hT0.2 q1;clear hg0 hT2
   (repeat' (first|refine ja ?_ ?_|intro _))<;>first|omega|exact jb|exact jc ‹False›|skip
   all_goals first
    |omega
    |((with_reducible show Ok _ _ _ _);(try(exfalso;omega));exact keyL _ _ rfl hr (by kernel_rfl))
    |exact⟨hf1,by decide,hf2⟩
    |exact hf1
    |(exact(hf2 _ ‹_›).1)
    |(exact(hf2 _ ‹_›).2)
    |decide
 · rw [if_pos q1] at hr
   have q2: ¬ T.length=0:=fun h=>q1 (hT0.1 h);clear keyL
   by_cases q3:L≠[]∨mi=0
   · rw [if_pos q3] at hr
     simp only [Prod.mk.injEq] at hr;obtain⟨rfl,rfl⟩:=hr
     have q4:L.length=0→mi=0:=fun h=>by
      rcases q3 with q3|q3
      · exact absurd (hLz.1 h) q3
      · exact q3
     (repeat' (first|refine ja ?_ ?_|intro _))<;>first|omega|exact jb|exact jc ‹False›|skip
     all_goals first|omega|rfl|(exact(hf2 _ ‹_›).1)|(exact(hf2 _ ‹_›).2)|decide|trace_state
   · rw [if_neg q3] at hr
     simp only [not_or,ne_eq,Decidable.not_not] at q3;have q4:=hLz.2 q3.1
     by_cases q5:1<T.length∨lowS (T.getD 0 [])≠Sj
     · rw [if_pos q5] at hr
       unfold Sj at q5;simp only [Prod.mk.injEq] at hr;obtain⟨rfl,rfl⟩:=hr
       (repeat' (first|refine ja ?_ ?_|intro _))<;>first|omega|exact jb|exact jc ‹False›|skip
       all_goals first|omega|rfl|(exact(hf2 _ ‹_›).1)|(exact(hf2 _ ‹_›).2)|decide|exact hg0 (by omega)|(exfalso;rcases q5 with q5|q5<;>first|omega|exact q5 ‹_›)|trace_state
     · rw [if_neg q5] at hr
       unfold Sj at q5;simp only [not_or,ne_eq,Decidable.not_not] at q5;simp only [Prod.mk.injEq] at hr;obtain⟨rfl,rfl⟩:=hr
       (repeat' (first|refine ja ?_ ?_|intro _))<;>first|omega|exact jb|exact jc ‹False›|skip
       all_goals first|omega|rfl|(exact(hf2 _ ‹_›).1)|(exact(hf2 _ ‹_›).2)|decide|exact hg0 (by omega)|(exfalso;exact ‹¬ _=_› q5.2)|trace_state
def zk9:Know Tryz.prog:=⟨212,zaJ,zla⟩
def zk8:Know Tryz.prog:=⟨212,fun I=>zy I (zaJ I),zf zla⟩
end Go.Proofs.YtkjepecoodjbmaaGreatDoor
namespace Go.Proofs.YtkjepecoodjbmaaGreatDoor
open Go Go.Sep Go.Ab
set_option maxRecDepth 100000
def rqFs (q:Rq):Prop:=FsOk q.h.fields∧q.out.length≤9000000
theorem zpf (ln:Ln) (p:Int) (m tg:Str) (hm:Int) (hf:List Fld) (hl le:Int) (out:List Evt) (hneed:uQ ⟨ln,p,⟨m,tg,hm,hf,hl⟩,le,none,true,out⟩∧rqFs ⟨ln,p,⟨m,tg,hm,hf,hl⟩,le,none,true,out⟩):Spc Tryz.prog 172 [.v (.one (.ptr 0 0))] [.abs (.rq ⟨ln,p,⟨m,tg,hm,hf,hl⟩,le,none,true,out⟩)] (.ret (.v (.one (.p (.int .i64 ((yC ⟨ln,p,⟨m,tg,hm,hf,hl⟩,le,none,true,out⟩).2)))))) [.abs (.rq (((yC ⟨ln,p,⟨m,tg,hm,hf,hl⟩,le,none,true,out⟩).1)))]:=by
 obtain⟨-,hfs,hfw⟩:=hneed;simp only at hfs hfw;obtain⟨hf1,hf2⟩:=hfs;generalize hr:yC ⟨ln,p,⟨m,tg,hm,hf,hl⟩,le,none,true,out⟩=r;obtain⟨rq,rc⟩:=r
 have hhl:zfJ.length≤1000000:=by decide
 refine spcG zh mixed Tryz.func172 (by kernel_rfl) { cfgQ with fz:=[117],keep:=some [0,2,4,5]} [RX,RV,zmC,zmB,yc,zZ,yw,yu,yH,yG,yN,yM,wX,wW,Xy,Xx,zk9,zk8] (by kernel_rfl) ?_
 intro I X hI hX
 refine orcL ?_;go_invoke;refine orcS (by kernel_rfl) ?_
 simp only [zq,Nat.reduceAdd];subst hI;unfold yC zjt at hr;simp only at hr;rw [show([104,111,115,116]:Str)=zfJ from rfl];simp only [nrmA,nrmB,nrlB,reduceCtorEq,HO.abs.injEq,Gh.rq.injEq,Rq.mk.injEq];have hln:=zfB hm hf;generalize oneF (valsF hf zfJ)=oc at *;obtain⟨ov,oc⟩:=oc;simp only at hr ⊢;generalize lenM hm hf=z at *;obtain⟨zn,zc⟩:=z;simp only at hr hln ⊢
 by_cases q1:(decide (oc=9)||decide (oc=10)&&decide (hm=1))=true
 · rw [if_pos q1] at hr
   simp only [Prod.mk.injEq] at hr;obtain⟨rfl,rfl⟩:=hr;simp only [Bool.or_eq_true,jK,decide_eq_true_eq] at q1
   (repeat' (first|refine ja ?_ ?_|intro _))<;>first|omega|exact jb|exact jc ‹False›|skip
   all_goals first|omega|rfl|exact hf1|exact⟨hf1,hf2⟩|(exact(hf2 _ ‹_›).1)|(exact(hf2 _ ‹_›).2)|(unfold zI;simp only;omega)|trace_state
 rw [if_neg q1] at hr;simp only [Bool.or_eq_true,jK,decide_eq_true_eq] at q1
 by_cases q2:zc=0
 · rw [if_neg (fun h=>h q2)] at hr
   by_cases q3:zn=0
   · rw [if_pos q3] at hr
     simp only [Prod.mk.injEq] at hr;obtain⟨rfl,rfl⟩:=hr;subst q3
     (repeat' (first|refine ja ?_ ?_|intro _))<;>first|omega|exact jb|exact jc ‹False›|skip
     all_goals first|omega|rfl|exact hf1|exact⟨hf1,hf2⟩|(exact(hf2 _ ‹_›).1)|(exact(hf2 _ ‹_›).2)|(unfold zI;simp;omega)|trace_state
   rw [if_neg q3] at hr
   by_cases q4:0<zn
   · rw [if_pos q4] at hr
     simp only [Prod.mk.injEq] at hr;obtain⟨rfl,rfl⟩:=hr
     (repeat' (first|refine ja ?_ ?_|intro _))<;>first|omega|exact jb|exact jc ‹False›|skip
     all_goals first|omega|rfl|exact hf1|exact⟨hf1,hf2⟩|(exact(hf2 _ ‹_›).1)|(exact(hf2 _ ‹_›).2)|(unfold zI;simp;omega)|trace_state
   · rw [if_neg q4] at hr
     simp only [Prod.mk.injEq] at hr;obtain⟨rfl,rfl⟩:=hr
     (repeat' (first|refine ja ?_ ?_|intro _))<;>first|omega|exact jb|exact jc ‹False›|skip
     all_goals first|omega|rfl|exact hf1|exact⟨hf1,hf2⟩|(exact(hf2 _ ‹_›).1)|(exact(hf2 _ ‹_›).2)|(unfold zI;simp;omega)|trace_state
 · rw [if_pos q2] at hr
   simp only [Prod.mk.injEq] at hr;obtain⟨rfl,rfl⟩:=hr
   (repeat' (first|refine ja ?_ ?_|intro _))<;>first|omega|exact jb|exact jc ‹False›|skip
   all_goals first|omega|rfl|exact hf1|exact⟨hf1,hf2⟩|(exact(hf2 _ ‹_›).1)|(exact(hf2 _ ‹_›).2)|(unfold zI;simp only;omega)|trace_state
theorem zpg (ln:Ln) (p:Int) (m tg:Str) (hm:Int) (hf:List Fld) (hl le:Int) (out:List Evt) (hneed:uQ ⟨ln,p,⟨m,tg,hm,hf,hl⟩,le,none,false,out⟩∧rqFs ⟨ln,p,⟨m,tg,hm,hf,hl⟩,le,none,false,out⟩):Spc Tryz.prog 172 [.v (.one (.ptr 0 0))] [.abs (.rq ⟨ln,p,⟨m,tg,hm,hf,hl⟩,le,none,false,out⟩)] (.ret (.v (.one (.p (.int .i64 ((yC ⟨ln,p,⟨m,tg,hm,hf,hl⟩,le,none,false,out⟩).2)))))) [.abs (.rq (((yC ⟨ln,p,⟨m,tg,hm,hf,hl⟩,le,none,false,out⟩).1)))]:=by
 exact absurd hneed.1 (fun h=>by unfold uQ at h;cases h)
theorem zpd (ln:Ln) (p:Int) (m tg:Str) (hm:Int) (hf:List Fld) (hl le:Int) (ch:Ch) (out:List Evt) (hneed:uQ ⟨ln,p,⟨m,tg,hm,hf,hl⟩,le,some ch,true,out⟩∧rqFs ⟨ln,p,⟨m,tg,hm,hf,hl⟩,le,some ch,true,out⟩):Spc Tryz.prog 172 [.v (.one (.ptr 0 0))] [.abs (.rq ⟨ln,p,⟨m,tg,hm,hf,hl⟩,le,some ch,true,out⟩)] (.ret (.v (.one (.p (.int .i64 ((yC ⟨ln,p,⟨m,tg,hm,hf,hl⟩,le,some ch,true,out⟩).2)))))) [.abs (.rq (((yC ⟨ln,p,⟨m,tg,hm,hf,hl⟩,le,some ch,true,out⟩).1)))]:=by
 obtain⟨-,hfs,hfw⟩:=hneed;simp only at hfs hfw;obtain⟨hf1,hf2⟩:=hfs;generalize hr:yC ⟨ln,p,⟨m,tg,hm,hf,hl⟩,le,some ch,true,out⟩=r;obtain⟨rq,rc⟩:=r
 have hhl:zfJ.length≤1000000:=by decide
 refine spcG zh mixed Tryz.func172 (by kernel_rfl) { cfgQ with fz:=[117],keep:=some [0,2,4,5]} [RX,RV,zmC,zmB,yc,zZ,yw,yu,yH,yG,yN,yM,wX,wW,Xy,Xx,zk9,zk8] (by kernel_rfl) ?_
 intro I X hI hX
 refine orcL ?_;go_invoke;refine orcS (by kernel_rfl) ?_
 simp only [zq,Nat.reduceAdd];subst hI;unfold yC zjt at hr;simp only at hr;rw [show([104,111,115,116]:Str)=zfJ from rfl];simp only [nrmA,nrmB,nrlB,reduceCtorEq,HO.abs.injEq,Gh.rq.injEq,Rq.mk.injEq];have hln:=zfB hm hf;generalize oneF (valsF hf zfJ)=oc at *;obtain⟨ov,oc⟩:=oc;simp only at hr ⊢;generalize lenM hm hf=z at *;obtain⟨zn,zc⟩:=z;simp only at hr hln ⊢
 by_cases q1:(decide (oc=9)||decide (oc=10)&&decide (hm=1))=true
 · rw [if_pos q1] at hr
   simp only [Prod.mk.injEq] at hr;obtain⟨rfl,rfl⟩:=hr;simp only [Bool.or_eq_true,jK,decide_eq_true_eq] at q1
   (repeat' (first|refine ja ?_ ?_|intro _))<;>first|omega|exact jb|exact jc ‹False›|skip
   all_goals first|omega|rfl|exact hf1|exact⟨hf1,hf2⟩|(exact(hf2 _ ‹_›).1)|(exact(hf2 _ ‹_›).2)|(unfold zI;simp only;omega)|trace_state
 rw [if_neg q1] at hr;simp only [Bool.or_eq_true,jK,decide_eq_true_eq] at q1
 by_cases q2:zc=0
 · rw [if_neg (fun h=>h q2)] at hr
   by_cases q3:zn=0
   · rw [if_pos q3] at hr
     simp only [Prod.mk.injEq] at hr;obtain⟨rfl,rfl⟩:=hr;subst q3
     (repeat' (first|refine ja ?_ ?_|intro _))<;>first|omega|exact jb|exact jc ‹False›|skip
     all_goals first|omega|rfl|exact hf1|exact⟨hf1,hf2⟩|(exact(hf2 _ ‹_›).1)|(exact(hf2 _ ‹_›).2)|(unfold zI;simp;omega)|trace_state
   rw [if_neg q3] at hr
   by_cases q4:0<zn
   · rw [if_pos q4] at hr
     simp only [Prod.mk.injEq] at hr;obtain⟨rfl,rfl⟩:=hr
     (repeat' (first|refine ja ?_ ?_|intro _))<;>first|omega|exact jb|exact jc ‹False›|skip
     all_goals first|omega|rfl|exact hf1|exact⟨hf1,hf2⟩|(exact(hf2 _ ‹_›).1)|(exact(hf2 _ ‹_›).2)|(unfold zI;simp;omega)|trace_state
   · rw [if_neg q4] at hr
     simp only [Prod.mk.injEq] at hr;obtain⟨rfl,rfl⟩:=hr
     (repeat' (first|refine ja ?_ ?_|intro _))<;>first|omega|exact jb|exact jc ‹False›|skip
     all_goals first|omega|rfl|exact hf1|exact⟨hf1,hf2⟩|(exact(hf2 _ ‹_›).1)|(exact(hf2 _ ‹_›).2)|(unfold zI;simp;omega)|trace_state
 · rw [if_pos q2] at hr
   simp only [Prod.mk.injEq] at hr;obtain⟨rfl,rfl⟩:=hr
   (repeat' (first|refine ja ?_ ?_|intro _))<;>first|omega|exact jb|exact jc ‹False›|skip
   all_goals first|omega|rfl|exact hf1|exact⟨hf1,hf2⟩|(exact(hf2 _ ‹_›).1)|(exact(hf2 _ ‹_›).2)|(unfold zI;simp only;omega)|trace_state
theorem zpe (ln:Ln) (p:Int) (m tg:Str) (hm:Int) (hf:List Fld) (hl le:Int) (ch:Ch) (out:List Evt) (hneed:uQ ⟨ln,p,⟨m,tg,hm,hf,hl⟩,le,some ch,false,out⟩∧rqFs ⟨ln,p,⟨m,tg,hm,hf,hl⟩,le,some ch,false,out⟩):Spc Tryz.prog 172 [.v (.one (.ptr 0 0))] [.abs (.rq ⟨ln,p,⟨m,tg,hm,hf,hl⟩,le,some ch,false,out⟩)] (.ret (.v (.one (.p (.int .i64 ((yC ⟨ln,p,⟨m,tg,hm,hf,hl⟩,le,some ch,false,out⟩).2)))))) [.abs (.rq (((yC ⟨ln,p,⟨m,tg,hm,hf,hl⟩,le,some ch,false,out⟩).1)))]:=by
 exact absurd hneed.1 (fun h=>by unfold uQ at h;cases h)
def V7 (I:Alg) (args:List D) (hp:List HO):Option CT:=match args,hp with
 |[.v (.one (.ptr 0 0))],[.abs (.rq q)]=>(fun(q:Rq)=>(some (.one ⟨I.hid (uQ q∧rqFs q),(.ret (.v (.one (.p (.int .i64 (I.hid ((yC q).2))))))),[.abs (.rq (I.hid (((yC q).1))))]⟩):Option CT)) q
 |_,_=>none
theorem zgR:zx Tryz.prog 172 (V7 alg):=by
 intro args hp r h;unfold V7 at h;split at h<;>cases h
 rename_i q;simp only [CT.Good,zi];intro hneed;obtain⟨ln,p,⟨m,tg,hm,hf,hl⟩,le,ck,own,out⟩:=q
 cases ck with
 | none=>cases own with
   |true=>exact zpf ln p m tg hm hf hl le out hneed
   |false=>exact zpg ln p m tg hm hf hl le out hneed
 | some ch=>cases own with
   |true=>exact zpd ln p m tg hm hf hl le ch out hneed
   |false=>exact zpe ln p m tg hm hf hl le ch out hneed
def zgQ:Know Tryz.prog:=⟨172,V7,zgR⟩
def zgP:Know Tryz.prog:=⟨172,fun I=>zy I (V7 I),zf zgR⟩
theorem zo2 (ln:Ln) (p:Int) (m tg:Str) (hm:Int) (hf:List Fld) (hl le:Int) (out:List Evt) (s:Str) (hneed:uQ ⟨ln,p,⟨m,tg,hm,hf,hl⟩,le,none,true,out⟩∧rqFs ⟨ln,p,⟨m,tg,hm,hf,hl⟩,le,none,true,out⟩∧s.length≤1000000):Spc Tryz.prog 122 [.v (.one (.ptr 0 0)),.v (.one (.p (.str s)))] [.abs (.rq ⟨ln,p,⟨m,tg,hm,hf,hl⟩,le,none,true,out⟩)] (.ret (.v (.one (.p (.int .i64 ((zJ ⟨ln,p,⟨m,tg,hm,hf,hl⟩,le,none,true,out⟩ s).2)))))) [.abs (.rq (((zJ ⟨ln,p,⟨m,tg,hm,hf,hl⟩,le,none,true,out⟩ s).1)))]:=by
 obtain⟨-,hfs,hs⟩:=hneed;have hfs0:=hfs;obtain⟨hfs,hfw⟩:=hfs;simp only at hfs hfw;obtain⟨hf1,hf2⟩:=hfs;generalize hr:zJ ⟨ln,p,⟨m,tg,hm,hf,hl⟩,le,none,true,out⟩ s=r;obtain⟨rq,rc⟩:=r
 refine spcG zh mixed Tryz.func122 (by kernel_rfl) { cfgQ with seam:=[],keep:=some [0,1,4,5,6]} [Uj,Ui,zld,zlc,zgQ,zgP] (by kernel_rfl) ?_
 intro I X hI hX
 refine orcL ?_;go_invoke;refine orcS (by kernel_rfl) ?_
 simp only [zq,Nat.reduceAdd];subst hI;unfold zJ at hr;simp only at hr;simp only [nrmA,nrmB,nrlB,reduceCtorEq,HO.abs.injEq,Gh.rq.injEq,Rq.mk.injEq];have hdn:(yC ⟨ln,p,⟨m,tg,hm,hf,hl⟩,le,none,true,out⟩)=yC ⟨ln,p,⟨m,tg,hm,hf,hl⟩,le,none,true,out⟩:=rfl
 by_cases q1:p=0
 · rw [if_pos q1] at hr
   by_cases q2:s=[]
   · rw [if_pos q2] at hr
     simp only [Prod.mk.injEq] at hr;obtain⟨rfl,rfl⟩:=hr
     (repeat' (first|refine ja ?_ ?_|intro _))<;>first|omega|exact jb|exact jc ‹False›|skip
     all_goals first|omega|rfl|(exfalso;exact ‹¬ s=[]› q2)|trace_state
   rw [if_neg q2] at hr
   have hbg:(rZ ⟨ln,p,⟨m,tg,hm,hf,hl⟩,le,none,true,out⟩ s,(begM s).1)=(rq,rc):=by
    rw [← hr];unfold rZ
    by_cases c0:(begM s).1=0
    · rw [if_pos c0,if_pos c0,c0]
    · rw [if_neg c0,if_neg c0]
      by_cases c1:(begM s).1=11
      · rw [if_pos c1,if_pos c1,c1]
      · rw [if_neg c1,if_neg c1]
   simp only [Prod.mk.injEq] at hbg
   (repeat' (first|refine ja ?_ ?_|intro _))<;>first|omega|exact jb|exact jc ‹False›|skip
   all_goals first|omega|exact hbg.1|exact hbg.2|exact⟨rfl,hs⟩|rfl|(exfalso;exact q2 ‹s=[]›)|(simp only [uQ];done)|exact hs|trace_state
 · rw [if_neg q1] at hr
   by_cases q2:s=[]
   · rw [if_pos q2] at hr
     (repeat' (first|refine ja ?_ ?_|intro _))<;>first|omega|exact jb|exact jc ‹False›|skip
     all_goals first|omega|(rw [hr];done)|(rw [hr])|rfl|exact hfs0|exact hf1|(exact(hf2 _ ‹_›).1)|(exact(hf2 _ ‹_›).2)|(exfalso;exact ‹¬ s=[]› q2)|trace_state
   rw [if_neg q2] at hr
   by_cases q3:hf.length=16
   · rw [if_pos q3] at hr
     simp only [Prod.mk.injEq] at hr;obtain⟨rfl,rfl⟩:=hr
     (repeat' (first|refine ja ?_ ?_|intro _))<;>first|omega|exact jb|exact jc ‹False›|skip
     all_goals first|omega|rfl|(exfalso;exact q2 ‹s=[]›)|trace_state
   · rw [if_neg q3] at hr
     simp only [Prod.mk.injEq] at hr;obtain⟨rfl,rfl⟩:=hr
     (repeat' (first|refine ja ?_ ?_|intro _))<;>first|omega|exact jb|exact jc ‹False›|skip
     all_goals first|omega|rfl|exact hs|(simp only [jh,ji];omega)|(exfalso;exact q2 ‹s=[]›)|trace_state
theorem zo3 (ln:Ln) (p:Int) (m tg:Str) (hm:Int) (hf:List Fld) (hl le:Int) (out:List Evt) (s:Str) (hneed:uQ ⟨ln,p,⟨m,tg,hm,hf,hl⟩,le,none,false,out⟩∧rqFs ⟨ln,p,⟨m,tg,hm,hf,hl⟩,le,none,false,out⟩∧s.length≤1000000):Spc Tryz.prog 122 [.v (.one (.ptr 0 0)),.v (.one (.p (.str s)))] [.abs (.rq ⟨ln,p,⟨m,tg,hm,hf,hl⟩,le,none,false,out⟩)] (.ret (.v (.one (.p (.int .i64 ((zJ ⟨ln,p,⟨m,tg,hm,hf,hl⟩,le,none,false,out⟩ s).2)))))) [.abs (.rq (((zJ ⟨ln,p,⟨m,tg,hm,hf,hl⟩,le,none,false,out⟩ s).1)))]:=by
 exact absurd hneed.1 (fun h=>by unfold uQ at h;cases h)
theorem zo0 (ln:Ln) (p:Int) (m tg:Str) (hm:Int) (hf:List Fld) (hl le:Int) (ch:Ch) (out:List Evt) (s:Str) (hneed:uQ ⟨ln,p,⟨m,tg,hm,hf,hl⟩,le,some ch,true,out⟩∧rqFs ⟨ln,p,⟨m,tg,hm,hf,hl⟩,le,some ch,true,out⟩∧s.length≤1000000):Spc Tryz.prog 122 [.v (.one (.ptr 0 0)),.v (.one (.p (.str s)))] [.abs (.rq ⟨ln,p,⟨m,tg,hm,hf,hl⟩,le,some ch,true,out⟩)] (.ret (.v (.one (.p (.int .i64 ((zJ ⟨ln,p,⟨m,tg,hm,hf,hl⟩,le,some ch,true,out⟩ s).2)))))) [.abs (.rq (((zJ ⟨ln,p,⟨m,tg,hm,hf,hl⟩,le,some ch,true,out⟩ s).1)))]:=by
 obtain⟨-,hfs,hs⟩:=hneed;have hfs0:=hfs;obtain⟨hfs,hfw⟩:=hfs;simp only at hfs hfw;obtain⟨hf1,hf2⟩:=hfs;generalize hr:zJ ⟨ln,p,⟨m,tg,hm,hf,hl⟩,le,some ch,true,out⟩ s=r;obtain⟨rq,rc⟩:=r
 refine spcG zh mixed Tryz.func122 (by kernel_rfl) { cfgQ with seam:=[],keep:=some [0,1,4,5,6]} [Uj,Ui,zld,zlc,zgQ,zgP] (by kernel_rfl) ?_
 intro I X hI hX
 refine orcL ?_;go_invoke;refine orcS (by kernel_rfl) ?_
 simp only [zq,Nat.reduceAdd];subst hI;unfold zJ at hr;simp only at hr;simp only [nrmA,nrmB,nrlB,reduceCtorEq,HO.abs.injEq,Gh.rq.injEq,Rq.mk.injEq];have hdn:(yC ⟨ln,p,⟨m,tg,hm,hf,hl⟩,le,some ch,true,out⟩)=yC ⟨ln,p,⟨m,tg,hm,hf,hl⟩,le,some ch,true,out⟩:=rfl
 by_cases q1:p=0
 · rw [if_pos q1] at hr
   by_cases q2:s=[]
   · rw [if_pos q2] at hr
     simp only [Prod.mk.injEq] at hr;obtain⟨rfl,rfl⟩:=hr
     (repeat' (first|refine ja ?_ ?_|intro _))<;>first|omega|exact jb|exact jc ‹False›|skip
     all_goals first|omega|rfl|(exfalso;exact ‹¬ s=[]› q2)|trace_state
   rw [if_neg q2] at hr
   have hbg:(rZ ⟨ln,p,⟨m,tg,hm,hf,hl⟩,le,some ch,true,out⟩ s,(begM s).1)=(rq,rc):=by
    rw [← hr];unfold rZ
    by_cases c0:(begM s).1=0
    · rw [if_pos c0,if_pos c0,c0]
    · rw [if_neg c0,if_neg c0]
      by_cases c1:(begM s).1=11
      · rw [if_pos c1,if_pos c1,c1]
      · rw [if_neg c1,if_neg c1]
   simp only [Prod.mk.injEq] at hbg
   (repeat' (first|refine ja ?_ ?_|intro _))<;>first|omega|exact jb|exact jc ‹False›|skip
   all_goals first|omega|exact hbg.1|exact hbg.2|exact⟨rfl,hs⟩|rfl|(exfalso;exact q2 ‹s=[]›)|(simp only [uQ];done)|exact hs|trace_state
 · rw [if_neg q1] at hr
   by_cases q2:s=[]
   · rw [if_pos q2] at hr
     (repeat' (first|refine ja ?_ ?_|intro _))<;>first|omega|exact jb|exact jc ‹False›|skip
     all_goals first|omega|(rw [hr];done)|(rw [hr])|rfl|exact hfs0|exact hf1|(exact(hf2 _ ‹_›).1)|(exact(hf2 _ ‹_›).2)|(exfalso;exact ‹¬ s=[]› q2)|trace_state
   rw [if_neg q2] at hr
   by_cases q3:hf.length=16
   · rw [if_pos q3] at hr
     simp only [Prod.mk.injEq] at hr;obtain⟨rfl,rfl⟩:=hr
     (repeat' (first|refine ja ?_ ?_|intro _))<;>first|omega|exact jb|exact jc ‹False›|skip
     all_goals first|omega|rfl|(exfalso;exact q2 ‹s=[]›)|trace_state
   · rw [if_neg q3] at hr
     simp only [Prod.mk.injEq] at hr;obtain⟨rfl,rfl⟩:=hr
     (repeat' (first|refine ja ?_ ?_|intro _))<;>first|omega|exact jb|exact jc ‹False›|skip
     all_goals first|omega|rfl|exact hs|(simp only [jh,ji];omega)|(exfalso;exact q2 ‹s=[]›)|trace_state
theorem zo1 (ln:Ln) (p:Int) (m tg:Str) (hm:Int) (hf:List Fld) (hl le:Int) (ch:Ch) (out:List Evt) (s:Str) (hneed:uQ ⟨ln,p,⟨m,tg,hm,hf,hl⟩,le,some ch,false,out⟩∧rqFs ⟨ln,p,⟨m,tg,hm,hf,hl⟩,le,some ch,false,out⟩∧s.length≤1000000):Spc Tryz.prog 122 [.v (.one (.ptr 0 0)),.v (.one (.p (.str s)))] [.abs (.rq ⟨ln,p,⟨m,tg,hm,hf,hl⟩,le,some ch,false,out⟩)] (.ret (.v (.one (.p (.int .i64 ((zJ ⟨ln,p,⟨m,tg,hm,hf,hl⟩,le,some ch,false,out⟩ s).2)))))) [.abs (.rq (((zJ ⟨ln,p,⟨m,tg,hm,hf,hl⟩,le,some ch,false,out⟩ s).1)))]:=by
 exact absurd hneed.1 (fun h=>by unfold uQ at h;cases h)
def VY (I:Alg) (args:List D) (hp:List HO):Option CT:=match args,hp with
 |[.v (.one (.ptr 0 0)),.v (.one (.p (.str s)))],[.abs (.rq q)]=>(fun(q:Rq) (s:Str)=>(some (.one ⟨I.hid (uQ q∧rqFs q∧s.length≤1000000),(.ret (.v (.one (.p (.int .i64 (I.hid ((zJ q s).2))))))),[.abs (.rq (I.hid (((zJ q s).1))))]⟩):Option CT)) q s
 |_,_=>none
theorem zgL:zx Tryz.prog 122 (VY alg):=by
 intro args hp r h;unfold VY at h;split at h<;>cases h
 rename_i s q;simp only [CT.Good,zi];intro hneed;obtain⟨ln,p,⟨m,tg,hm,hf,hl⟩,le,ck,own,out⟩:=q
 cases ck with
 | none=>cases own with
   |true=>exact zo2 ln p m tg hm hf hl le out s hneed
   |false=>exact zo3 ln p m tg hm hf hl le out s hneed
 | some ch=>cases own with
   |true=>exact zo0 ln p m tg hm hf hl le ch out s hneed
   |false=>exact zo1 ln p m tg hm hf hl le ch out s hneed
def VX:Know Tryz.prog:=⟨122,VY,zgL⟩
def VW:Know Tryz.prog:=⟨122,fun I=>zy I (VY I),zf zgL⟩
theorem zxw (k:Int) (hneed:False):Spc Tryz.prog 119 [.v (.one (.p (.val (.pointer none)))),.v (.one (.p (.int .u8 k)))] [] (.ret (.tup [(.one (.p (.list .byte ([])))),(.one (.p (.bool false))),(.one (.p (.int .i64 0)))])) []:=hneed.elim
def zbq (I:Alg) (args:List D) (hp:List HO):Option CT:=match args,hp with
 |[.v (.one (.p (.val (.pointer none)))),.v (.one (.p (.int .u8 k)))],[]=>(fun(k:Int)=>(some (.one ⟨I.hid (False),(.ret (.tup [(.one (.p (.list .byte (I.hid ([]))))),(.one (.p (.bool false))),(.one (.p (.int .i64 0)))])),[]⟩):Option CT)) k
 |_,_=>none
theorem zmA:zx Tryz.prog 119 (zbq alg):=by
 intro args hp r h;unfold zbq at h
 split at h
 · cases h;exact fun hn=>zxw _ hn
 · cases h
def zbp:Know Tryz.prog:=⟨119,zbq,zmA⟩
def zbo:Know Tryz.prog:=⟨119,fun I=>zy I (zbq I),zf zmA⟩
def rqN (q:Rq):Prop:=∃ i:Nat,i≤1000000∧RqI q i
theorem zdO (q:Rq) (s:Str):(zJ q s).1.out.length≤q.out.length+2:=by
 unfold zJ yC vY
 repeat' split
 all_goals(simp only [jk,jh,ji];omega)
theorem zpn (ln:Ln) (p:Int) (m tg:Str) (hm:Int) (hf:List Fld) (hl le:Int) (out:List Evt) (k:Int) (hneed:rqN ⟨ln,p,⟨m,tg,hm,hf,hl⟩,le,none,true,out⟩∧0≤k∧k≤255):Spc Tryz.prog 80 [.v (.one (.ptr 0 0)),.v (.one (.p (.int .u8 k)))] [.abs (.rq ⟨ln,p,⟨m,tg,hm,hf,hl⟩,le,none,true,out⟩)] (.ret (.tup [])) [.abs (.rq ((rqF ⟨ln,p,⟨m,tg,hm,hf,hl⟩,le,none,true,out⟩ (UInt8.ofNat k.toNat))))]:=by
 obtain⟨⟨i,hi,hI0⟩,hk0,hk1⟩:=hneed;obtain⟨g1,g2,g3,g4,g5,g6,g7,g8,g9,g10⟩:=hI0;simp only at g1 g2 g3 g4 g5 g6 g7 g8 g9 g10
 have hfs:FsOk hf:=⟨by omega,fun f hm=>by have:=g6 f hm;omega⟩
 have hll:=YL ln (UInt8.ofNat k.toNat);generalize hr:rqF ⟨ln,p,⟨m,tg,hm,hf,hl⟩,le,none,true,out⟩ (UInt8.ofNat k.toNat)=r
 refine spcG zh mixed Tryz.func80 (by kernel_rfl) { cfgQ with fz:=[117],keep:=some [0,1,4,5,6,7,8,9,13,62]} [qj,qi,TW,TV,zbp,zbo,yc,zZ,yw,yu,yH,yG,yN,yM,wX,wW,V5,V4,Xy,Xx,VX,VW] (by kernel_rfl) ?_
 intro I X hI hX
 refine orcL ?_;go_invoke;refine orcS (by kernel_rfl) ?_
 simp only [zq,Nat.reduceAdd];subst hI;unfold rqF at hr;simp only at hr;simp only [nrmA,nrmB,nrlB,reduceCtorEq,HO.abs.injEq,Gh.rq.injEq,Rq.mk.injEq];generalize UInt8.ofNat k.toNat=c at *;have hz2:lnF ⟨ln.b,ln.cr,ln.code⟩ c=lnF ln c:=rfl;simp only [hz2];clear hz2 g2
 by_cases q1:p=2
 · rw [if_pos q1] at hr
   have h9:=g9 q1
   by_cases q2:le - 1=0
   · rw [if_pos q2] at hr
     subst hr
     have q3:le=1:=by omega
     subst q3
     (repeat' (first|refine ja ?_ ?_|intro _))<;>first|omega|exact jb|exact jc ‹False›|skip
     all_goals first|omega|rfl|(unfold zI;simp;omega)|(unfold zI;simp only;omega)|trace_state
   · rw [if_neg q2] at hr
     subst hr
     (repeat' (first|refine ja ?_ ?_|intro _))<;>first|omega|exact jb|exact jc ‹False›|skip
     all_goals first|omega|rfl|(unfold zI;simp;omega)|(unfold zI;simp only;omega)|trace_state
 rw [if_neg q1] at hr
 by_cases q4:p=3
 · exact absurd rfl (g3 q4)
 rw [if_neg q4] at hr
 by_cases q8:p=0∨p=1
 · rw [if_pos q8] at hr
   have hl: ∀ (l:Ln) (s:Str),zJ ⟨⟨l.b,l.cr,l.code⟩,p,⟨m,tg,hm,hf,hl⟩,le,none,true,out⟩ s=zJ ⟨l,p,⟨m,tg,hm,hf,hl⟩,le,none,true,out⟩ s:=fun l s=>rfl;simp only [hl];clear hl;generalize lnF ln c=z at *;obtain⟨l2,s,is,e⟩:=z;simp only at hr hll ⊢;have hlo:(zJ ⟨l2,p,⟨m,tg,hm,hf,hl⟩,le,none,true,out⟩ s).1.out.length≤out.length+2:=zdO _ _;generalize zJ ⟨l2,p,⟨m,tg,hm,hf,hl⟩,le,none,true,out⟩ s=y at *;obtain⟨y,ye⟩:=y;simp only at hr hlo ⊢
   by_cases q5:e=0
   · rw [if_neg (fun h=>h q5)] at hr
     cases is with
     | true=>
       rw [if_pos rfl] at hr
       by_cases q6:ye=0
       · rw [if_neg (fun h=>h q6)] at hr
         subst hr
         (repeat' (first|refine ja ?_ ?_|intro _))<;>first|omega|exact jb|exact jc ‹False›|skip
         all_goals first|omega|rfl|contradiction|exact⟨rfl,⟨hfs,by simp only;omega⟩,by omega⟩|(simp only [uQ];done)|exact hfs.1|(exact(hfs.2 _ ‹_›).1)|(exact(hfs.2 _ ‹_›).2)|(unfold zI;omega)|(simp only;omega)|trace_state
       · rw [if_pos q6] at hr
         subst hr
         (repeat' (first|refine ja ?_ ?_|intro _))<;>first|omega|exact jb|exact jc ‹False›|skip
         all_goals first|omega|rfl|contradiction|exact⟨rfl,⟨hfs,by simp only;omega⟩,by omega⟩|(simp only [uQ];done)|exact hfs.1|(exact(hfs.2 _ ‹_›).1)|(exact(hfs.2 _ ‹_›).2)|(unfold zI;omega)|(simp only;omega)|trace_state
     | false=>
       rw [if_neg Bool.false_ne_true] at hr;subst hr
       (repeat' (first|refine ja ?_ ?_|intro _))<;>first|omega|exact jb|exact jc ‹False›|skip
       all_goals first|omega|rfl|contradiction|trace_state
   · rw [if_pos q5] at hr
     subst hr
     (repeat' (first|refine ja ?_ ?_|intro _))<;>first|omega|exact jb|exact jc ‹False›|skip
     all_goals first|omega|rfl|contradiction|(unfold zI;simp only;omega)|trace_state
 rw [if_neg q8] at hr;subst hr
 (repeat' (first|refine ja ?_ ?_|intro _))<;>first|omega|exact jb|exact jc ‹False›|skip
 all_goals first|omega|rfl|contradiction|trace_state
theorem zpo (ln:Ln) (p:Int) (m tg:Str) (hm:Int) (hf:List Fld) (hl le:Int) (out:List Evt) (k:Int) (hneed:rqN ⟨ln,p,⟨m,tg,hm,hf,hl⟩,le,none,false,out⟩∧0≤k∧k≤255):Spc Tryz.prog 80 [.v (.one (.ptr 0 0)),.v (.one (.p (.int .u8 k)))] [.abs (.rq ⟨ln,p,⟨m,tg,hm,hf,hl⟩,le,none,false,out⟩)] (.ret (.tup [])) [.abs (.rq ((rqF ⟨ln,p,⟨m,tg,hm,hf,hl⟩,le,none,false,out⟩ (UInt8.ofNat k.toNat))))]:=by
 obtain⟨⟨i,hi,hI0⟩,hk0,hk1⟩:=hneed;obtain⟨g1,g2,g3,g4,g5,g6,g7,g8,g9,g10⟩:=hI0;simp only at g1 g2 g3 g4 g5 g6 g7 g8 g9 g10
 have hfs:FsOk hf:=⟨by omega,fun f hm=>by have:=g6 f hm;omega⟩
 have hll:=YL ln (UInt8.ofNat k.toNat);generalize hr:rqF ⟨ln,p,⟨m,tg,hm,hf,hl⟩,le,none,false,out⟩ (UInt8.ofNat k.toNat)=r
 refine spcG zh mixed Tryz.func80 (by kernel_rfl) { cfgQ with fz:=[117],keep:=some [0,1,4,5,6,7,8,9,13,62]} [qj,qi,TW,TV,zbp,zbo,yc,zZ,yw,yu,yH,yG,yN,yM,wX,wW,V5,V4,Xy,Xx,VX,VW] (by kernel_rfl) ?_
 intro I X hI hX
 refine orcL ?_;go_invoke;refine orcS (by kernel_rfl) ?_
 simp only [zq,Nat.reduceAdd];subst hI;unfold rqF at hr;simp only at hr;simp only [nrmA,nrmB,nrlB,reduceCtorEq,HO.abs.injEq,Gh.rq.injEq,Rq.mk.injEq];generalize UInt8.ofNat k.toNat=c at *;have hz2:lnF ⟨ln.b,ln.cr,ln.code⟩ c=lnF ln c:=rfl;simp only [hz2];clear hz2 g2
 by_cases q1:p=2
 · rw [if_pos q1] at hr
   have h9:=g9 q1
   by_cases q2:le - 1=0
   · rw [if_pos q2] at hr
     subst hr
     have q3:le=1:=by omega
     subst q3
     (repeat' (first|refine ja ?_ ?_|intro _))<;>first|omega|exact jb|exact jc ‹False›|skip
     all_goals first|omega|rfl|(unfold zI;simp;omega)|(unfold zI;simp only;omega)|trace_state
   · rw [if_neg q2] at hr
     subst hr
     (repeat' (first|refine ja ?_ ?_|intro _))<;>first|omega|exact jb|exact jc ‹False›|skip
     all_goals first|omega|rfl|(unfold zI;simp;omega)|(unfold zI;simp only;omega)|trace_state
 rw [if_neg q1] at hr
 by_cases q4:p=3
 · exact absurd rfl (g3 q4)
 rw [if_neg q4] at hr
 by_cases q8:p=0∨p=1
 · exact absurd (g4 q8) (by simp)
 rw [if_neg q8] at hr;subst hr
 (repeat' (first|refine ja ?_ ?_|intro _))<;>first|omega|exact jb|exact jc ‹False›|skip
 all_goals first|omega|rfl|contradiction|trace_state
theorem zpl (ln:Ln) (p:Int) (m tg:Str) (hm:Int) (hf:List Fld) (hl le:Int) (ch:Ch) (out:List Evt) (k:Int) (hneed:rqN ⟨ln,p,⟨m,tg,hm,hf,hl⟩,le,some ch,true,out⟩∧0≤k∧k≤255):Spc Tryz.prog 80 [.v (.one (.ptr 0 0)),.v (.one (.p (.int .u8 k)))] [.abs (.rq ⟨ln,p,⟨m,tg,hm,hf,hl⟩,le,some ch,true,out⟩)] (.ret (.tup [])) [.abs (.rq ((rqF ⟨ln,p,⟨m,tg,hm,hf,hl⟩,le,some ch,true,out⟩ (UInt8.ofNat k.toNat))))]:=by
 obtain⟨⟨i,hi,hI0⟩,hk0,hk1⟩:=hneed;obtain⟨g1,g2,g3,g4,g5,g6,g7,g8,g9,g10⟩:=hI0;simp only at g1 g2 g3 g4 g5 g6 g7 g8 g9 g10
 have hfs:FsOk hf:=⟨by omega,fun f hm=>by have:=g6 f hm;omega⟩
 have hll:=YL ln (UInt8.ofNat k.toNat);generalize hr:rqF ⟨ln,p,⟨m,tg,hm,hf,hl⟩,le,some ch,true,out⟩ (UInt8.ofNat k.toNat)=r
 refine spcG zh mixed Tryz.func80 (by kernel_rfl) { cfgQ with fz:=[117],keep:=some [0,1,4,5,6,7,8,9,13,62]} [qj,qi,TW,TV,zbp,zbo,yc,zZ,yw,yu,yH,yG,yN,yM,wX,wW,V5,V4,Xy,Xx,VX,VW] (by kernel_rfl) ?_
 intro I X hI hX
 refine orcL ?_;go_invoke;refine orcS (by kernel_rfl) ?_
 simp only [zq,Nat.reduceAdd];subst hI;unfold rqF at hr;simp only at hr;simp only [nrmA,nrmB,nrlB,reduceCtorEq,HO.abs.injEq,Gh.rq.injEq,Rq.mk.injEq];generalize UInt8.ofNat k.toNat=c at *;have hni:=zmF (g2 ch rfl) hi;have hz:chF ⟨⟨ch.ln.b,ch.ln.cr,ch.ln.code⟩,ch.pos,ch.left,ch.all,ch.tails,ch.code⟩ c=chF ch c:=rfl;have hck:ckOf ⟨ln,p,⟨m,tg,hm,hf,hl⟩,le,some ch,true,out⟩=ch:=rfl;simp only [hz];rw [hck] at hr;clear hz hck;have hz2:lnF ⟨ln.b,ln.cr,ln.code⟩ c=lnF ln c:=rfl;simp only [hz2];clear hz2 g2
 by_cases q1:p=2
 · rw [if_pos q1] at hr
   have h9:=g9 q1
   by_cases q2:le - 1=0
   · rw [if_pos q2] at hr
     subst hr
     have q3:le=1:=by omega
     subst q3
     (repeat' (first|refine ja ?_ ?_|intro _))<;>first|omega|exact jb|exact jc ‹False›|skip
     all_goals first|omega|rfl|(unfold zI;simp;omega)|(unfold zI;simp only;omega)|trace_state
   · rw [if_neg q2] at hr
     subst hr
     (repeat' (first|refine ja ?_ ?_|intro _))<;>first|omega|exact jb|exact jc ‹False›|skip
     all_goals first|omega|rfl|(unfold zI;simp;omega)|(unfold zI;simp only;omega)|trace_state
 rw [if_neg q1] at hr
 by_cases q4:p=3
 · rw [if_pos q4] at hr
   generalize chF ch c=z at *;obtain⟨⟨⟨zb,zc,zo⟩,z1,z2,z3,z4,z5⟩,d,ov,e⟩:=z;simp only at hr ⊢;have hd0:d.length=0↔d=[]:=List.length_eq_zero_iff
   by_cases q5:e=0
   · rw [if_neg (fun h=>h q5)] at hr
     cases ov with
     | true=>
       rw [if_pos rfl] at hr
       by_cases q6:d=[]
       · rw [if_neg (fun h=>h q6)] at hr
         have q7:=hd0.2 q6;subst hr
         (repeat' (first|refine ja ?_ ?_|intro _))<;>first|omega|exact jb|exact jc ‹False›|skip
         all_goals first|omega|rfl|(unfold zI;simp;omega)|(unfold zI;simp only;omega)|contradiction|exact⟨⟨hk0,hk1⟩,hni⟩|trace_state
       · rw [if_pos q6] at hr
         have q7: ¬ d.length=0:=fun h=>q6 (hd0.1 h);subst hr
         (repeat' (first|refine ja ?_ ?_|intro _))<;>first|omega|exact jb|exact jc ‹False›|skip
         all_goals first|omega|rfl|(unfold zI;simp;omega)|(unfold zI;simp only;omega)|contradiction|exact⟨⟨hk0,hk1⟩,hni⟩|trace_state
     | false=>
       rw [if_neg Bool.false_ne_true] at hr
       by_cases q6:d=[]
       · rw [if_neg (fun h=>h q6)] at hr
         have q7:=hd0.2 q6;subst hr
         (repeat' (first|refine ja ?_ ?_|intro _))<;>first|omega|exact jb|exact jc ‹False›|skip
         all_goals first|omega|rfl|(unfold zI;simp;omega)|(unfold zI;simp only;omega)|contradiction|exact⟨⟨hk0,hk1⟩,hni⟩|trace_state
       · rw [if_pos q6] at hr
         have q7: ¬ d.length=0:=fun h=>q6 (hd0.1 h);subst hr
         (repeat' (first|refine ja ?_ ?_|intro _))<;>first|omega|exact jb|exact jc ‹False›|skip
         all_goals first|omega|rfl|(unfold zI;simp;omega)|(unfold zI;simp only;omega)|contradiction|exact⟨⟨hk0,hk1⟩,hni⟩|trace_state
   · rw [if_pos q5] at hr
     subst hr
     (repeat' (first|refine ja ?_ ?_|intro _))<;>first|omega|exact jb|exact jc ‹False›|skip
     all_goals first|omega|rfl|(unfold zI;simp;omega)|(unfold zI;simp only;omega)|contradiction|exact⟨⟨hk0,hk1⟩,hni⟩|trace_state
 rw [if_neg q4] at hr
 by_cases q8:p=0∨p=1
 · rw [if_pos q8] at hr
   have hl: ∀ (l:Ln) (s:Str),zJ ⟨⟨l.b,l.cr,l.code⟩,p,⟨m,tg,hm,hf,hl⟩,le,some ch,true,out⟩ s=zJ ⟨l,p,⟨m,tg,hm,hf,hl⟩,le,some ch,true,out⟩ s:=fun l s=>rfl;simp only [hl];clear hl;generalize lnF ln c=z at *;obtain⟨l2,s,is,e⟩:=z;simp only at hr hll ⊢;have hlo:(zJ ⟨l2,p,⟨m,tg,hm,hf,hl⟩,le,some ch,true,out⟩ s).1.out.length≤out.length+2:=zdO _ _;generalize zJ ⟨l2,p,⟨m,tg,hm,hf,hl⟩,le,some ch,true,out⟩ s=y at *;obtain⟨y,ye⟩:=y;simp only at hr hlo ⊢
   by_cases q5:e=0
   · rw [if_neg (fun h=>h q5)] at hr
     cases is with
     | true=>
       rw [if_pos rfl] at hr
       by_cases q6:ye=0
       · rw [if_neg (fun h=>h q6)] at hr
         subst hr
         (repeat' (first|refine ja ?_ ?_|intro _))<;>first|omega|exact jb|exact jc ‹False›|skip
         all_goals first|omega|rfl|contradiction|exact⟨rfl,⟨hfs,by simp only;omega⟩,by omega⟩|(simp only [uQ];done)|exact hfs.1|(exact(hfs.2 _ ‹_›).1)|(exact(hfs.2 _ ‹_›).2)|(unfold zI;omega)|(simp only;omega)|trace_state
       · rw [if_pos q6] at hr
         subst hr
         (repeat' (first|refine ja ?_ ?_|intro _))<;>first|omega|exact jb|exact jc ‹False›|skip
         all_goals first|omega|rfl|contradiction|exact⟨rfl,⟨hfs,by simp only;omega⟩,by omega⟩|(simp only [uQ];done)|exact hfs.1|(exact(hfs.2 _ ‹_›).1)|(exact(hfs.2 _ ‹_›).2)|(unfold zI;omega)|(simp only;omega)|trace_state
     | false=>
       rw [if_neg Bool.false_ne_true] at hr;subst hr
       (repeat' (first|refine ja ?_ ?_|intro _))<;>first|omega|exact jb|exact jc ‹False›|skip
       all_goals first|omega|rfl|contradiction|trace_state
   · rw [if_pos q5] at hr
     subst hr
     (repeat' (first|refine ja ?_ ?_|intro _))<;>first|omega|exact jb|exact jc ‹False›|skip
     all_goals first|omega|rfl|contradiction|(unfold zI;simp only;omega)|trace_state
 rw [if_neg q8] at hr;subst hr
 (repeat' (first|refine ja ?_ ?_|intro _))<;>first|omega|exact jb|exact jc ‹False›|skip
 all_goals first|omega|rfl|contradiction|trace_state
theorem zpm (ln:Ln) (p:Int) (m tg:Str) (hm:Int) (hf:List Fld) (hl le:Int) (ch:Ch) (out:List Evt) (k:Int) (hneed:rqN ⟨ln,p,⟨m,tg,hm,hf,hl⟩,le,some ch,false,out⟩∧0≤k∧k≤255):Spc Tryz.prog 80 [.v (.one (.ptr 0 0)),.v (.one (.p (.int .u8 k)))] [.abs (.rq ⟨ln,p,⟨m,tg,hm,hf,hl⟩,le,some ch,false,out⟩)] (.ret (.tup [])) [.abs (.rq ((rqF ⟨ln,p,⟨m,tg,hm,hf,hl⟩,le,some ch,false,out⟩ (UInt8.ofNat k.toNat))))]:=by
 obtain⟨⟨i,hi,hI0⟩,hk0,hk1⟩:=hneed;obtain⟨g1,g2,g3,g4,g5,g6,g7,g8,g9,g10⟩:=hI0;simp only at g1 g2 g3 g4 g5 g6 g7 g8 g9 g10
 have hfs:FsOk hf:=⟨by omega,fun f hm=>by have:=g6 f hm;omega⟩
 have hll:=YL ln (UInt8.ofNat k.toNat);generalize hr:rqF ⟨ln,p,⟨m,tg,hm,hf,hl⟩,le,some ch,false,out⟩ (UInt8.ofNat k.toNat)=r
 refine spcG zh mixed Tryz.func80 (by kernel_rfl) { cfgQ with fz:=[117],keep:=some [0,1,4,5,6,7,8,9,13,62]} [qj,qi,TW,TV,zbp,zbo,yc,zZ,yw,yu,yH,yG,yN,yM,wX,wW,V5,V4,Xy,Xx,VX,VW] (by kernel_rfl) ?_
 intro I X hI hX
 refine orcL ?_;go_invoke;refine orcS (by kernel_rfl) ?_
 simp only [zq,Nat.reduceAdd];subst hI;unfold rqF at hr;simp only at hr;simp only [nrmA,nrmB,nrlB,reduceCtorEq,HO.abs.injEq,Gh.rq.injEq,Rq.mk.injEq];generalize UInt8.ofNat k.toNat=c at *;have hni:=zmF (g2 ch rfl) hi;have hz:chF ⟨⟨ch.ln.b,ch.ln.cr,ch.ln.code⟩,ch.pos,ch.left,ch.all,ch.tails,ch.code⟩ c=chF ch c:=rfl;have hck:ckOf ⟨ln,p,⟨m,tg,hm,hf,hl⟩,le,some ch,false,out⟩=ch:=rfl;simp only [hz];rw [hck] at hr;clear hz hck;have hz2:lnF ⟨ln.b,ln.cr,ln.code⟩ c=lnF ln c:=rfl;simp only [hz2];clear hz2 g2
 by_cases q1:p=2
 · rw [if_pos q1] at hr
   have h9:=g9 q1
   by_cases q2:le - 1=0
   · rw [if_pos q2] at hr
     subst hr
     have q3:le=1:=by omega
     subst q3
     (repeat' (first|refine ja ?_ ?_|intro _))<;>first|omega|exact jb|exact jc ‹False›|skip
     all_goals first|omega|rfl|(unfold zI;simp;omega)|(unfold zI;simp only;omega)|trace_state
   · rw [if_neg q2] at hr
     subst hr
     (repeat' (first|refine ja ?_ ?_|intro _))<;>first|omega|exact jb|exact jc ‹False›|skip
     all_goals first|omega|rfl|(unfold zI;simp;omega)|(unfold zI;simp only;omega)|trace_state
 rw [if_neg q1] at hr
 by_cases q4:p=3
 · rw [if_pos q4] at hr
   generalize chF ch c=z at *;obtain⟨⟨⟨zb,zc,zo⟩,z1,z2,z3,z4,z5⟩,d,ov,e⟩:=z;simp only at hr ⊢;have hd0:d.length=0↔d=[]:=List.length_eq_zero_iff
   by_cases q5:e=0
   · rw [if_neg (fun h=>h q5)] at hr
     cases ov with
     | true=>
       rw [if_pos rfl] at hr
       by_cases q6:d=[]
       · rw [if_neg (fun h=>h q6)] at hr
         have q7:=hd0.2 q6;subst hr
         (repeat' (first|refine ja ?_ ?_|intro _))<;>first|omega|exact jb|exact jc ‹False›|skip
         all_goals first|omega|rfl|(unfold zI;simp;omega)|(unfold zI;simp only;omega)|contradiction|exact⟨⟨hk0,hk1⟩,hni⟩|trace_state
       · rw [if_pos q6] at hr
         have q7: ¬ d.length=0:=fun h=>q6 (hd0.1 h);subst hr
         (repeat' (first|refine ja ?_ ?_|intro _))<;>first|omega|exact jb|exact jc ‹False›|skip
         all_goals first|omega|rfl|(unfold zI;simp;omega)|(unfold zI;simp only;omega)|contradiction|exact⟨⟨hk0,hk1⟩,hni⟩|trace_state
     | false=>
       rw [if_neg Bool.false_ne_true] at hr
       by_cases q6:d=[]
       · rw [if_neg (fun h=>h q6)] at hr
         have q7:=hd0.2 q6;subst hr
         (repeat' (first|refine ja ?_ ?_|intro _))<;>first|omega|exact jb|exact jc ‹False›|skip
         all_goals first|omega|rfl|(unfold zI;simp;omega)|(unfold zI;simp only;omega)|contradiction|exact⟨⟨hk0,hk1⟩,hni⟩|trace_state
       · rw [if_pos q6] at hr
         have q7: ¬ d.length=0:=fun h=>q6 (hd0.1 h);subst hr
         (repeat' (first|refine ja ?_ ?_|intro _))<;>first|omega|exact jb|exact jc ‹False›|skip
         all_goals first|omega|rfl|(unfold zI;simp;omega)|(unfold zI;simp only;omega)|contradiction|exact⟨⟨hk0,hk1⟩,hni⟩|trace_state
   · rw [if_pos q5] at hr
     subst hr
     (repeat' (first|refine ja ?_ ?_|intro _))<;>first|omega|exact jb|exact jc ‹False›|skip
     all_goals first|omega|rfl|(unfold zI;simp;omega)|(unfold zI;simp only;omega)|contradiction|exact⟨⟨hk0,hk1⟩,hni⟩|trace_state
 rw [if_neg q4] at hr
 by_cases q8:p=0∨p=1
 · exact absurd (g4 q8) (by simp)
 rw [if_neg q8] at hr;subst hr
 (repeat' (first|refine ja ?_ ?_|intro _))<;>first|omega|exact jb|exact jc ‹False›|skip
 all_goals first|omega|rfl|contradiction|trace_state
def V9 (I:Alg) (args:List D) (hp:List HO):Option CT:=match args,hp with
 |[.v (.one (.ptr 0 0)),.v (.one (.p (.int .u8 k)))],[.abs (.rq q)]=>(fun(q:Rq) (k:Int)=>(some (.one ⟨I.hid (rqN q∧0≤k∧k≤255),(.ret (.tup [])),[.abs (.rq (I.hid ((rqF q (UInt8.ofNat k.toNat)))))]⟩):Option CT)) q k
 |_,_=>none
theorem zgT:zx Tryz.prog 80 (V9 alg):=by
 intro args hp r h;unfold V9 at h;split at h<;>cases h
 rename_i k q;simp only [CT.Good,zi];intro hneed;obtain⟨ln,p,⟨m,tg,hm,hf,hl⟩,le,ck,own,out⟩:=q
 cases ck with
 | none=>cases own with
   |true=>exact zpn ln p m tg hm hf hl le out k hneed
   |false=>exact zpo ln p m tg hm hf hl le out k hneed
 | some ch=>cases own with
   |true=>exact zpl ln p m tg hm hf hl le ch out k hneed
   |false=>exact zpm ln p m tg hm hf hl le ch out k hneed
def tC:Know Tryz.prog:=⟨80,V9,zgT⟩
def tu:Know Tryz.prog:=⟨80,fun I=>zy I (V9 I),zf zgT⟩
end Go.Proofs.YtkjepecoodjbmaaGreatDoor

namespace Go.Proofs.YtkjepecoodjbmaaGreatDoor
open Go Go.Sep Go.Ab
set_option maxRecDepth 100000
theorem zm7 (q:Rq):zL (yC q).1.out≤zL q.out:=by
 unfold yC vY
 repeat' split
 all_goals simp [zL,evH,evE]
theorem zm5 (q:Rq) (s:Str):zL (zJ q s).1.out≤zL q.out:=by
 have hd:=zm7 q;unfold zJ
 repeat' split
 all_goals first|exact hd|exact jL _
theorem zbU (q:Rq) (c:UInt8):zL (rqF q c).out≤zL q.out+1:=by
 have hl:=zm5 { q with ln:=(lnF q.ln c).1} (lnF q.ln c).2.1
 have hd:=(zmG (s:=ckOf q) (c:=c)).1;unfold rqF
 split
 · split
   · simp only [vY,yF,xJ,evB,evE,jh,ji];omega
   · simp only [yF,xJ,evB,jh,ji];omega
 split
 · split
   · simp only [xO,yF,xJ,evF,ji];omega
   split
   · simp only [vY,yF,xJ,evE,ji]
     split
     · simp only [yF,xJ,evB];omega
     · omega
   · show zL (if(chF (ckOf q) c).2.1≠[] then q.out++[evB (chF (ckOf q) c).2.1] else q.out)≤_
     split
     · simp only [yF,xJ,evB];omega
     · omega
 split
 · split
   · simp only [xO,yF,xJ,evF,ji];omega
   split
   · split
     · simp only [xO,yF,xJ,evF,ji];simp only at hl;omega
     · simp only at hl;omega
   · exact Nat.le_succ _
 · exact Nat.le_succ _
def rqAt (q:Rq) (b:Str) (n i:Nat):Prop:=RqI (yE { q with out:=[]} (b.take i)) (n+i)∧zL (yE { q with out:=[]} (b.take i)).out≤i
theorem zlf {q:Rq} {n:Nat} (h:RqI { q with out:=[]} n) (b:Str):rqAt q b n 0:=⟨h,by simp [yE,zL]⟩
theorem zfe (q:Rq) (b:Str) {i:Nat} (h:i<b.length):yE q (b.take (i+1))=rqF (yE q (b.take i)) (b.getD i 0):=by
 rw [show b.getD i 0=b[i] by simp [h],jB h]
 unfold yE;rw [List.foldl_append];rfl
def rqN0 (q:Rq) (b:Str):Prop:=∃ n,RqI { q with out:=[]} n∧n+b.length≤1000000
theorem zo7 (ln:Ln) (p:Int) (m tg:Str) (hm:Int) (hf:List Fld) (hl le:Int) (out:List Evt) (b:Str) (hneed:rqN0 ⟨ln,p,⟨m,tg,hm,hf,hl⟩,le,none,true,out⟩ b):Spc Tryz.prog 45 [.v (.one (.ptr 0 0)),.v (.one (.p (.list .byte b)))] [.abs (.rq ⟨ln,p,⟨m,tg,hm,hf,hl⟩,le,none,true,out⟩)] (.ret (.v (.one (.row 1)))) [.abs (.rq ((zC ⟨ln,p,⟨m,tg,hm,hf,hl⟩,le,none,true,out⟩ b))),.row .evt 34 ((zH (zC ⟨ln,p,⟨m,tg,hm,hf,hl⟩,le,none,true,out⟩ b).out))]:=by
 obtain⟨n,hI0,hnb⟩:=hneed;have hat:=zlf hI0 b
 refine spcG zh mixed Tryz.func45 (by kernel_rfl) { cfgQ with fz:=[],keep:=some [0,1,4,6,10,11,12]} [tC,tu,wG,wF] (by kernel_rfl) ?_
 intro I X hI hX
 refine orcL ?_;go_invoke;refine orcS (by kernel_rfl) ?_
 simp only [zq,Nat.reduceAdd]
 have hr:({ (⟨ln,p,⟨m,tg,hm,hf,hl⟩,le,none,true,out⟩:Rq) with out:=[]}:Rq)=(⟨ln,p,⟨m,tg,hm,hf,hl⟩,le,none,true,[]⟩:Rq):=rfl
 unfold rqAt at hat;unfold zC;rw [hr] at hat ⊢
 refine zB hI zh mixed [tC,tu,wG,wF] hX [0,1,10,11,12] (fun(g:Nat × Rq)=>match g with|(i,r)=>i≤b.length∧r=yE (⟨ln,p,⟨m,tg,hm,hf,hl⟩,le,none,true,[]⟩:Rq) (b.take i)∧RqI r (n+i)∧zL r.out≤i) (fun(g:Nat × Rq)=>match g with|(i,r)=>⟨[(0,.v (.one (.ptr 0 0))),(1,.v (.one (.p (.list .byte b)))),(10,.v (.one (.p (.list .byte b)))),(11,.v (.one (.p (.int .i64 ((I.len (α:=UInt8) b)))))),(12,.v (.one (.p (.int .i64 i))))],[.abs (.rq r)],25,none⟩) (fun(g:Nat × Rq)=>match g with|(i,r)=>b.length - i) (0,(⟨ln,p,⟨m,tg,hm,hf,hl⟩,le,none,true,[]⟩:Rq)) (by kernel_rfl) (by kernel_rfl) ?_ ?_
 · exact⟨jM _,rfl,hat.1,hat.2⟩
 rintro⟨i,⟨ln2,p2,⟨m2,t2,hm2,hf2,hl2⟩,le2,ck2,own2,out2⟩⟩ ⟨h1,h2,h3,h4⟩ A hA;simp only at hA h1 h2 h3 h4
 have hrn:i<b.length→rqN _:=fun h=>⟨n+i,by omega,h3⟩
 have hgo:i<b.length→_:=fun h=>hA (i+1,rqF ⟨ln2,p2,⟨m2,t2,hm2,hf2,hl2⟩,le2,ck2,own2,out2⟩ (b.getD i 0)) ⟨by simp only;omega,by simp only;rw [zfe _ _ h,← h2],by simp only;exact zi7 h3 _,by simp only;have:=zbU ⟨ln2,p2,⟨m2,t2,hm2,hf2,hl2⟩,le2,ck2,own2,out2⟩ (b.getD i 0);simp only at this;omega⟩ (by simp only;omega)
 have hend: ¬ i<b.length→_:=fun h=>h2.trans (by rw [jq (by omega)])
 rcases ck2 with _|ch2<;>rcases own2 with _|_
 · have h0:=h1
   refine orcL ?_;go_invoke;refine orcS (by kernel_rfl) ?_
   simp only [zq,Nat.reduceAdd];subst hI;simp only [nrmA,nrmB,nrlB,reduceCtorEq,HO.abs.injEq,Gh.rq.injEq,Rq.mk.injEq]
   by_cases hi:i<b.length
   · have hg:=hgo hi
     have hn:=hrn hi
     (repeat' (first|refine ja ?_ ?_|intro _))<;>first|omega|exact jb|exact jc ‹False›|skip
     all_goals first|omega|exact hg|exact hn|contradiction|(have:=(b.getD i 0).toNat_lt;omega)|trace_state
   · have hg:=hend hi
     rw [← hg];have hon:=h3.on;simp only at hon
     (repeat' (first|refine ja ?_ ?_|intro _))<;>first|omega|exact jb|exact jc ‹False›|skip
     all_goals first|omega|rfl|contradiction|exact⟨by omega,by omega⟩|trace_state
 · have h0:=h1
   refine orcL ?_;go_invoke;refine orcS (by kernel_rfl) ?_
   simp only [zq,Nat.reduceAdd];subst hI;simp only [nrmA,nrmB,nrlB,reduceCtorEq,HO.abs.injEq,Gh.rq.injEq,Rq.mk.injEq]
   by_cases hi:i<b.length
   · have hg:=hgo hi
     have hn:=hrn hi
     (repeat' (first|refine ja ?_ ?_|intro _))<;>first|omega|exact jb|exact jc ‹False›|skip
     all_goals first|omega|exact hg|exact hn|contradiction|(have:=(b.getD i 0).toNat_lt;omega)|trace_state
   · have hg:=hend hi
     rw [← hg];have hon:=h3.on;simp only at hon
     (repeat' (first|refine ja ?_ ?_|intro _))<;>first|omega|exact jb|exact jc ‹False›|skip
     all_goals first|omega|rfl|contradiction|exact⟨by omega,by omega⟩|trace_state
 · have h0:=h1
   refine orcL ?_;go_invoke;refine orcS (by kernel_rfl) ?_
   simp only [zq,Nat.reduceAdd];subst hI;simp only [nrmA,nrmB,nrlB,reduceCtorEq,HO.abs.injEq,Gh.rq.injEq,Rq.mk.injEq]
   by_cases hi:i<b.length
   · have hg:=hgo hi
     have hn:=hrn hi
     (repeat' (first|refine ja ?_ ?_|intro _))<;>first|omega|exact jb|exact jc ‹False›|skip
     all_goals first|omega|exact hg|exact hn|contradiction|(have:=(b.getD i 0).toNat_lt;omega)|trace_state
   · have hg:=hend hi
     rw [← hg];have hon:=h3.on;simp only at hon
     (repeat' (first|refine ja ?_ ?_|intro _))<;>first|omega|exact jb|exact jc ‹False›|skip
     all_goals first|omega|rfl|contradiction|exact⟨by omega,by omega⟩|trace_state
 · have h0:=h1
   refine orcL ?_;go_invoke;refine orcS (by kernel_rfl) ?_
   simp only [zq,Nat.reduceAdd];subst hI;simp only [nrmA,nrmB,nrlB,reduceCtorEq,HO.abs.injEq,Gh.rq.injEq,Rq.mk.injEq]
   by_cases hi:i<b.length
   · have hg:=hgo hi
     have hn:=hrn hi
     (repeat' (first|refine ja ?_ ?_|intro _))<;>first|omega|exact jb|exact jc ‹False›|skip
     all_goals first|omega|exact hg|exact hn|contradiction|(have:=(b.getD i 0).toNat_lt;omega)|trace_state
   · have hg:=hend hi
     rw [← hg];have hon:=h3.on;simp only at hon
     (repeat' (first|refine ja ?_ ?_|intro _))<;>first|omega|exact jb|exact jc ‹False›|skip
     all_goals first|omega|rfl|contradiction|exact⟨by omega,by omega⟩|trace_state
theorem zo8 (ln:Ln) (p:Int) (m tg:Str) (hm:Int) (hf:List Fld) (hl le:Int) (out:List Evt) (b:Str) (hneed:rqN0 ⟨ln,p,⟨m,tg,hm,hf,hl⟩,le,none,false,out⟩ b):Spc Tryz.prog 45 [.v (.one (.ptr 0 0)),.v (.one (.p (.list .byte b)))] [.abs (.rq ⟨ln,p,⟨m,tg,hm,hf,hl⟩,le,none,false,out⟩)] (.ret (.v (.one (.row 1)))) [.abs (.rq ((zC ⟨ln,p,⟨m,tg,hm,hf,hl⟩,le,none,false,out⟩ b))),.row .evt 34 ((zH (zC ⟨ln,p,⟨m,tg,hm,hf,hl⟩,le,none,false,out⟩ b).out))]:=by
 obtain⟨n,hI0,hnb⟩:=hneed;have hat:=zlf hI0 b
 refine spcG zh mixed Tryz.func45 (by kernel_rfl) { cfgQ with fz:=[],keep:=some [0,1,4,6,10,11,12]} [tC,tu,wG,wF] (by kernel_rfl) ?_
 intro I X hI hX
 refine orcL ?_;go_invoke;refine orcS (by kernel_rfl) ?_
 simp only [zq,Nat.reduceAdd]
 have hr:({ (⟨ln,p,⟨m,tg,hm,hf,hl⟩,le,none,false,out⟩:Rq) with out:=[]}:Rq)=(⟨ln,p,⟨m,tg,hm,hf,hl⟩,le,none,false,[]⟩:Rq):=rfl
 unfold rqAt at hat;unfold zC;rw [hr] at hat ⊢
 refine zB hI zh mixed [tC,tu,wG,wF] hX [0,1,10,11,12] (fun(g:Nat × Rq)=>match g with|(i,r)=>i≤b.length∧r=yE (⟨ln,p,⟨m,tg,hm,hf,hl⟩,le,none,false,[]⟩:Rq) (b.take i)∧RqI r (n+i)∧zL r.out≤i) (fun(g:Nat × Rq)=>match g with|(i,r)=>⟨[(0,.v (.one (.ptr 0 0))),(1,.v (.one (.p (.list .byte b)))),(10,.v (.one (.p (.list .byte b)))),(11,.v (.one (.p (.int .i64 ((I.len (α:=UInt8) b)))))),(12,.v (.one (.p (.int .i64 i))))],[.abs (.rq r)],25,none⟩) (fun(g:Nat × Rq)=>match g with|(i,r)=>b.length - i) (0,(⟨ln,p,⟨m,tg,hm,hf,hl⟩,le,none,false,[]⟩:Rq)) (by kernel_rfl) (by kernel_rfl) ?_ ?_
 · exact⟨jM _,rfl,hat.1,hat.2⟩
 rintro⟨i,⟨ln2,p2,⟨m2,t2,hm2,hf2,hl2⟩,le2,ck2,own2,out2⟩⟩ ⟨h1,h2,h3,h4⟩ A hA;simp only at hA h1 h2 h3 h4
 have hrn:i<b.length→rqN _:=fun h=>⟨n+i,by omega,h3⟩
 have hgo:i<b.length→_:=fun h=>hA (i+1,rqF ⟨ln2,p2,⟨m2,t2,hm2,hf2,hl2⟩,le2,ck2,own2,out2⟩ (b.getD i 0)) ⟨by simp only;omega,by simp only;rw [zfe _ _ h,← h2],by simp only;exact zi7 h3 _,by simp only;have:=zbU ⟨ln2,p2,⟨m2,t2,hm2,hf2,hl2⟩,le2,ck2,own2,out2⟩ (b.getD i 0);simp only at this;omega⟩ (by simp only;omega)
 have hend: ¬ i<b.length→_:=fun h=>h2.trans (by rw [jq (by omega)])
 rcases ck2 with _|ch2<;>rcases own2 with _|_
 · have h0:=h1
   refine orcL ?_;go_invoke;refine orcS (by kernel_rfl) ?_
   simp only [zq,Nat.reduceAdd];subst hI;simp only [nrmA,nrmB,nrlB,reduceCtorEq,HO.abs.injEq,Gh.rq.injEq,Rq.mk.injEq]
   by_cases hi:i<b.length
   · have hg:=hgo hi
     have hn:=hrn hi
     (repeat' (first|refine ja ?_ ?_|intro _))<;>first|omega|exact jb|exact jc ‹False›|skip
     all_goals first|omega|exact hg|exact hn|contradiction|(have:=(b.getD i 0).toNat_lt;omega)|trace_state
   · have hg:=hend hi
     rw [← hg];have hon:=h3.on;simp only at hon
     (repeat' (first|refine ja ?_ ?_|intro _))<;>first|omega|exact jb|exact jc ‹False›|skip
     all_goals first|omega|rfl|contradiction|exact⟨by omega,by omega⟩|trace_state
 · have h0:=h1
   refine orcL ?_;go_invoke;refine orcS (by kernel_rfl) ?_
   simp only [zq,Nat.reduceAdd];subst hI;simp only [nrmA,nrmB,nrlB,reduceCtorEq,HO.abs.injEq,Gh.rq.injEq,Rq.mk.injEq]
   by_cases hi:i<b.length
   · have hg:=hgo hi
     have hn:=hrn hi
     (repeat' (first|refine ja ?_ ?_|intro _))<;>first|omega|exact jb|exact jc ‹False›|skip
     all_goals first|omega|exact hg|exact hn|contradiction|(have:=(b.getD i 0).toNat_lt;omega)|trace_state
   · have hg:=hend hi
     rw [← hg];have hon:=h3.on;simp only at hon
     (repeat' (first|refine ja ?_ ?_|intro _))<;>first|omega|exact jb|exact jc ‹False›|skip
     all_goals first|omega|rfl|contradiction|exact⟨by omega,by omega⟩|trace_state
 · have h0:=h1
   refine orcL ?_;go_invoke;refine orcS (by kernel_rfl) ?_
   simp only [zq,Nat.reduceAdd];subst hI;simp only [nrmA,nrmB,nrlB,reduceCtorEq,HO.abs.injEq,Gh.rq.injEq,Rq.mk.injEq]
   by_cases hi:i<b.length
   · have hg:=hgo hi
     have hn:=hrn hi
     (repeat' (first|refine ja ?_ ?_|intro _))<;>first|omega|exact jb|exact jc ‹False›|skip
     all_goals first|omega|exact hg|exact hn|contradiction|(have:=(b.getD i 0).toNat_lt;omega)|trace_state
   · have hg:=hend hi
     rw [← hg];have hon:=h3.on;simp only at hon
     (repeat' (first|refine ja ?_ ?_|intro _))<;>first|omega|exact jb|exact jc ‹False›|skip
     all_goals first|omega|rfl|contradiction|exact⟨by omega,by omega⟩|trace_state
 · have h0:=h1
   refine orcL ?_;go_invoke;refine orcS (by kernel_rfl) ?_
   simp only [zq,Nat.reduceAdd];subst hI;simp only [nrmA,nrmB,nrlB,reduceCtorEq,HO.abs.injEq,Gh.rq.injEq,Rq.mk.injEq]
   by_cases hi:i<b.length
   · have hg:=hgo hi
     have hn:=hrn hi
     (repeat' (first|refine ja ?_ ?_|intro _))<;>first|omega|exact jb|exact jc ‹False›|skip
     all_goals first|omega|exact hg|exact hn|contradiction|(have:=(b.getD i 0).toNat_lt;omega)|trace_state
   · have hg:=hend hi
     rw [← hg];have hon:=h3.on;simp only at hon
     (repeat' (first|refine ja ?_ ?_|intro _))<;>first|omega|exact jb|exact jc ‹False›|skip
     all_goals first|omega|rfl|contradiction|exact⟨by omega,by omega⟩|trace_state
theorem zo5 (ln:Ln) (p:Int) (m tg:Str) (hm:Int) (hf:List Fld) (hl le:Int) (ch:Ch) (out:List Evt) (b:Str) (hneed:rqN0 ⟨ln,p,⟨m,tg,hm,hf,hl⟩,le,some ch,true,out⟩ b):Spc Tryz.prog 45 [.v (.one (.ptr 0 0)),.v (.one (.p (.list .byte b)))] [.abs (.rq ⟨ln,p,⟨m,tg,hm,hf,hl⟩,le,some ch,true,out⟩)] (.ret (.v (.one (.row 1)))) [.abs (.rq ((zC ⟨ln,p,⟨m,tg,hm,hf,hl⟩,le,some ch,true,out⟩ b))),.row .evt 34 ((zH (zC ⟨ln,p,⟨m,tg,hm,hf,hl⟩,le,some ch,true,out⟩ b).out))]:=by
 obtain⟨n,hI0,hnb⟩:=hneed;have hat:=zlf hI0 b
 refine spcG zh mixed Tryz.func45 (by kernel_rfl) { cfgQ with fz:=[],keep:=some [0,1,4,6,10,11,12]} [tC,tu,wG,wF] (by kernel_rfl) ?_
 intro I X hI hX
 refine orcL ?_;go_invoke;refine orcS (by kernel_rfl) ?_
 simp only [zq,Nat.reduceAdd]
 have hr:({ (⟨ln,p,⟨m,tg,hm,hf,hl⟩,le,some ch,true,out⟩:Rq) with out:=[]}:Rq)=(⟨ln,p,⟨m,tg,hm,hf,hl⟩,le,some ch,true,[]⟩:Rq):=rfl
 unfold rqAt at hat;unfold zC;rw [hr] at hat ⊢
 refine zB hI zh mixed [tC,tu,wG,wF] hX [0,1,10,11,12] (fun(g:Nat × Rq)=>match g with|(i,r)=>i≤b.length∧r=yE (⟨ln,p,⟨m,tg,hm,hf,hl⟩,le,some ch,true,[]⟩:Rq) (b.take i)∧RqI r (n+i)∧zL r.out≤i) (fun(g:Nat × Rq)=>match g with|(i,r)=>⟨[(0,.v (.one (.ptr 0 0))),(1,.v (.one (.p (.list .byte b)))),(10,.v (.one (.p (.list .byte b)))),(11,.v (.one (.p (.int .i64 ((I.len (α:=UInt8) b)))))),(12,.v (.one (.p (.int .i64 i))))],[.abs (.rq r)],25,none⟩) (fun(g:Nat × Rq)=>match g with|(i,r)=>b.length - i) (0,(⟨ln,p,⟨m,tg,hm,hf,hl⟩,le,some ch,true,[]⟩:Rq)) (by kernel_rfl) (by kernel_rfl) ?_ ?_
 · exact⟨jM _,rfl,hat.1,hat.2⟩
 rintro⟨i,⟨ln2,p2,⟨m2,t2,hm2,hf2,hl2⟩,le2,ck2,own2,out2⟩⟩ ⟨h1,h2,h3,h4⟩ A hA;simp only at hA h1 h2 h3 h4
 have hrn:i<b.length→rqN _:=fun h=>⟨n+i,by omega,h3⟩
 have hgo:i<b.length→_:=fun h=>hA (i+1,rqF ⟨ln2,p2,⟨m2,t2,hm2,hf2,hl2⟩,le2,ck2,own2,out2⟩ (b.getD i 0)) ⟨by simp only;omega,by simp only;rw [zfe _ _ h,← h2],by simp only;exact zi7 h3 _,by simp only;have:=zbU ⟨ln2,p2,⟨m2,t2,hm2,hf2,hl2⟩,le2,ck2,own2,out2⟩ (b.getD i 0);simp only at this;omega⟩ (by simp only;omega)
 have hend: ¬ i<b.length→_:=fun h=>h2.trans (by rw [jq (by omega)])
 rcases ck2 with _|ch2<;>rcases own2 with _|_
 · have h0:=h1
   refine orcL ?_;go_invoke;refine orcS (by kernel_rfl) ?_
   simp only [zq,Nat.reduceAdd];subst hI;simp only [nrmA,nrmB,nrlB,reduceCtorEq,HO.abs.injEq,Gh.rq.injEq,Rq.mk.injEq]
   by_cases hi:i<b.length
   · have hg:=hgo hi
     have hn:=hrn hi
     (repeat' (first|refine ja ?_ ?_|intro _))<;>first|omega|exact jb|exact jc ‹False›|skip
     all_goals first|omega|exact hg|exact hn|contradiction|(have:=(b.getD i 0).toNat_lt;omega)|trace_state
   · have hg:=hend hi
     rw [← hg];have hon:=h3.on;simp only at hon
     (repeat' (first|refine ja ?_ ?_|intro _))<;>first|omega|exact jb|exact jc ‹False›|skip
     all_goals first|omega|rfl|contradiction|exact⟨by omega,by omega⟩|trace_state
 · have h0:=h1
   refine orcL ?_;go_invoke;refine orcS (by kernel_rfl) ?_
   simp only [zq,Nat.reduceAdd];subst hI;simp only [nrmA,nrmB,nrlB,reduceCtorEq,HO.abs.injEq,Gh.rq.injEq,Rq.mk.injEq]
   by_cases hi:i<b.length
   · have hg:=hgo hi
     have hn:=hrn hi
     (repeat' (first|refine ja ?_ ?_|intro _))<;>first|omega|exact jb|exact jc ‹False›|skip
     all_goals first|omega|exact hg|exact hn|contradiction|(have:=(b.getD i 0).toNat_lt;omega)|trace_state
   · have hg:=hend hi
     rw [← hg];have hon:=h3.on;simp only at hon
     (repeat' (first|refine ja ?_ ?_|intro _))<;>first|omega|exact jb|exact jc ‹False›|skip
     all_goals first|omega|rfl|contradiction|exact⟨by omega,by omega⟩|trace_state
 · have h0:=h1
   refine orcL ?_;go_invoke;refine orcS (by kernel_rfl) ?_
   simp only [zq,Nat.reduceAdd];subst hI;simp only [nrmA,nrmB,nrlB,reduceCtorEq,HO.abs.injEq,Gh.rq.injEq,Rq.mk.injEq]
   by_cases hi:i<b.length
   · have hg:=hgo hi
     have hn:=hrn hi
     (repeat' (first|refine ja ?_ ?_|intro _))<;>first|omega|exact jb|exact jc ‹False›|skip
     all_goals first|omega|exact hg|exact hn|contradiction|(have:=(b.getD i 0).toNat_lt;omega)|trace_state
   · have hg:=hend hi
     rw [← hg];have hon:=h3.on;simp only at hon
     (repeat' (first|refine ja ?_ ?_|intro _))<;>first|omega|exact jb|exact jc ‹False›|skip
     all_goals first|omega|rfl|contradiction|exact⟨by omega,by omega⟩|trace_state
 · have h0:=h1
   refine orcL ?_;go_invoke;refine orcS (by kernel_rfl) ?_
   simp only [zq,Nat.reduceAdd];subst hI;simp only [nrmA,nrmB,nrlB,reduceCtorEq,HO.abs.injEq,Gh.rq.injEq,Rq.mk.injEq]
   by_cases hi:i<b.length
   · have hg:=hgo hi
     have hn:=hrn hi
     (repeat' (first|refine ja ?_ ?_|intro _))<;>first|omega|exact jb|exact jc ‹False›|skip
     all_goals first|omega|exact hg|exact hn|contradiction|(have:=(b.getD i 0).toNat_lt;omega)|trace_state
   · have hg:=hend hi
     rw [← hg];have hon:=h3.on;simp only at hon
     (repeat' (first|refine ja ?_ ?_|intro _))<;>first|omega|exact jb|exact jc ‹False›|skip
     all_goals first|omega|rfl|contradiction|exact⟨by omega,by omega⟩|trace_state
theorem zo6 (ln:Ln) (p:Int) (m tg:Str) (hm:Int) (hf:List Fld) (hl le:Int) (ch:Ch) (out:List Evt) (b:Str) (hneed:rqN0 ⟨ln,p,⟨m,tg,hm,hf,hl⟩,le,some ch,false,out⟩ b):Spc Tryz.prog 45 [.v (.one (.ptr 0 0)),.v (.one (.p (.list .byte b)))] [.abs (.rq ⟨ln,p,⟨m,tg,hm,hf,hl⟩,le,some ch,false,out⟩)] (.ret (.v (.one (.row 1)))) [.abs (.rq ((zC ⟨ln,p,⟨m,tg,hm,hf,hl⟩,le,some ch,false,out⟩ b))),.row .evt 34 ((zH (zC ⟨ln,p,⟨m,tg,hm,hf,hl⟩,le,some ch,false,out⟩ b).out))]:=by
 obtain⟨n,hI0,hnb⟩:=hneed;have hat:=zlf hI0 b
 refine spcG zh mixed Tryz.func45 (by kernel_rfl) { cfgQ with fz:=[],keep:=some [0,1,4,6,10,11,12]} [tC,tu,wG,wF] (by kernel_rfl) ?_
 intro I X hI hX
 refine orcL ?_;go_invoke;refine orcS (by kernel_rfl) ?_
 simp only [zq,Nat.reduceAdd]
 have hr:({ (⟨ln,p,⟨m,tg,hm,hf,hl⟩,le,some ch,false,out⟩:Rq) with out:=[]}:Rq)=(⟨ln,p,⟨m,tg,hm,hf,hl⟩,le,some ch,false,[]⟩:Rq):=rfl
 unfold rqAt at hat;unfold zC;rw [hr] at hat ⊢
 refine zB hI zh mixed [tC,tu,wG,wF] hX [0,1,10,11,12] (fun(g:Nat × Rq)=>match g with|(i,r)=>i≤b.length∧r=yE (⟨ln,p,⟨m,tg,hm,hf,hl⟩,le,some ch,false,[]⟩:Rq) (b.take i)∧RqI r (n+i)∧zL r.out≤i) (fun(g:Nat × Rq)=>match g with|(i,r)=>⟨[(0,.v (.one (.ptr 0 0))),(1,.v (.one (.p (.list .byte b)))),(10,.v (.one (.p (.list .byte b)))),(11,.v (.one (.p (.int .i64 ((I.len (α:=UInt8) b)))))),(12,.v (.one (.p (.int .i64 i))))],[.abs (.rq r)],25,none⟩) (fun(g:Nat × Rq)=>match g with|(i,r)=>b.length - i) (0,(⟨ln,p,⟨m,tg,hm,hf,hl⟩,le,some ch,false,[]⟩:Rq)) (by kernel_rfl) (by kernel_rfl) ?_ ?_
 · exact⟨jM _,rfl,hat.1,hat.2⟩
 rintro⟨i,⟨ln2,p2,⟨m2,t2,hm2,hf2,hl2⟩,le2,ck2,own2,out2⟩⟩ ⟨h1,h2,h3,h4⟩ A hA;simp only at hA h1 h2 h3 h4
 have hrn:i<b.length→rqN _:=fun h=>⟨n+i,by omega,h3⟩
 have hgo:i<b.length→_:=fun h=>hA (i+1,rqF ⟨ln2,p2,⟨m2,t2,hm2,hf2,hl2⟩,le2,ck2,own2,out2⟩ (b.getD i 0)) ⟨by simp only;omega,by simp only;rw [zfe _ _ h,← h2],by simp only;exact zi7 h3 _,by simp only;have:=zbU ⟨ln2,p2,⟨m2,t2,hm2,hf2,hl2⟩,le2,ck2,own2,out2⟩ (b.getD i 0);simp only at this;omega⟩ (by simp only;omega)
 have hend: ¬ i<b.length→_:=fun h=>h2.trans (by rw [jq (by omega)])
 rcases ck2 with _|ch2<;>rcases own2 with _|_
 · have h0:=h1
   refine orcL ?_;go_invoke;refine orcS (by kernel_rfl) ?_
   simp only [zq,Nat.reduceAdd];subst hI;simp only [nrmA,nrmB,nrlB,reduceCtorEq,HO.abs.injEq,Gh.rq.injEq,Rq.mk.injEq]
   by_cases hi:i<b.length
   · have hg:=hgo hi
     have hn:=hrn hi
     (repeat' (first|refine ja ?_ ?_|intro _))<;>first|omega|exact jb|exact jc ‹False›|skip
     all_goals first|omega|exact hg|exact hn|contradiction|(have:=(b.getD i 0).toNat_lt;omega)|trace_state
   · have hg:=hend hi
     rw [← hg];have hon:=h3.on;simp only at hon
     (repeat' (first|refine ja ?_ ?_|intro _))<;>first|omega|exact jb|exact jc ‹False›|skip
     all_goals first|omega|rfl|contradiction|exact⟨by omega,by omega⟩|trace_state
 · have h0:=h1
   refine orcL ?_;go_invoke;refine orcS (by kernel_rfl) ?_
   simp only [zq,Nat.reduceAdd];subst hI;simp only [nrmA,nrmB,nrlB,reduceCtorEq,HO.abs.injEq,Gh.rq.injEq,Rq.mk.injEq]
   by_cases hi:i<b.length
   · have hg:=hgo hi
     have hn:=hrn hi
     (repeat' (first|refine ja ?_ ?_|intro _))<;>first|omega|exact jb|exact jc ‹False›|skip
     all_goals first|omega|exact hg|exact hn|contradiction|(have:=(b.getD i 0).toNat_lt;omega)|trace_state
   · have hg:=hend hi
     rw [← hg];have hon:=h3.on;simp only at hon
     (repeat' (first|refine ja ?_ ?_|intro _))<;>first|omega|exact jb|exact jc ‹False›|skip
     all_goals first|omega|rfl|contradiction|exact⟨by omega,by omega⟩|trace_state
 · have h0:=h1
   refine orcL ?_;go_invoke;refine orcS (by kernel_rfl) ?_
   simp only [zq,Nat.reduceAdd];subst hI;simp only [nrmA,nrmB,nrlB,reduceCtorEq,HO.abs.injEq,Gh.rq.injEq,Rq.mk.injEq]
   by_cases hi:i<b.length
   · have hg:=hgo hi
     have hn:=hrn hi
     (repeat' (first|refine ja ?_ ?_|intro _))<;>first|omega|exact jb|exact jc ‹False›|skip
     all_goals first|omega|exact hg|exact hn|contradiction|(have:=(b.getD i 0).toNat_lt;omega)|trace_state
   · have hg:=hend hi
     rw [← hg];have hon:=h3.on;simp only at hon
     (repeat' (first|refine ja ?_ ?_|intro _))<;>first|omega|exact jb|exact jc ‹False›|skip
     all_goals first|omega|rfl|contradiction|exact⟨by omega,by omega⟩|trace_state
 · have h0:=h1
   refine orcL ?_;go_invoke;refine orcS (by kernel_rfl) ?_
   simp only [zq,Nat.reduceAdd];subst hI;simp only [nrmA,nrmB,nrlB,reduceCtorEq,HO.abs.injEq,Gh.rq.injEq,Rq.mk.injEq]
   by_cases hi:i<b.length
   · have hg:=hgo hi
     have hn:=hrn hi
     (repeat' (first|refine ja ?_ ?_|intro _))<;>first|omega|exact jb|exact jc ‹False›|skip
     all_goals first|omega|exact hg|exact hn|contradiction|(have:=(b.getD i 0).toNat_lt;omega)|trace_state
   · have hg:=hend hi
     rw [← hg];have hon:=h3.on;simp only at hon
     (repeat' (first|refine ja ?_ ?_|intro _))<;>first|omega|exact jb|exact jc ‹False›|skip
     all_goals first|omega|rfl|contradiction|exact⟨by omega,by omega⟩|trace_state
def V3 (I:Alg) (args:List D) (hp:List HO):Option CT:=match args,hp with
 |[.v (.one (.ptr 0 0)),.v (.one (.p (.list .byte b)))],[.abs (.rq q)]=>(fun(q:Rq) (b:Str)=>(some (.one ⟨I.hid (rqN0 q b),(.ret (.v (.one (.row 1)))),[.abs (.rq (I.hid ((zC q b)))),.row .evt 34 (I.hid ((zH (zC q b).out)))]⟩):Option CT)) q b
 |_,_=>none
theorem zgN:zx Tryz.prog 45 (V3 alg):=by
 intro args hp r h;unfold V3 at h;split at h<;>cases h
 rename_i b q;simp only [CT.Good,zi];intro hneed;obtain⟨ln,p,⟨m,tg,hm,hf,hl⟩,le,ck,own,out⟩:=q
 cases ck with
 | none=>cases own with
   |true=>exact zo7 ln p m tg hm hf hl le out b hneed
   |false=>exact zo8 ln p m tg hm hf hl le out b hneed
 | some ch=>cases own with
   |true=>exact zo5 ln p m tg hm hf hl le ch out b hneed
   |false=>exact zo6 ln p m tg hm hf hl le ch out b hneed
def xW:Know Tryz.prog:=⟨45,V3,zgN⟩
def xU:Know Tryz.prog:=⟨45,fun I=>zy I (V3 I),zf zgN⟩
end Go.Proofs.YtkjepecoodjbmaaGreatDoor
namespace Go.Proofs.YtkjepecoodjbmaaGreatDoor
open Go Go.Sep Go.Ab
set_option maxRecDepth 100000
def EvO (l:List Evt):Prop:=∀ e ∈ l,FsOk e.head.fields
theorem RY {a b:List Evt} (h:EvO a) (k:EvO b):EvO (a++b):=fun e m=>(List.mem_append.1 m).elim (h e) (k e)
theorem zba:FsOk []:=⟨by decide,fun f h=>by cases h⟩
theorem zcU {e:Evt} (h:FsOk e.head.fields):EvO [e]:=fun x m=>by rw [List.mem_singleton.1 m];exact h
theorem zq0 {o:List Evt} {e:Evt} (h:EvO (o++[e])):EvO (uP o e):=by
 rcases List.eq_nil_or_concat o with rfl|⟨z,x,rfl⟩
 · exact h
 · rw [List.concat_eq_append] at h ⊢
   rw [yO]
   split
   · exact RY (fun y m=>h y (by simp [m])) (zcU zba)
   · exact h
theorem zmr: ∀ (l o:List Evt),EvO (o++l)→EvO (l.foldl uP o)
 |[],o,h=>by rw [List.append_nil] at h;exact h
 | e::l,o,h=>by
   rw [List.foldl_cons];refine zmr l _ ?_
   rw [show o++e::l=(o++[e])++l by simp] at h
   exact RY (zq0 fun y m=>h y (List.mem_append_left _ m)) (fun y m=>h y (List.mem_append_right _ m))
theorem zsx {q:Rq} (h:EvO q.out) (k:FsOk q.h.fields):EvO (yC q).1.out:=by
 unfold yC vY
 repeat' split
 all_goals first
  |exact h
  |exact RY (RY h (zcU k)) (zcU zba)
  |exact RY h (zcU k)
theorem zsp {q:Rq} (h:EvO q.out) (k:FsOk q.h.fields) (s:Str):EvO (zJ q s).1.out:=by
 have hd:=zsx h k;unfold zJ
 repeat' split
 all_goals first|exact hd|exact h
theorem zxQ {q:Rq} (h:EvO q.out) (k:FsOk q.h.fields) (c:UInt8):EvO (rqF q c).out:=by
 have hl:=zsp (q:= { q with ln:=(lnF q.ln c).1}) h k (lnF q.ln c).2.1
 have h1: ∀ (o:List Evt) (e:Evt),EvO o→e.head=hd0→EvO (o++[e]):=fun o e a b=>RY a (zcU (by rw [b];exact zba))
 have hd:EvO (if(chF (ckOf q) c).2.1≠[] then q.out++[evB (chF (ckOf q) c).2.1] else q.out):=by
  split
  · exact h1 _ _ h rfl
  · exact h
 unfold rqF
 split
 · split
   · exact h1 _ _ (h1 _ _ h rfl) rfl
   · exact h1 _ _ h rfl
 split
 · split
   · exact h1 _ _ h rfl
   split
   · exact h1 _ _ hd rfl
   · exact hd
 split
 · split
   · exact h1 _ _ h rfl
   split
   · split
     · exact h1 _ _ hl rfl
     · exact hl
   · exact h
 · exact h
theorem zoY: ∀ (b:Str) (q:Rq) (i:Nat),RqI q i→i+b.length≤1000000→EvO q.out→EvO (yE q b).out
 |[],q,i,_,_,h=>h
 | c::b,q,i,hi,hb,h=>by
   rw [jh] at hb
   exact zoY b _ (i+1) (zi7 hi c) (by omega) (zxQ h ⟨by have:=hi.fl;omega,fun f m=>by have:=hi.ff f m;omega⟩ c)
theorem zss {b:Str} (h:b.length≤1000000):(zH (zC rq0 b).out).length≤4000000:=by
 have h1:=UA (zC rq0 b).out
 have h2: ∀ (b:Str) (q:Rq) (i:Nat),RqI q i→RqI (yE q b) (i+b.length):=by
  intro b
  induction b with
  |nil=>intro q i h;exact h
  |cons c b ih=>intro q i h;have:=ih _ _ (zi7 h c);rw [jh,show i+(b.length+1)=i+1+b.length by omega];exact this
 have h3:=(h2 b rq0 0 zwy).on;have h4:(zC rq0 b).out=(yE rq0 b).out:=rfl;rw [← h4] at h3;omega
end Go.Proofs.YtkjepecoodjbmaaGreatDoor
namespace Go.Proofs.YtkjepecoodjbmaaGreatDoor
open Go Go.Sep Go.Ab
set_option maxRecDepth 100000
theorem zi6: ∀ (b:Str) (q:Rq) (i:Nat),RqI q i→RqI (yE q b) (i+b.length)
 |[],q,i,h=>h
 | c::b,q,i,h=>by
   have:=zi6 b _ _ (zi7 h c)
   rw [jh,show i+(b.length+1)=i+1+b.length by omega];exact this
theorem zgK: ∀ (b:Str) (q:Rq),zL (yE q b).out≤zL q.out+b.length
 |[],q=>jL _
 | c::b,q=>by
   have h1:=zgK b (rqF q c);have h2:=zbU q c;rw [jh];have:yE q (c::b)=yE (rqF q c) b:=rfl;rw [this];omega
theorem WS {p q:Rq} (h:wH p=wH q) (b:Str):zC p b=zC q b:=by
 show yE (wH p) b=yE (wH q) b
 rw [h]
theorem Vt {L:List Str} {i:Nat} (h:i<L.length):(L.take (i+1)).flatten=(L.take i).flatten++L.getD i []:=by
 rw [jB h,List.flatten_append,show L.getD i []=L[i] by simp [h]];simp
theorem uf (L:List Str) (i:Nat):(L.take i).flatten.length≤L.flatten.length:=by
 have h:L.flatten=(L.take i).flatten++(L.drop i).flatten:=by rw [← List.flatten_append,List.take_append_drop]
 rw [h,jk];omega
theorem zrp {p q:Rq} (h:wH p=wH q):x9 p=x9 q∧p.pos=q.pos:=by
 have h1:(wH p).pos=(wH q).pos:=by rw [h]
 have h2:(wH p).ln=(wH q).ln:=by rw [h]
 have h1:p.pos=q.pos:=h1;have h2:p.ln=q.ln:=h2;unfold x9;rw [h1,h2];exact⟨rfl,rfl⟩
end Go.Proofs.YtkjepecoodjbmaaGreatDoor
namespace Go.Proofs.YtkjepecoodjbmaaGreatDoor
open Go Go.Sep Go.Ab
set_option maxRecDepth 100000
end Go.Proofs.YtkjepecoodjbmaaGreatDoor
namespace Go.Proofs.YtkjepecoodjbmaaGreatDoor
open Go Go.Sep Go.Ab
set_option maxRecDepth 100000
end Go.Proofs.YtkjepecoodjbmaaGreatDoor
namespace Go.Proofs.YtkjepecoodjbmaaGreatDoor
open Go Go.Sep Go.Ab
set_option maxRecDepth 100000
end Go.Proofs.YtkjepecoodjbmaaGreatDoor
namespace Go.Proofs.YtkjepecoodjbmaaGreatDoor
open Go Go.Sep Go.Ab
def SOk (q:Sto) (m:Int):Prop:=zQ q.l q.n∧q.b.length≤100000∧q.n≤m∧0≤q.s∧q.s≤q.b.length
theorem uF {q:Sto} {m m':Int} (h:SOk q m) (k:m≤m'):SOk q m':=⟨h.1,h.2.1,by have:=h.2.2.1;omega,h.2.2.2⟩
theorem zuN (l:List Upl) (n:Int) (b:Str) (e:Ent):b.length≤(wrtB l n b e).length:=by unfold wrtB;split<;>simp
theorem zgy {q:Sto} {m:Int} (h:SOk q m) (e:Ent):SOk (wsS q e) (m+1):=by
 obtain⟨h1,h2,h3,h4,h5⟩:=h;have:=zur q e;have hb:=zuN q.l q.n q.b e
 exact⟨zdp h1 _ _,Y8 _ h2,by omega,h4,by show q.s≤((wrtB q.l q.n q.b e).length:Int);omega⟩
theorem SV {q:Sto} {m:Int} (h:SOk q m) {e:Ent} (he:e.kind≠1):SOk (wsS q e) m:=by
 have h1:=zgy h e;have:(wsS q e).n=q.n:=Zq he
 exact⟨h1.1,h1.2.1,by rw [this];exact h.2.2.1,h1.2.2.2⟩
theorem zdC {q:Sto} {m:Int} (h:SOk q m):SOk (syS q) m:=⟨h.1,h.2.1,h.2.2.1,Int.natCast_nonneg _,Int.le_refl _⟩
theorem zkI {m:Int} {c:Prop} [Decidable c] {a b:TA} (ha:SOk a.q m) (hb:SOk b.q m):SOk (if c then a else b).q m:=by split<;>assumption
theorem zoy {q:Sto} {k:Int} (h:SOk q k) (m t:Str) (f:List Fld) (body:Str):SOk (yY q m t f body).q (k+1):=by
 have h0:SOk q (k+1):=uF h (by omega)
 have hc:SOk (vO q f).q (k+1):=by
  unfold vO
  repeat' with_reducible refine zkI ?_ ?_
  all_goals first|exact h0|exact zdC (zgy h _)
 have hd: ∀ u,SOk (zdk q u).q (k+1):=fun u=>by
  unfold zdk
  exact zkI h0 (zdC (SV h0 (by simp)))
 have hp: ∀ u,SOk (tJ q u f body).q (k+1):=fun u=>by
  unfold tJ
  have h1:SOk (wsS q (apE u.id body)) (k+1):=SV h0 (by simp [apE])
  have h2: ∀ z,SOk (wsS (wsS q (apE u.id body)) ⟨3,u.id,z,[]⟩) (k+1):=fun z=>SV h1 (by simp)
  repeat' with_reducible refine zkI ?_ ?_
  all_goals first|exact h0|exact h1|exact zdC h1|exact zdC (h2 _)|exact h2 _
 unfold yY
 repeat' with_reducible refine zkI ?_ ?_
 all_goals first|exact h0|exact hc|exact hd _|exact hp _
theorem zkJ {q:Sto} {m:Int} (h:SOk q m) (p:Prt):SOk (Zj q p) (m+1):=by
 have hap: ∀ {x:Sto} {k:Int},SOk x k→SOk (apQ x (q.n+1) 0 p.bytes) k:=fun h=>by
  unfold apQ
  split
  · exact h
  · exact SV h (show(2:Int)≠1 by decide)
 unfold Zj
 split
 · exact zgy h _
 · split
   · exact SV (hap (zgy h _)) (show(4:Int)≠1 by decide)
   · exact hap (zgy h _)
theorem zgz: ∀ (ids:List Int) {q:Sto} {m:Int},SOk q m→SOk (TM q ids) m
 |[],_,_,h=>h
 |k::r,_,_,h=>zgz r (SV h (show(4:Int)≠1 by decide))
theorem zbK: ∀ (ps:List Prt) {q:Sto} {m:Int} (ids:List Int) (t:Str),SOk q m→SOk (qy q ids t ps).q (m+ps.length)
 |[],q,m,ids,t,h=>uF (zdC h) (by simp)
 | p ::r,q,m,ids,t,h=>by
   unfold qy
   split
   · exact uF (zbK r ids t h) (by simp;omega)
   · split
     · exact uF (zdC (zgz ids (zkJ h p))) (by simp;omega)
     · exact uF (zbK r _ _ (zkJ h p)) (by simp;omega)
theorem zu4 {q:Sto} {k:Int} (h:SOk q k) (m t:Str) (f:List Fld) (body:Str):SOk (ansG q m t f body).q (k+12):=by
 have h0:SOk q (k+12):=uF h (by omega)
 have hp:=(YI f body).1;unfold ansG
 split
 · exact uF (zoy h m t f body) (by omega)
 · split
   · exact h0
   · split
     · exact h0
     · unfold Ti
       split
       · exact h0
       · split
         · exact h0
         · exact uF (zbK _ _ _ h) (by omega)
def k3 (e:Evt):Bool:=decide (e.kind=3)
def cnt3 (l:List Evt):Nat:=(l.filter k3).length
theorem rJ (a b:List Evt):cnt3 (a++b)=cnt3 a+cnt3 b:=by unfold cnt3;simp
theorem Wn (x:GE) (a b:List Evt):evsG x (a++b)=evsG (evsG x a) b:=List.foldl_append
def EOk (x:GE) (m:Int) (k:Nat):Prop:=SOk x.q m∧FsOk x.h.fields∧x.b.length≤k
theorem zuH {x:GE} {m:Int} {k:Nat} (h:EOk x m k) {e:Evt} (he:FsOk e.head.fields):EOk (evG x e) (m+12 * cnt3 [e]) (k+e.bytes.length):=by
 obtain⟨h1,h2,h3⟩:=h
 have hm:SOk x.q (m+12 * cnt3 [e]):=uF h1 (by omega)
 unfold evG
 split
 · exact⟨hm,he,jM _⟩
 · split
   · exact⟨hm,h2,by simp only [jk];omega⟩
   · split
     · rename_i hk
       have:cnt3 [e]=1:=by simp [cnt3,k3,hk]
       rw [this]
       exact⟨zu4 h1 _ _ _ _,h2,by simp only;omega⟩
     · split
       · exact⟨hm,h2,by simp only;omega⟩
       · exact⟨hm,h2,by omega⟩
theorem zjK: ∀ (l:List Evt) {x:GE} {m:Int} {k:Nat},EOk x m k→EvO l→EOk (evsG x l) (m+12 * cnt3 l) (k+zL l)
 |[],x,m,k,h,_=>by show EOk x (m+12 * ((0:Nat):Int)) (k+0);simpa using h
 | e::l,x,m,k,h,ho=>by
   have h1:=zjK l (zuH h (ho e List.mem_cons_self)) fun y hy=>ho y (List.mem_cons_of_mem _ hy);have e1:cnt3 (e::l)=cnt3 [e]+cnt3 l:=rJ [e] l
   have e2:zL (e::l)=e.bytes.length+zL l:=by simp [zL]
   rw [e1,e2,show m+12 * ((cnt3 [e]+cnt3 l:Nat):Int)=m+12 * (cnt3 [e]:Int)+12 * (cnt3 l:Int) by omega,← Nat.add_assoc]
   exact h1
theorem zs7 (o:List Evt) (e:Evt):(uP o e).filter k3=o.filter k3++[e].filter k3:=by
 rcases List.eq_nil_or_concat o with rfl|⟨z,x,rfl⟩
 · rfl
 · rw [List.concat_eq_append,yO]
   split
   · rename_i h
     simp [k3,h.1,h.2,evB]
   · rw [List.filter_append]
theorem zlP: ∀ (l o:List Evt),(l.foldl uP o).filter k3=o.filter k3++l.filter k3
 |[],o=>by simp
 |e::l,o=>by rw [List.foldl_cons,zlP l,zs7,jo,← List.filter_append];rfl
theorem ziw (l:List Evt):cnt3 (zH l)=cnt3 l:=congrArg List.length (zlP l [])
theorem zf4 (e:Evt) (h:e.kind≠3):cnt3 [e]=0:=by simp [cnt3,k3,h]
theorem zxR (q:Rq) (c:UInt8):cnt3 (rqF q c).out≤cnt3 q.out+1:=by
 have hb: ∀ (o:List Evt) (s:Str),cnt3 (o++[evB s])=cnt3 o:=fun o s=>by rw [rJ,zf4 _ (show(2:Int)≠3 by decide)];rfl
 have hh: ∀ (o:List Evt) (s:Hd),cnt3 (o++[evH s])=cnt3 o:=fun o s=>by rw [rJ,zf4 _ (show(1:Int)≠3 by decide)];rfl
 have hf: ∀ (o:List Evt) (s:Int),cnt3 (o++[evF s])=cnt3 o:=fun o s=>by rw [rJ,zf4 _ (show(4:Int)≠3 by decide)];rfl
 have he: ∀ (o:List Evt),cnt3 (o++[evE])=cnt3 o+1:=fun o=>by rw [rJ];rfl
 have hd: ∀ q:Rq,cnt3 (yC q).1.out≤cnt3 q.out+1:=fun q=>by
  unfold yC vY
  repeat' split
  all_goals first|omega|(simp only [hb,hh,hf,he];omega)
 have hl: ∀ (q:Rq) (s:Str),cnt3 (zJ q s).1.out≤cnt3 q.out+1:=fun q s=>by
  have:=hd q;unfold zJ
  repeat' split
  all_goals first|exact this|(simp only;omega)
 have hL:=hl { q with ln:=(lnF q.ln c).1} (lnF q.ln c).2.1
 simp only at hL;unfold rqF vY xO
 repeat' split
 all_goals first|omega|(simp only [hb,hh,hf,he];omega)
theorem zoZ: ∀ (b:Str) (q:Rq),cnt3 (yE q b).out≤cnt3 q.out+b.length
 |[],q=>jL _
 | c::b,q=>by
   have h1:=zoZ b (rqF q c);have h2:=zxR q c;have:yE q (c::b)=yE (rqF q c) b:=rfl;rw [this,jh];omega
def mayW (w:Bool):List Evt→Prop
 |[]=>True
 |e::l=>(e.kind=2→w=true)∧mayW (if e.kind=1 then true else if e.kind=3 then false else w) l
def behW (w:Bool) (l:List Evt):Bool:=l.foldl (fun w e=>if e.kind=1 then true else if e.kind=3 then false else w) w
theorem SB (w:Bool) (a b:List Evt):behW w (a++b)=behW (behW w a) b:=List.foldl_append
theorem qR: ∀ (a b:List Evt) (w:Bool),mayW w (a++b)↔mayW w a∧mayW (behW w a) b
 |[],b,w=>by simp [mayW,behW]
 | e::a,b,w=>by
   simp only [List.cons_append,mayW,qR a b];exact and_assoc.symm
theorem zuE (x:GE) (l:List Evt):(evsG x l).w=behW x.w l:=by
 induction l generalizing x with
 |nil=>rfl
 | cons e l ih=>
   show(evsG (evG x e) l).w=_
   rw [ih]
   have:(evG x e).w=(if e.kind=1 then true else if e.kind=3 then false else x.w):=by
    unfold evG
    repeat' split
    all_goals first|rfl|(exfalso;omega)|simp_all
   rw [this];rfl
def MW (w:Bool) (q:Rq):Prop:=mayW w q.out∧(q.pos=2∨q.pos=3→behW w q.out=true)
theorem zlB {w:Bool} {o:List Evt} (h:mayW w o) {e:Evt} (he:e.kind≠2):mayW w (o++[e]):=(qR _ _ _).2 ⟨h,fun k=>absurd k he,jb⟩
theorem zpY {w:Bool} {o:List Evt} (h:mayW w o) (k:behW w o=true) (s:Str):mayW w (o++[evB s])∧behW w (o++[evB s])=true:=⟨(qR _ _ _).2 ⟨h,fun _=>k,jb⟩,by rw [SB,k];rfl⟩
theorem zmK (w:Bool) (o:List Evt) (h:Hd):behW w (o++[evH h])=true:=by rw [SB];rfl
theorem zvw {w:Bool} {q:Rq} (h:mayW w q.out) (hp:q.pos=0∨q.pos=1):MW w (yC q).1:=by
 have hh: ∀ d,mayW w (q.out++[evH d]):=fun d=>zlB h (show(1:Int)≠2 by decide)
 have h0: ¬ (q.pos=2∨q.pos=3):=by omega
 unfold yC vY
 repeat' split
 · exact⟨h,fun k=>absurd k h0⟩
 · exact⟨h,fun k=>absurd k h0⟩
 · exact⟨zlB (hh _) (show(3:Int)≠2 by decide),fun k=>absurd (show(0:Int)=2∨(0:Int)=3 from k) (by decide)⟩
 · exact⟨hh _,fun _=>zmK _ _ _⟩
 · exact⟨hh _,fun _=>zmK _ _ _⟩
theorem zvv {w:Bool} {q:Rq} (h:mayW w q.out) (hp:q.pos=0∨q.pos=1) (s:Str):MW w (zJ q s).1:=by
 have h0: ¬ (q.pos=2∨q.pos=3):=by omega
 unfold zJ
 split
 · split
   · exact⟨h,fun k=>absurd k h0⟩
   · split
     · exact⟨h,fun k=>absurd (show(1:Int)=2∨(1:Int)=3 from k) (by decide)⟩
     · split
       · exact⟨h,fun k=>absurd k h0⟩
       · exact⟨h,fun k=>absurd k h0⟩
 · split
   · exact zvw h hp
   · split
     · exact⟨h,fun k=>absurd k h0⟩
     · exact⟨h,fun k=>absurd k h0⟩
theorem zjf {w:Bool} {q:Rq} (h:mayW w q.out) (c:Int):MW w (xO q c):=⟨zlB h (show(4:Int)≠2 by decide),fun k=>absurd (show(4:Int)=2∨(4:Int)=3 from k) (by decide)⟩
theorem zun {w:Bool} {q:Rq} (h:mayW w q.out):MW w (vY q):=⟨zlB h (show(3:Int)≠2 by decide),fun k=>absurd (show(0:Int)=2∨(0:Int)=3 from k) (by decide)⟩
theorem mw_f {w:Bool} {q:Rq} (h:MW w q) (c:UInt8):MW w (rqF q c):=by
 unfold rqF
 split
 · rename_i hp
   have hb:=zpY h.1 (h.2 (.inl hp)) [c]
   split
   · exact zun hb.1
   · exact⟨hb.1,fun _=>hb.2⟩
 · split
   · rename_i hp
     have hk:=h.2 (.inr hp);have hb:=zpY h.1 hk (chF (ckOf q) c).2.1
     have hd:mayW w (if(chF (ckOf q) c).2.1≠[] then q.out++[evB (chF (ckOf q) c).2.1] else q.out)∧behW w (if(chF (ckOf q) c).2.1≠[] then q.out++[evB (chF (ckOf q) c).2.1] else q.out)=true:=by
      split
      · exact hb
      · exact⟨h.1,hk⟩
     split
     · exact zjf h.1 _
     · split
       · exact zun hd.1
       · exact⟨hd.1,fun _=>hd.2⟩
   · split
     · rename_i hp
       split
       · exact zjf h.1 _
       · split
         · have hl:=zvv (q:= { q with ln:=(lnF q.ln c).1}) h.1 hp (lnF q.ln c).2.1
           split
           · exact zjf hl.1 _
           · exact hl
         · exact h
     · exact h
theorem zum {w:Bool}: ∀ (b:Str) {q:Rq},MW w q→MW w (yE q b)
 |[],_,h=>h
 |c::b,_,h=>zum b (mw_f h c)
theorem zsW {w:Bool} {o:List Evt} {e:Evt} (h:mayW w (o++[e])):mayW w (uP o e)∧behW w (uP o e)=behW w (o++[e]):=by
 rcases List.eq_nil_or_concat o with rfl|⟨z,x,rfl⟩
 · exact⟨h,rfl⟩
 · rw [List.concat_eq_append] at h ⊢
   rw [yO]
   split
   · rename_i hk
     have h1:=(qR _ _ _).1 h;have h2:=(qR _ _ _).1 h1.1;refine⟨(qR _ _ _).2 ⟨h2.1,fun _=>h2.2.1 hk.2,jb⟩,?_⟩;simp only [SB]
     simp [behW,evB,hk.1,hk.2]
   · exact⟨h,rfl⟩
theorem zlC {w:Bool}: ∀ (l o:List Evt),mayW w (o++l)→mayW w (l.foldl uP o)∧behW w (l.foldl uP o)=behW w (o++l)
 |[],o,h=>by rw [List.append_nil] at h ⊢;exact⟨h,rfl⟩
 | e::l,o,h=>by
   have e1:o++e::l=(o++[e])++l:=by simp
   rw [e1] at h ⊢;have h1:=(qR _ _ _).1 h;have h2:=zsW h1.1
   have h3:=zlC l (uP o e) ((qR _ _ _).2 ⟨h2.1,by rw [h2.2];exact h1.2⟩)
   exact⟨h3.1,by rw [List.foldl_cons,h3.2,SB,h2.2,← SB]⟩
theorem zp1: ∀ {l:List Evt} {w:Bool} (_:mayW w l) {i:Nat} (hi:i<l.length),l[i].kind=2→behW w (l.take i)=true
 |e::l,w,h,0,_,k=>h.1 k
 |e::l,w,h,i+1,hi,k=>zp1 (l:=l) h.2 (by simpa using hi) k
def CnI (c:Cn) (k:Nat):Prop:=RqI { c.q with out:=[]} k∧FsOk c.h.fields∧c.body.length≤k∧(c.q.pos=2∨c.q.pos=3→c.own=true)
theorem znO:CnI cn0 0:=⟨zwy,zba,jL _,fun _=>rfl⟩
theorem zqM {c:Cn} {k:Nat} (h:CnI c k) {b:Str} (hb:k+b.length≤1000000):EvO (zH (zC c.q b).out)∧zL (zH (zC c.q b).out)≤b.length∧cnt3 (zH (zC c.q b).out)≤b.length∧(zH (zC c.q b).out).length≤4 * (k+b.length):=by
 have h1:EvO (zC c.q b).out:=zoY b _ k h.1 hb (fun e m=>by cases m)
 have h2:zL (zC c.q b).out≤0+b.length:=zgK b _;have h3:=zcp (zC c.q b).out;have h4:cnt3 (zC c.q b).out≤0+b.length:=zoZ b _;have h5:(zC c.q b).out.length≤4 * (k+b.length):=(zi6 b _ k h.1).on;have h6:=UA (zC c.q b).out
 exact⟨zmr _ [] h1,by omega,by rw [ziw];omega,by omega⟩
theorem zuA {c:Cn} {k:Nat} (h:CnI c k) (b:Str):mayW c.own (zH (zC c.q b).out)∧((zC c.q b).pos=2∨(zC c.q b).pos=3→behW c.own (zH (zC c.q b).out)=true):=by
 have h1:MW c.own (zC c.q b):=zum b ⟨jb,h.2.2.2⟩;have h2:=zlC (zC c.q b).out [] h1.1;exact⟨h2.1,fun k=>h2.2.trans (h1.2 k)⟩
theorem zxj {q:Sto} {m:Int} {c:Cn} {k:Nat} (hq:SOk q m) (h:CnI c k) {b:Str} (hb:k+b.length≤1000000):SOk (fedE q c b).q (m+12 * b.length)∧CnI (fedC q c b) (k+b.length):=by
 obtain⟨h1,h2,h3,h4⟩:=zqM h hb;have h5:=zjK _ (x:=⟨q,c.h,c.body,c.live,c.own,[]⟩) ⟨hq,h.2.1,h.2.2.1⟩ h1
 refine⟨uF h5.1 (by omega),zo4 (zi6 b _ k h.1) (by simp),h5.2.1,?_,fun kp=> ?_⟩
 · have:=h5.2.2
   show(fedE q c b).b.length≤_
   unfold fedE;omega
 · exact(zuE _ _).trans ((zuA h b).2 kp)
end Go.Proofs.YtkjepecoodjbmaaGreatDoor
namespace Go.Proofs.YtkjepecoodjbmaaGreatDoor
open Go Go.Sep Go.Ab
set_option maxRecDepth 100000
def U5 (I:Alg) (args:List D) (hp:List HO):Option CT:=match args,hp with
 |[.v (.agg [(.p (.int .i64 st)),(.p (.list .fld fs)),(.p (.list .byte b))])],[]=>(fun(st:Int) (fs:List Fld) (b:Str)=>(some (.one ⟨I.hid ((fs.length≤100∧∀ f ∈ fs,f.name.length≤1000000∧f.value.length≤1000000)∧b.length≤9000),(.ret (.v (.one (.p (.list .byte (I.hid ((writeT st fs b)))))))),[]⟩):Option CT)) st fs b
 |_,_=>none
theorem zhL:zx Tryz.prog 82 (U5 alg):=by
 intro args hp r h;unfold U5 at h;split at h<;>cases h
 rename_i st fs b
 revert fs;intro(fs:List Fld)
 simp only [CT.Good,zi];intro hneed
 refine spcG zh mixed Tryz.func82 (by kernel_rfl) { cfgG with rl:=[0],keep:=some [0,1,2,3]} [zpB,zpA] (by kernel_rfl) ?_
 intro I X hI hX
 refine orcL ?_;go_invoke;refine orcS (by kernel_rfl) ?_
 simp only [zq,Nat.reduceAdd];subst hI;simp only [nrmA,nrmB,nrlB,reduceCtorEq,V0.agg.injEq];exact hneed
def U4:Know Tryz.prog:=⟨82,U5,zhL⟩
def U3:Know Tryz.prog:=⟨82,fun I=>zy I (U5 I),zf zhL⟩
def za5 (I:Alg) (args:List D) (hp:List HO):Option CT:=match args,hp with
 |[.v (.one (.p (.str t)))],[]=>(fun(t:Str)=>(some (.one ⟨I.hid (True),(.ret (.v (.one (.p (.bool (I.hid ((zg5 t)))))))),[]⟩):Option CT)) t
 |_,_=>none
theorem zlZ:zx Tryz.prog 124 (za5 alg):=by
 intro args hp r h;unfold za5 at h;split at h<;>cases h
 rename_i t;simp only [CT.Good,zi];intro _;generalize hr:zg5 t=r;unfold zg5 at hr
 refine spcG zh mixed Tryz.func124 (by kernel_rfl) { cfgT with keep:=some [0,2]} [xG,xE,zr2,zr1] (by kernel_rfl) ?_
 intro I X hI hX
 refine orcL ?_;go_invoke;refine orcS (by kernel_rfl) ?_
 simp only [zq,Nat.reduceAdd];subst hI;rw [show([47,102,105,108,101,115]:Str)=qx from rfl]
 try rw [show([47,102,105,108,101,115,47]:Str)=xg from rfl]
 simp only [nrmA,nrmB,nrlB,reduceCtorEq,V0.agg.injEq]
 by_cases h1:t=qx
 · rw [decide_eq_true h1,Bool.true_or] at hr
   subst hr;simp only [nrmA,nrmB,nrlB,reduceCtorEq,h1];exact⟨fun _=>jb,fun h=>h.elim⟩
 · rw [decide_eq_false h1,Bool.false_or] at hr
   simp only [nrmA,nrmB,nrlB,reduceCtorEq,h1]
   exact⟨fun h=>h.elim,fun _=>by simpa using hr⟩
def ztf:Know Tryz.prog:=⟨124,za5,zlZ⟩
def zte:Know Tryz.prog:=⟨124,fun I=>zy I (za5 I),zf zlZ⟩
theorem zeG: ∀ (ps:List Prt) (q:Sto) (ids:List Int) (t:Str),(∀ p ∈ ps,p.file.length≤40)→(qy q ids t ps).r.body.length≤t.length+60 * ps.length
 |[],_,_,_,_=>Nat.le_add_right _ _
 | p :: r,q,ids,t,h=>by
   have h1:=fun q ids t=>zeG r q ids t fun x hx=>h x (List.mem_cons_of_mem _ hx);have h2:=h p List.mem_cons_self;have h3:=uO (q.n+1);unfold qy
   split
   · have:=h1 q ids t;simp only [jh];omega
   · split
     · simp [Y7]
     · have:=h1 (Zj q p) (ids++[q.n+1]) (zod t (q.n+1) p)
       have e:(zod t (q.n+1) p).length≤t.length+60:=by
        unfold zod;simp only [jk,jh,ji];omega
       simp only [jh];omega
def FF (l:List Fld):Prop:=∀ x ∈ l,x.name.length≤1000000∧x.value.length≤1000000
theorem ztw {c:Prop} [Decidable c] {a b:TA} (ha:FF a.fs) (hb:FF b.fs):FF (if c then a else b).fs:=by split<;>assumption
theorem ZE:FF []:=fun x h=>by cases h
theorem uX {a b:Str} {l:List Fld} (h1:a.length≤1000000) (h2:b.length≤1000000) (h:FF l):FF (⟨a,b⟩::l):=fun y hy=>by
 rcases List.mem_cons.1 hy with rfl|hy
 · exact⟨h1,h2⟩
 · exact h y hy
theorem zf1 (n:Int):(decS n).length≤1000000:=by have:=uO n;omega
theorem zoG {q:Sto} (h:zQ q.l q.n) (m t:Str) (f:List Fld) (body:Str):FF (yY q m t f body).fs:=by
 have hc:FF (vO q f).fs:=by
  unfold vO
  repeat' with_reducible refine ztw ?_ ?_
  all_goals first
   |exact ZE
   |exact uX (by decide) (by have:=uO (q.n+1);simp only [jk,xg,jh,ji];omega) ZE
 have hd: ∀ u,FF (zdk q u).fs:=fun u=>by
  unfold zdk;exact ztw ZE ZE
 have hp: ∀ u,FF (tJ q u f body).fs:=fun u=>by
  unfold tJ
  repeat' with_reducible refine ztw ?_ ?_
  all_goals first
   |exact ZE
   |exact uX (by decide) (zf1 _) ZE
 have ht: ∀ u:Upl,u.note.length≤1000000→FF (zdb u):=fun u hu=>by
  unfold zdb lenF
  refine uX (by decide) (zf1 _) ?_
  split
  · refine uX (by decide) (by decide) (uX (by decide) (by decide) ?_)
    split
    · exact ZE
    · exact uX (by decide) hu ZE
  · refine uX (by decide) (zf1 _) (uX (by decide) (by decide) ?_)
    split
    · exact ZE
    · exact uX (by decide) hu ZE
 have hg: ∀ id,(getU q.l id).note.length≤1000000:=fun id=>by
  unfold getU
  split
  · rename_i hk
    have:=(h.each _ (rX hk)).nl;unfold xq at this
    exact Nat.le_trans this (by decide)
  · exact jM _
 unfold yY
 repeat' with_reducible refine ztw ?_ ?_
 all_goals first
  |exact ZE
  |exact hc
  |exact hd _
  |exact hp _
  |exact ht _ (hg _)
  |exact uX (by decide) (by decide) ZE
  |exact uX (by decide) (by decide) (uX (by decide) (zf1 _) (uX (by decide) (by decide) ZE))
def ROk (r:Rpl):Prop:=(r.fields.length≤100∧∀ f ∈ r.fields,f.name.length≤1000000∧f.value.length≤1000000)∧r.body.length≤9000
theorem zli (st:Int) (b:Str) (h:b.length≤9000):ROk ⟨st,[],b⟩:=⟨⟨jM _,fun f h=>by cases h⟩,h⟩
theorem zc5 {q:Sto} (h:zQ q.l q.n) {m t:Str} {f:List Fld} (hf:FOk f) (body:Str):ROk (ansG q m t f body).r:=by
 have h0: ∀ st,ROk (Y7 st):=fun st=>zli st [] (by decide)
 have hs:=YI f body;unfold ansG
 split
 · refine⟨⟨?_,fun x hx=> ?_⟩,jM _⟩
   · show(resT::(yY q m t f body).fs).length≤100
     have:=zdE q m t f body;simp only [jh];omega
   · rcases List.mem_cons.1 (show x ∈ resT::(yY q m t f body).fs from hx) with rfl|hx
     · exact⟨by decide,by decide⟩
     · exact zoG h m t f body x hx
 · split
   · exact h0 _
   · split
     · exact h0 _
     · unfold Ti
       split
       · exact h0 _
       · split
         · exact h0 _
         · have:=zeG (qQ f body).1 q [] [] hs.2.1
           refine⟨⟨by rw [TD];decide,fun x hx=>by rw [TD] at hx;cases hx⟩,?_⟩
           simp only [ji] at this;omega
def X3 (I:Alg) (args:List D) (hp:List HO):Option CT:=match args,hp with
 |[.v (.one (.ptr 0 0)),.v (.agg [(.p (.str m)),(.p (.str t)),(.p (.int .i64 mi)),(.p (.list .fld f)),(.p (.int .i64 le))]),.v (.one (.p (.list .byte body)))],[.obj 50 [(.ptr 1 0),(.ptr 2 0),(.ptr 3 0),(.ptr 4 0),(.ptr 5 0)],.pack [.obj 54 [(.ptr 1 0),(.ptr 2 0)],.pack [.obj 124 [(.row 1),(.p (.int .i64 n))],.row .upl 81 l],.pack [.obj 156 [(.row 1),(.p (.int .i64 s))],.row .byte 5 b]],.abs (.cn c0),.abs (.cn c1),.abs (.cn c2),.abs (.cn c3)]=>(fun(l:List Upl) (n:Int) (b:Str) (s:Int) (c0 c1 c2 c3:Cn) (m t:Str) (mi:Int) (f:List Fld) (le:Int) (body:Str)=>(some (.one ⟨I.hid (FOk f∧zQ l n∧n≤200000 - 20∧b.length≤100000∧body.length≤30000),(.ret (.v (.agg [(.p (.int .i64 (I.hid ((ansG ⟨l,n,b,s⟩ m t f body).r.status)))),(.p (.list .fld (I.hid ((ansG ⟨l,n,b,s⟩ m t f body).r.fields)))),(.p (.list .byte (I.hid ((ansG ⟨l,n,b,s⟩ m t f body).r.body))))]))),[.obj 50 [(.ptr 1 0),(.ptr 2 0),(.ptr 3 0),(.ptr 4 0),(.ptr 5 0)],.pack [.obj 54 [(.ptr 1 0),(.ptr 2 0)],.pack [.obj 124 [(.row 1),(.p (.int .i64 (I.hid ((ansG ⟨l,n,b,s⟩ m t f body).q.n))))],.row .upl 81 (I.hid ((ansG ⟨l,n,b,s⟩ m t f body).q.l))],.pack [.obj 156 [(.row 1),(.p (.int .i64 (I.hid ((ansG ⟨l,n,b,s⟩ m t f body).q.s))))],.row .byte 5 (I.hid ((ansG ⟨l,n,b,s⟩ m t f body).q.b))]],.abs (.cn c0),.abs (.cn c1),.abs (.cn c2),.abs (.cn c3)]⟩):Option CT)) l n b s c0 c1 c2 c3 m t mi f le body
 |_,_=>none
set_option maxHeartbeats 1000000 in
theorem zen:zx Tryz.prog 83 (X3 alg):=by
 intro args hp r h;unfold X3 at h;split at h<;>cases h
 rename_i m t mi f le body n l s b c0 c1 c2 c3
 revert f l;intro(f:List Fld) (l:List Upl)
 simp only [CT.Good,zi];intro hneed;obtain⟨hf,hs,hn,hb,hbo⟩:=hneed;generalize hr:ansG ⟨l,n,b,s⟩ m t f body=r;obtain⟨⟨st,fs,bd⟩,⟨l',n',b',s'⟩⟩:=r
 have hff:(Ti ⟨l,n,b,s⟩ f body).r.fields=[]:=by
  unfold Ti
  split
  · rfl
  · split
    · rfl
    · exact TD _ _ _ _
 unfold ansG rplT Y7 at hr
 refine spcG zh mixed Tryz.func83 (by kernel_rfl) { cfgG with keep:=some [0,1,2,4,6]} [zdw,zdv,ztf,zte,uJ,uI,zth,ztg] (by kernel_rfl) ?_
 intro I X hI hX
 refine orcL ?_;go_invoke;refine orcS (by kernel_rfl) ?_
 simp only [zq,Nat.reduceAdd];rw [show([47,102,111,114,109]:Str)=zw9 from rfl,show([80,79,83,84]:Str)=zpG from rfl]
 have hh: ∀ {α:Type} (y:α),I.hid y=y:=fun y=>by subst hI;rfl
 simp only [hh];generalize zg5 t=o at *;generalize yY ⟨l,n,b,s⟩ m t f body=x at *;generalize Ti ⟨l,n,b,s⟩ f body=y at *;obtain⟨x1,x2,⟨x3,x4,x5,x6⟩⟩:=x;obtain⟨⟨y1,y2,y3⟩,⟨y4,y5,y6,y7⟩⟩:=y;subst hI;dsimp only at hff hr ⊢;subst hff;simp only [nrmA,nrmB,nrlB,reduceCtorEq,V0.agg.injEq,HO.pack.injEq,HO.obj.injEq]
 (repeat' (first|refine ja ?_ ?_|intro _))<;>first|omega|exact jb|exact jc ‹False›|skip
 all_goals first
  |omega
  |with_reducible assumption
  |exact jM _
  |exact hf.1
  |(exact(hf.2 _ ‹_›).1)
  |(exact(hf.2 _ ‹_›).2)
  |(((repeat(first|rewrite [if_pos (by first|omega|assumption|(simp only [*,or_self,or_true,true_or,or_false,false_or,jf,jg,jd,je,and_self,and_true,true_and];done)|(simp only [*];omega)|(simp [*];done)|(simp [*];omega))] at hr|rewrite [if_neg (by first|omega|assumption|(simp only [*,or_self,or_true,true_or,or_false,false_or,jf,jg,jd,je,and_self,and_true,true_and];done)|(simp only [*];omega)|(simp [*];done)|(simp [*];omega))] at hr)));simp only [GA.mk.injEq,Rpl.mk.injEq,Sto.mk.injEq] at hr;obtain⟨⟨rfl,rfl,rfl⟩,rfl,rfl,rfl,rfl⟩:=hr;rfl)
def X0:Know Tryz.prog:=⟨83,X3,zen⟩
def XZ:Know Tryz.prog:=⟨83,fun I=>zy I (X3 I),zf zen⟩
end Go.Proofs.YtkjepecoodjbmaaGreatDoor
namespace Go.Proofs.YtkjepecoodjbmaaGreatDoor
open Go Go.Sep Go.Ab
set_option maxRecDepth 100000
def XY (I:Alg) (args:List D) (hp:List HO):Option CT:=match args,hp with
 |[.v (.one (.ptr 0 0)),.v (.one (.ptr 2 0)),.v (.agg [(.p (.int .i64 ek)),(.p (.str em)),(.p (.str et)),(.p (.int .i64 ei)),(.p (.list .fld ef)),(.p (.int .i64 en)),(.p (.list .byte eb)),(.p (.str ex)),(.p (.str ey)),(.p (.str ez)),(.p (.nl ew)),(.p (.int .i64 ec))])],[.obj 50 [(.ptr 1 0),(.ptr 2 0),(.ptr 3 0),(.ptr 4 0),(.ptr 5 0)],.pack [.obj 54 [(.ptr 1 0),(.ptr 2 0)],.pack [.obj 124 [(.row 1),(.p (.int .i64 n))],.row .upl 81 l],.pack [.obj 156 [(.row 1),(.p (.int .i64 s))],.row .byte 5 b]],.abs (.cn c0),.abs (.cn c1),.abs (.cn c2),.abs (.cn c3)]=>(fun(l:List Upl) (n:Int) (b:Str) (s:Int) (c0 c1 c2 c3:Cn) (ek:Int) (em et:Str) (ei:Int) (ef:List Fld) (en:Int) (eb ex ey ez ew:Str) (ec:Int)=>(some (.one ⟨I.hid (zQ l n∧n≤200000 - 20∧b.length≤100000∧FOk c0.h.fields∧c0.body.length≤30000∧eb.length≤1000000∧(ek=2→c0.own=true)),(.ret (.v (.one (.p (.list .byte (I.hid ((evG ⟨⟨l,n,b,s⟩,c0.h,c0.body,c0.live,c0.own,[]⟩ ⟨ek,⟨em,et,ei,ef,en⟩,eb,⟨ex,ey,ez,ew⟩,ec⟩).o))))))),[.obj 50 [(.ptr 1 0),(.ptr 2 0),(.ptr 3 0),(.ptr 4 0),(.ptr 5 0)],.pack [.obj 54 [(.ptr 1 0),(.ptr 2 0)],.pack [.obj 124 [(.row 1),(.p (.int .i64 (I.hid ((evG ⟨⟨l,n,b,s⟩,c0.h,c0.body,c0.live,c0.own,[]⟩ ⟨ek,⟨em,et,ei,ef,en⟩,eb,⟨ex,ey,ez,ew⟩,ec⟩).q.n))))],.row .upl 81 (I.hid ((evG ⟨⟨l,n,b,s⟩,c0.h,c0.body,c0.live,c0.own,[]⟩ ⟨ek,⟨em,et,ei,ef,en⟩,eb,⟨ex,ey,ez,ew⟩,ec⟩).q.l))],.pack [.obj 156 [(.row 1),(.p (.int .i64 (I.hid ((evG ⟨⟨l,n,b,s⟩,c0.h,c0.body,c0.live,c0.own,[]⟩ ⟨ek,⟨em,et,ei,ef,en⟩,eb,⟨ex,ey,ez,ew⟩,ec⟩).q.s))))],.row .byte 5 (I.hid ((evG ⟨⟨l,n,b,s⟩,c0.h,c0.body,c0.live,c0.own,[]⟩ ⟨ek,⟨em,et,ei,ef,en⟩,eb,⟨ex,ey,ez,ew⟩,ec⟩).q.b))]],.abs (.cn ⟨c0.q,(I.hid ((evG ⟨⟨l,n,b,s⟩,c0.h,c0.body,c0.live,c0.own,[]⟩ ⟨ek,⟨em,et,ei,ef,en⟩,eb,⟨ex,ey,ez,ew⟩,ec⟩).h)),(I.hid ((evG ⟨⟨l,n,b,s⟩,c0.h,c0.body,c0.live,c0.own,[]⟩ ⟨ek,⟨em,et,ei,ef,en⟩,eb,⟨ex,ey,ez,ew⟩,ec⟩).b)),(I.hid ((evG ⟨⟨l,n,b,s⟩,c0.h,c0.body,c0.live,c0.own,[]⟩ ⟨ek,⟨em,et,ei,ef,en⟩,eb,⟨ex,ey,ez,ew⟩,ec⟩).i)),(I.hid ((evG ⟨⟨l,n,b,s⟩,c0.h,c0.body,c0.live,c0.own,[]⟩ ⟨ek,⟨em,et,ei,ef,en⟩,eb,⟨ex,ey,ez,ew⟩,ec⟩).w))⟩),.abs (.cn c1),.abs (.cn c2),.abs (.cn c3)]⟩):Option CT)) l n b s c0 c1 c2 c3 ek em et ei ef en eb ex ey ez ew ec
 |_,_=>none
set_option maxHeartbeats 1000000 in
theorem zem:zx Tryz.prog 46 (XY alg):=by
 intro args hp r h;unfold XY at h;split at h<;>cases h
 rename_i ek em et ei ef en eb ex ey ez ew ec n l s b c0 c1 c2 c3
 revert ef l;intro(ef:List Fld) (l:List Upl)
 simp only [CT.Good,zi];intro hneed;obtain⟨hs,hn,hb,hf,hbo,heb,hw⟩:=hneed;obtain⟨q,⟨m,t,mi,f,le⟩,cb,li,w⟩:=c0;dsimp only at hf hbo hw ⊢;have ha:=zc5 (q:=⟨l,n,b,s⟩) hs (m:=m) (t:=t) hf cb;generalize hr:evG ⟨⟨l,n,b,s⟩,⟨m,t,mi,f,le⟩,cb,li,w,[]⟩ ⟨ek,⟨em,et,ei,ef,en⟩,eb,⟨ex,ey,ez,ew⟩,ec⟩=r;obtain⟨⟨l',n',b',s'⟩,⟨m',t',mi',f',le'⟩,cb',li',w',o'⟩:=r;unfold evG zqP Y7 QZ at hr
 refine spcG zh mixed Tryz.func46 (by kernel_rfl) { cfgG with rl:=[0],fz:=[83],keep:=some [0,1,2,5,6,8]} [uJ,uI,U4,U3,X0,XZ] (by kernel_rfl) ?_
 intro I X hI hX;cases w
 all_goals
  refine orcL ?_;go_invoke;refine orcS (by kernel_rfl) ?_
  simp only [zq,Nat.reduceAdd]
  have hh: ∀ {α:Type} (y:α),I.hid y=y:=fun y=>by subst hI;rfl
  simp only [hh];generalize ansG ⟨l,n,b,s⟩ m t f cb=y at *;obtain⟨⟨y1,y2,y3⟩,⟨y4,y5,y6,y7⟩⟩:=y;subst hI;dsimp only at hr ha ⊢;simp only [nrmA,nrmB,nrlB,reduceCtorEq,V0.agg.injEq,HO.pack.injEq,HO.obj.injEq,HO.abs.injEq,Gh.cn.injEq,Cn.mk.injEq,Hd.mk.injEq]
  (repeat' (first|refine ja ?_ ?_|intro _))<;>first|omega|exact jb|exact jc ‹False›|skip
  all_goals first
   |omega
   |with_reducible assumption
   |exact jM _
   |exact ha.1.1
   |(exact(ha.1.2 _ ‹_›).1)
   |(exact(ha.1.2 _ ‹_›).2)
   |exact ha.2
   |exact hf.1
   |(exact(hf.2 _ ‹_›).1)
   |(exact(hf.2 _ ‹_›).2)
   |(exact(List.not_mem_nil ‹_›).elim)
   |(exact absurd (hw (by with_reducible assumption)) (by decide))
   |(((repeat(first|rewrite [if_pos (by first|omega|assumption|(simp only [*,or_self,or_true,true_or,or_false,false_or,jf,jg,jd,je,and_self,and_true,true_and];done)|(simp only [*];omega)|(simp [*];done)|(simp [*];omega))] at hr|rewrite [if_neg (by first|omega|assumption|(simp only [*,or_self,or_true,true_or,or_false,false_or,jf,jg,jd,je,and_self,and_true,true_and];done)|(simp only [*];omega)|(simp [*];done)|(simp [*];omega))] at hr)));simp only [GE.mk.injEq,Hd.mk.injEq,Sto.mk.injEq,List.nil_append] at hr;obtain⟨⟨rfl,rfl,rfl,rfl⟩,⟨rfl,rfl,rfl,rfl,rfl⟩,rfl,rfl,rfl,rfl⟩:=hr;rfl)
def yA:Know Tryz.prog:=⟨46,XY,zem⟩
def yx:Know Tryz.prog:=⟨46,fun I=>zy I (XY I),zf zem⟩
def XW (I:Alg) (args:List D) (hp:List HO):Option CT:=match args,hp with
 |[.v (.one (.ptr 0 0)),.v (.one (.ptr 3 0)),.v (.agg [(.p (.int .i64 ek)),(.p (.str em)),(.p (.str et)),(.p (.int .i64 ei)),(.p (.list .fld ef)),(.p (.int .i64 en)),(.p (.list .byte eb)),(.p (.str ex)),(.p (.str ey)),(.p (.str ez)),(.p (.nl ew)),(.p (.int .i64 ec))])],[.obj 50 [(.ptr 1 0),(.ptr 2 0),(.ptr 3 0),(.ptr 4 0),(.ptr 5 0)],.pack [.obj 54 [(.ptr 1 0),(.ptr 2 0)],.pack [.obj 124 [(.row 1),(.p (.int .i64 n))],.row .upl 81 l],.pack [.obj 156 [(.row 1),(.p (.int .i64 s))],.row .byte 5 b]],.abs (.cn c0),.abs (.cn c1),.abs (.cn c2),.abs (.cn c3)]=>(fun(l:List Upl) (n:Int) (b:Str) (s:Int) (c0 c1 c2 c3:Cn) (ek:Int) (em et:Str) (ei:Int) (ef:List Fld) (en:Int) (eb ex ey ez ew:Str) (ec:Int)=>(some (.one ⟨I.hid (zQ l n∧n≤200000 - 20∧b.length≤100000∧FOk c1.h.fields∧c1.body.length≤30000∧eb.length≤1000000∧(ek=2→c1.own=true)),(.ret (.v (.one (.p (.list .byte (I.hid ((evG ⟨⟨l,n,b,s⟩,c1.h,c1.body,c1.live,c1.own,[]⟩ ⟨ek,⟨em,et,ei,ef,en⟩,eb,⟨ex,ey,ez,ew⟩,ec⟩).o))))))),[.obj 50 [(.ptr 1 0),(.ptr 2 0),(.ptr 3 0),(.ptr 4 0),(.ptr 5 0)],.pack [.obj 54 [(.ptr 1 0),(.ptr 2 0)],.pack [.obj 124 [(.row 1),(.p (.int .i64 (I.hid ((evG ⟨⟨l,n,b,s⟩,c1.h,c1.body,c1.live,c1.own,[]⟩ ⟨ek,⟨em,et,ei,ef,en⟩,eb,⟨ex,ey,ez,ew⟩,ec⟩).q.n))))],.row .upl 81 (I.hid ((evG ⟨⟨l,n,b,s⟩,c1.h,c1.body,c1.live,c1.own,[]⟩ ⟨ek,⟨em,et,ei,ef,en⟩,eb,⟨ex,ey,ez,ew⟩,ec⟩).q.l))],.pack [.obj 156 [(.row 1),(.p (.int .i64 (I.hid ((evG ⟨⟨l,n,b,s⟩,c1.h,c1.body,c1.live,c1.own,[]⟩ ⟨ek,⟨em,et,ei,ef,en⟩,eb,⟨ex,ey,ez,ew⟩,ec⟩).q.s))))],.row .byte 5 (I.hid ((evG ⟨⟨l,n,b,s⟩,c1.h,c1.body,c1.live,c1.own,[]⟩ ⟨ek,⟨em,et,ei,ef,en⟩,eb,⟨ex,ey,ez,ew⟩,ec⟩).q.b))]],.abs (.cn c0),.abs (.cn ⟨c1.q,(I.hid ((evG ⟨⟨l,n,b,s⟩,c1.h,c1.body,c1.live,c1.own,[]⟩ ⟨ek,⟨em,et,ei,ef,en⟩,eb,⟨ex,ey,ez,ew⟩,ec⟩).h)),(I.hid ((evG ⟨⟨l,n,b,s⟩,c1.h,c1.body,c1.live,c1.own,[]⟩ ⟨ek,⟨em,et,ei,ef,en⟩,eb,⟨ex,ey,ez,ew⟩,ec⟩).b)),(I.hid ((evG ⟨⟨l,n,b,s⟩,c1.h,c1.body,c1.live,c1.own,[]⟩ ⟨ek,⟨em,et,ei,ef,en⟩,eb,⟨ex,ey,ez,ew⟩,ec⟩).i)),(I.hid ((evG ⟨⟨l,n,b,s⟩,c1.h,c1.body,c1.live,c1.own,[]⟩ ⟨ek,⟨em,et,ei,ef,en⟩,eb,⟨ex,ey,ez,ew⟩,ec⟩).w))⟩),.abs (.cn c2),.abs (.cn c3)]⟩):Option CT)) l n b s c0 c1 c2 c3 ek em et ei ef en eb ex ey ez ew ec
 |_,_=>none
set_option maxHeartbeats 1000000 in
theorem zel:zx Tryz.prog 46 (XW alg):=by
 intro args hp r h;unfold XW at h;split at h<;>cases h
 rename_i ek em et ei ef en eb ex ey ez ew ec n l s b c0 c1 c2 c3
 revert ef l;intro(ef:List Fld) (l:List Upl)
 simp only [CT.Good,zi];intro hneed;obtain⟨hs,hn,hb,hf,hbo,heb,hw⟩:=hneed;obtain⟨q,⟨m,t,mi,f,le⟩,cb,li,w⟩:=c1;dsimp only at hf hbo hw ⊢;have ha:=zc5 (q:=⟨l,n,b,s⟩) hs (m:=m) (t:=t) hf cb;generalize hr:evG ⟨⟨l,n,b,s⟩,⟨m,t,mi,f,le⟩,cb,li,w,[]⟩ ⟨ek,⟨em,et,ei,ef,en⟩,eb,⟨ex,ey,ez,ew⟩,ec⟩=r;obtain⟨⟨l',n',b',s'⟩,⟨m',t',mi',f',le'⟩,cb',li',w',o'⟩:=r;unfold evG zqP Y7 QZ at hr
 refine spcG zh mixed Tryz.func46 (by kernel_rfl) { cfgG with rl:=[0],fz:=[83],keep:=some [0,1,2,5,6,8]} [uJ,uI,U4,U3,X0,XZ,yA,yx] (by kernel_rfl) ?_
 intro I X hI hX;cases w
 all_goals
  refine orcL ?_;go_invoke;refine orcS (by kernel_rfl) ?_
  simp only [zq,Nat.reduceAdd]
  have hh: ∀ {α:Type} (y:α),I.hid y=y:=fun y=>by subst hI;rfl
  simp only [hh];generalize ansG ⟨l,n,b,s⟩ m t f cb=y at *;obtain⟨⟨y1,y2,y3⟩,⟨y4,y5,y6,y7⟩⟩:=y;subst hI;dsimp only at hr ha ⊢;simp only [nrmA,nrmB,nrlB,reduceCtorEq,V0.agg.injEq,HO.pack.injEq,HO.obj.injEq,HO.abs.injEq,Gh.cn.injEq,Cn.mk.injEq,Hd.mk.injEq]
  (repeat' (first|refine ja ?_ ?_|intro _))<;>first|omega|exact jb|exact jc ‹False›|skip
  all_goals first
   |omega
   |with_reducible assumption
   |exact jM _
   |exact ha.1.1
   |(exact(ha.1.2 _ ‹_›).1)
   |(exact(ha.1.2 _ ‹_›).2)
   |exact ha.2
   |exact hf.1
   |(exact(hf.2 _ ‹_›).1)
   |(exact(hf.2 _ ‹_›).2)
   |(exact(List.not_mem_nil ‹_›).elim)
   |(exact absurd (hw (by with_reducible assumption)) (by decide))
   |(((repeat(first|rewrite [if_pos (by first|omega|assumption|(simp only [*,or_self,or_true,true_or,or_false,false_or,jf,jg,jd,je,and_self,and_true,true_and];done)|(simp only [*];omega)|(simp [*];done)|(simp [*];omega))] at hr|rewrite [if_neg (by first|omega|assumption|(simp only [*,or_self,or_true,true_or,or_false,false_or,jf,jg,jd,je,and_self,and_true,true_and];done)|(simp only [*];omega)|(simp [*];done)|(simp [*];omega))] at hr)));simp only [GE.mk.injEq,Hd.mk.injEq,Sto.mk.injEq,List.nil_append] at hr;obtain⟨⟨rfl,rfl,rfl,rfl⟩,⟨rfl,rfl,rfl,rfl,rfl⟩,rfl,rfl,rfl,rfl⟩:=hr;rfl)
def yJ:Know Tryz.prog:=⟨46,XW,zel⟩
def yI:Know Tryz.prog:=⟨46,fun I=>zy I (XW I),zf zel⟩
def XV (I:Alg) (args:List D) (hp:List HO):Option CT:=match args,hp with
 |[.v (.one (.ptr 0 0)),.v (.one (.ptr 4 0)),.v (.agg [(.p (.int .i64 ek)),(.p (.str em)),(.p (.str et)),(.p (.int .i64 ei)),(.p (.list .fld ef)),(.p (.int .i64 en)),(.p (.list .byte eb)),(.p (.str ex)),(.p (.str ey)),(.p (.str ez)),(.p (.nl ew)),(.p (.int .i64 ec))])],[.obj 50 [(.ptr 1 0),(.ptr 2 0),(.ptr 3 0),(.ptr 4 0),(.ptr 5 0)],.pack [.obj 54 [(.ptr 1 0),(.ptr 2 0)],.pack [.obj 124 [(.row 1),(.p (.int .i64 n))],.row .upl 81 l],.pack [.obj 156 [(.row 1),(.p (.int .i64 s))],.row .byte 5 b]],.abs (.cn c0),.abs (.cn c1),.abs (.cn c2),.abs (.cn c3)]=>(fun(l:List Upl) (n:Int) (b:Str) (s:Int) (c0 c1 c2 c3:Cn) (ek:Int) (em et:Str) (ei:Int) (ef:List Fld) (en:Int) (eb ex ey ez ew:Str) (ec:Int)=>(some (.one ⟨I.hid (zQ l n∧n≤200000 - 20∧b.length≤100000∧FOk c2.h.fields∧c2.body.length≤30000∧eb.length≤1000000∧(ek=2→c2.own=true)),(.ret (.v (.one (.p (.list .byte (I.hid ((evG ⟨⟨l,n,b,s⟩,c2.h,c2.body,c2.live,c2.own,[]⟩ ⟨ek,⟨em,et,ei,ef,en⟩,eb,⟨ex,ey,ez,ew⟩,ec⟩).o))))))),[.obj 50 [(.ptr 1 0),(.ptr 2 0),(.ptr 3 0),(.ptr 4 0),(.ptr 5 0)],.pack [.obj 54 [(.ptr 1 0),(.ptr 2 0)],.pack [.obj 124 [(.row 1),(.p (.int .i64 (I.hid ((evG ⟨⟨l,n,b,s⟩,c2.h,c2.body,c2.live,c2.own,[]⟩ ⟨ek,⟨em,et,ei,ef,en⟩,eb,⟨ex,ey,ez,ew⟩,ec⟩).q.n))))],.row .upl 81 (I.hid ((evG ⟨⟨l,n,b,s⟩,c2.h,c2.body,c2.live,c2.own,[]⟩ ⟨ek,⟨em,et,ei,ef,en⟩,eb,⟨ex,ey,ez,ew⟩,ec⟩).q.l))],.pack [.obj 156 [(.row 1),(.p (.int .i64 (I.hid ((evG ⟨⟨l,n,b,s⟩,c2.h,c2.body,c2.live,c2.own,[]⟩ ⟨ek,⟨em,et,ei,ef,en⟩,eb,⟨ex,ey,ez,ew⟩,ec⟩).q.s))))],.row .byte 5 (I.hid ((evG ⟨⟨l,n,b,s⟩,c2.h,c2.body,c2.live,c2.own,[]⟩ ⟨ek,⟨em,et,ei,ef,en⟩,eb,⟨ex,ey,ez,ew⟩,ec⟩).q.b))]],.abs (.cn c0),.abs (.cn c1),.abs (.cn ⟨c2.q,(I.hid ((evG ⟨⟨l,n,b,s⟩,c2.h,c2.body,c2.live,c2.own,[]⟩ ⟨ek,⟨em,et,ei,ef,en⟩,eb,⟨ex,ey,ez,ew⟩,ec⟩).h)),(I.hid ((evG ⟨⟨l,n,b,s⟩,c2.h,c2.body,c2.live,c2.own,[]⟩ ⟨ek,⟨em,et,ei,ef,en⟩,eb,⟨ex,ey,ez,ew⟩,ec⟩).b)),(I.hid ((evG ⟨⟨l,n,b,s⟩,c2.h,c2.body,c2.live,c2.own,[]⟩ ⟨ek,⟨em,et,ei,ef,en⟩,eb,⟨ex,ey,ez,ew⟩,ec⟩).i)),(I.hid ((evG ⟨⟨l,n,b,s⟩,c2.h,c2.body,c2.live,c2.own,[]⟩ ⟨ek,⟨em,et,ei,ef,en⟩,eb,⟨ex,ey,ez,ew⟩,ec⟩).w))⟩),.abs (.cn c3)]⟩):Option CT)) l n b s c0 c1 c2 c3 ek em et ei ef en eb ex ey ez ew ec
 |_,_=>none
set_option maxHeartbeats 1000000 in
theorem zek:zx Tryz.prog 46 (XV alg):=by
 intro args hp r h;unfold XV at h;split at h<;>cases h
 rename_i ek em et ei ef en eb ex ey ez ew ec n l s b c0 c1 c2 c3
 revert ef l;intro(ef:List Fld) (l:List Upl)
 simp only [CT.Good,zi];intro hneed;obtain⟨hs,hn,hb,hf,hbo,heb,hw⟩:=hneed;obtain⟨q,⟨m,t,mi,f,le⟩,cb,li,w⟩:=c2;dsimp only at hf hbo hw ⊢;have ha:=zc5 (q:=⟨l,n,b,s⟩) hs (m:=m) (t:=t) hf cb;generalize hr:evG ⟨⟨l,n,b,s⟩,⟨m,t,mi,f,le⟩,cb,li,w,[]⟩ ⟨ek,⟨em,et,ei,ef,en⟩,eb,⟨ex,ey,ez,ew⟩,ec⟩=r;obtain⟨⟨l',n',b',s'⟩,⟨m',t',mi',f',le'⟩,cb',li',w',o'⟩:=r;unfold evG zqP Y7 QZ at hr
 refine spcG zh mixed Tryz.func46 (by kernel_rfl) { cfgG with rl:=[0],fz:=[83],keep:=some [0,1,2,5,6,8]} [uJ,uI,U4,U3,X0,XZ,yA,yx,yJ,yI] (by kernel_rfl) ?_
 intro I X hI hX;cases w
 all_goals
  refine orcL ?_;go_invoke;refine orcS (by kernel_rfl) ?_
  simp only [zq,Nat.reduceAdd]
  have hh: ∀ {α:Type} (y:α),I.hid y=y:=fun y=>by subst hI;rfl
  simp only [hh];generalize ansG ⟨l,n,b,s⟩ m t f cb=y at *;obtain⟨⟨y1,y2,y3⟩,⟨y4,y5,y6,y7⟩⟩:=y;subst hI;dsimp only at hr ha ⊢;simp only [nrmA,nrmB,nrlB,reduceCtorEq,V0.agg.injEq,HO.pack.injEq,HO.obj.injEq,HO.abs.injEq,Gh.cn.injEq,Cn.mk.injEq,Hd.mk.injEq]
  (repeat' (first|refine ja ?_ ?_|intro _))<;>first|omega|exact jb|exact jc ‹False›|skip
  all_goals first
   |omega
   |with_reducible assumption
   |exact jM _
   |exact ha.1.1
   |(exact(ha.1.2 _ ‹_›).1)
   |(exact(ha.1.2 _ ‹_›).2)
   |exact ha.2
   |exact hf.1
   |(exact(hf.2 _ ‹_›).1)
   |(exact(hf.2 _ ‹_›).2)
   |(exact(List.not_mem_nil ‹_›).elim)
   |(exact absurd (hw (by with_reducible assumption)) (by decide))
   |(((repeat(first|rewrite [if_pos (by first|omega|assumption|(simp only [*,or_self,or_true,true_or,or_false,false_or,jf,jg,jd,je,and_self,and_true,true_and];done)|(simp only [*];omega)|(simp [*];done)|(simp [*];omega))] at hr|rewrite [if_neg (by first|omega|assumption|(simp only [*,or_self,or_true,true_or,or_false,false_or,jf,jg,jd,je,and_self,and_true,true_and];done)|(simp only [*];omega)|(simp [*];done)|(simp [*];omega))] at hr)));simp only [GE.mk.injEq,Hd.mk.injEq,Sto.mk.injEq,List.nil_append] at hr;obtain⟨⟨rfl,rfl,rfl,rfl⟩,⟨rfl,rfl,rfl,rfl,rfl⟩,rfl,rfl,rfl,rfl⟩:=hr;rfl)
def yQ:Know Tryz.prog:=⟨46,XV,zek⟩
def yP:Know Tryz.prog:=⟨46,fun I=>zy I (XV I),zf zek⟩
def XU (I:Alg) (args:List D) (hp:List HO):Option CT:=match args,hp with
 |[.v (.one (.ptr 0 0)),.v (.one (.ptr 5 0)),.v (.agg [(.p (.int .i64 ek)),(.p (.str em)),(.p (.str et)),(.p (.int .i64 ei)),(.p (.list .fld ef)),(.p (.int .i64 en)),(.p (.list .byte eb)),(.p (.str ex)),(.p (.str ey)),(.p (.str ez)),(.p (.nl ew)),(.p (.int .i64 ec))])],[.obj 50 [(.ptr 1 0),(.ptr 2 0),(.ptr 3 0),(.ptr 4 0),(.ptr 5 0)],.pack [.obj 54 [(.ptr 1 0),(.ptr 2 0)],.pack [.obj 124 [(.row 1),(.p (.int .i64 n))],.row .upl 81 l],.pack [.obj 156 [(.row 1),(.p (.int .i64 s))],.row .byte 5 b]],.abs (.cn c0),.abs (.cn c1),.abs (.cn c2),.abs (.cn c3)]=>(fun(l:List Upl) (n:Int) (b:Str) (s:Int) (c0 c1 c2 c3:Cn) (ek:Int) (em et:Str) (ei:Int) (ef:List Fld) (en:Int) (eb ex ey ez ew:Str) (ec:Int)=>(some (.one ⟨I.hid (zQ l n∧n≤200000 - 20∧b.length≤100000∧FOk c3.h.fields∧c3.body.length≤30000∧eb.length≤1000000∧(ek=2→c3.own=true)),(.ret (.v (.one (.p (.list .byte (I.hid ((evG ⟨⟨l,n,b,s⟩,c3.h,c3.body,c3.live,c3.own,[]⟩ ⟨ek,⟨em,et,ei,ef,en⟩,eb,⟨ex,ey,ez,ew⟩,ec⟩).o))))))),[.obj 50 [(.ptr 1 0),(.ptr 2 0),(.ptr 3 0),(.ptr 4 0),(.ptr 5 0)],.pack [.obj 54 [(.ptr 1 0),(.ptr 2 0)],.pack [.obj 124 [(.row 1),(.p (.int .i64 (I.hid ((evG ⟨⟨l,n,b,s⟩,c3.h,c3.body,c3.live,c3.own,[]⟩ ⟨ek,⟨em,et,ei,ef,en⟩,eb,⟨ex,ey,ez,ew⟩,ec⟩).q.n))))],.row .upl 81 (I.hid ((evG ⟨⟨l,n,b,s⟩,c3.h,c3.body,c3.live,c3.own,[]⟩ ⟨ek,⟨em,et,ei,ef,en⟩,eb,⟨ex,ey,ez,ew⟩,ec⟩).q.l))],.pack [.obj 156 [(.row 1),(.p (.int .i64 (I.hid ((evG ⟨⟨l,n,b,s⟩,c3.h,c3.body,c3.live,c3.own,[]⟩ ⟨ek,⟨em,et,ei,ef,en⟩,eb,⟨ex,ey,ez,ew⟩,ec⟩).q.s))))],.row .byte 5 (I.hid ((evG ⟨⟨l,n,b,s⟩,c3.h,c3.body,c3.live,c3.own,[]⟩ ⟨ek,⟨em,et,ei,ef,en⟩,eb,⟨ex,ey,ez,ew⟩,ec⟩).q.b))]],.abs (.cn c0),.abs (.cn c1),.abs (.cn c2),.abs (.cn ⟨c3.q,(I.hid ((evG ⟨⟨l,n,b,s⟩,c3.h,c3.body,c3.live,c3.own,[]⟩ ⟨ek,⟨em,et,ei,ef,en⟩,eb,⟨ex,ey,ez,ew⟩,ec⟩).h)),(I.hid ((evG ⟨⟨l,n,b,s⟩,c3.h,c3.body,c3.live,c3.own,[]⟩ ⟨ek,⟨em,et,ei,ef,en⟩,eb,⟨ex,ey,ez,ew⟩,ec⟩).b)),(I.hid ((evG ⟨⟨l,n,b,s⟩,c3.h,c3.body,c3.live,c3.own,[]⟩ ⟨ek,⟨em,et,ei,ef,en⟩,eb,⟨ex,ey,ez,ew⟩,ec⟩).i)),(I.hid ((evG ⟨⟨l,n,b,s⟩,c3.h,c3.body,c3.live,c3.own,[]⟩ ⟨ek,⟨em,et,ei,ef,en⟩,eb,⟨ex,ey,ez,ew⟩,ec⟩).w))⟩)]⟩):Option CT)) l n b s c0 c1 c2 c3 ek em et ei ef en eb ex ey ez ew ec
 |_,_=>none
set_option maxHeartbeats 1000000 in
theorem zej:zx Tryz.prog 46 (XU alg):=by
 intro args hp r h;unfold XU at h;split at h<;>cases h
 rename_i ek em et ei ef en eb ex ey ez ew ec n l s b c0 c1 c2 c3
 revert ef l;intro(ef:List Fld) (l:List Upl)
 simp only [CT.Good,zi];intro hneed;obtain⟨hs,hn,hb,hf,hbo,heb,hw⟩:=hneed;obtain⟨q,⟨m,t,mi,f,le⟩,cb,li,w⟩:=c3;dsimp only at hf hbo hw ⊢;have ha:=zc5 (q:=⟨l,n,b,s⟩) hs (m:=m) (t:=t) hf cb;generalize hr:evG ⟨⟨l,n,b,s⟩,⟨m,t,mi,f,le⟩,cb,li,w,[]⟩ ⟨ek,⟨em,et,ei,ef,en⟩,eb,⟨ex,ey,ez,ew⟩,ec⟩=r;obtain⟨⟨l',n',b',s'⟩,⟨m',t',mi',f',le'⟩,cb',li',w',o'⟩:=r;unfold evG zqP Y7 QZ at hr
 refine spcG zh mixed Tryz.func46 (by kernel_rfl) { cfgG with rl:=[0],fz:=[83],keep:=some [0,1,2,5,6,8]} [uJ,uI,U4,U3,X0,XZ,yA,yx,yJ,yI,yQ,yP] (by kernel_rfl) ?_
 intro I X hI hX;cases w
 all_goals
  refine orcL ?_;go_invoke;refine orcS (by kernel_rfl) ?_
  simp only [zq,Nat.reduceAdd]
  have hh: ∀ {α:Type} (y:α),I.hid y=y:=fun y=>by subst hI;rfl
  simp only [hh];generalize ansG ⟨l,n,b,s⟩ m t f cb=y at *;obtain⟨⟨y1,y2,y3⟩,⟨y4,y5,y6,y7⟩⟩:=y;subst hI;dsimp only at hr ha ⊢;simp only [nrmA,nrmB,nrlB,reduceCtorEq,V0.agg.injEq,HO.pack.injEq,HO.obj.injEq,HO.abs.injEq,Gh.cn.injEq,Cn.mk.injEq,Hd.mk.injEq]
  (repeat' (first|refine ja ?_ ?_|intro _))<;>first|omega|exact jb|exact jc ‹False›|skip
  all_goals first
   |omega
   |with_reducible assumption
   |exact jM _
   |exact ha.1.1
   |(exact(ha.1.2 _ ‹_›).1)
   |(exact(ha.1.2 _ ‹_›).2)
   |exact ha.2
   |exact hf.1
   |(exact(hf.2 _ ‹_›).1)
   |(exact(hf.2 _ ‹_›).2)
   |(exact(List.not_mem_nil ‹_›).elim)
   |(exact absurd (hw (by with_reducible assumption)) (by decide))
   |(((repeat(first|rewrite [if_pos (by first|omega|assumption|(simp only [*,or_self,or_true,true_or,or_false,false_or,jf,jg,jd,je,and_self,and_true,true_and];done)|(simp only [*];omega)|(simp [*];done)|(simp [*];omega))] at hr|rewrite [if_neg (by first|omega|assumption|(simp only [*,or_self,or_true,true_or,or_false,false_or,jf,jg,jd,je,and_self,and_true,true_and];done)|(simp only [*];omega)|(simp [*];done)|(simp [*];omega))] at hr)));simp only [GE.mk.injEq,Hd.mk.injEq,Sto.mk.injEq,List.nil_append] at hr;obtain⟨⟨rfl,rfl,rfl,rfl⟩,⟨rfl,rfl,rfl,rfl,rfl⟩,rfl,rfl,rfl,rfl⟩:=hr;rfl)
def yV:Know Tryz.prog:=⟨46,XU,zej⟩
def yU:Know Tryz.prog:=⟨46,fun I=>zy I (XU I),zf zej⟩
end Go.Proofs.YtkjepecoodjbmaaGreatDoor
namespace Go.Proofs.YtkjepecoodjbmaaGreatDoor
open Go Go.Sep Go.Ab
theorem zgm {r:Rpl} (h:ROk r):(QZ r).length≤30000:=by
 unfold QZ writeT
 split
 · rename_i hc
   have hw:SL r.status≠[]:=fun e=>by unfold zdq at hc;rw [if_pos e] at hc;exact absurd hc (by decide)
   have h1:=(zbw hw).2.2;have h2:=uO r.status;have h3:=uO (r.body.length:Int);have h4:=zcM r.fields;have h5:=h.1.1;have h6:=h.2;simp only [zju,zr0,jk,jh,ji];omega
 · exact jM _
theorem zjJ (x:GE) (e:Evt):evG x e=⟨(evG ⟨x.q,x.h,x.b,x.i,x.w,[]⟩ e).q,(evG ⟨x.q,x.h,x.b,x.i,x.w,[]⟩ e).h,(evG ⟨x.q,x.h,x.b,x.i,x.w,[]⟩ e).b,(evG ⟨x.q,x.h,x.b,x.i,x.w,[]⟩ e).i,(evG ⟨x.q,x.h,x.b,x.i,x.w,[]⟩ e).w,x.o++(evG ⟨x.q,x.h,x.b,x.i,x.w,[]⟩ e).o⟩:=by
 unfold evG
 repeat' split
 all_goals simp
theorem zv0 {x:GE} (h1:zQ x.q.l x.q.n) (h2:FsOk x.h.fields) (e:Evt):(evG ⟨x.q,x.h,x.b,x.i,x.w,[]⟩ e).o.length≤30000:=by
 unfold evG
 repeat' split
 · exact jM _
 · exact jM _
 · exact zgm (zc5 h1 h2 _)
 · exact zgm (zli _ _ (jM _))
 · exact jM _
def fdK (c:Cn):Int:=if c.q.pos=4 then 18 else 0
def fdO (q:Sto) (c:Cn) (x:Str):Str:=if c.q.pos=4 then [] else(fedE q c x).o
def fdQ (q:Sto) (c:Cn) (x:Str):Sto:=if c.q.pos=4 then q else(fedE q c x).q
def fdC (q:Sto) (c:Cn) (x:Str):Cn:=if c.q.pos=4 then c else fedC q c x
def FdN (q:Sto) (c:Cn) (x:Str):Prop:=∃ (N:Nat) (m:Int),SOk q m∧CnI c N∧N+x.length≤30000∧m+12 * x.length≤199980
structure FdA (x0:GE) (J:List Evt) (i:Nat) (l:List Upl) (n:Int) (b:Str) (s:Int) (c:Cn) (o:Str) (q1:Rq):Prop where
 le:i≤J.length
 ev:(⟨⟨l,n,b,s⟩,c.h,c.body,c.live,c.own,o⟩:GE)=evsG x0 (J.take i)
 cq:c.q=q1
 ol:o.length≤30000 * i
structure FdJ (x0:GE) (J:List Evt):Prop where
 ok: ∃ (N:Nat) (m:Int),EOk x0 m N∧N+zL J≤30000∧m+12 * cnt3 J≤199980
 ob:EvO J
 mw:mayW x0.w J
 o0:x0.o=[]
 ln:J.length≤1000000
theorem zjI (J:List Evt) (i:Nat):zL (J.take i)≤zL J:=by
 have:J=J.take i++J.drop i:=(List.take_append_drop i J).symm;have h:=yF (J.take i) (J.drop i);rw [← this] at h;omega
theorem zrf (J:List Evt) (i:Nat):cnt3 (J.take i)≤cnt3 J:=by
 have h:=rJ (J.take i) (J.drop i);rw [List.take_append_drop] at h;omega
theorem zmg {q:Sto} {c:Cn} {x:Str} (h:FdN q c x):FdJ ⟨q,c.h,c.body,c.live,c.own,[]⟩ (zH (zC c.q x).out)∧rqN0 c.q x:=by
 obtain⟨N,m,h1,h2,h3,h4⟩:=h
 obtain⟨e1,e2,e3,e4⟩:=zqM h2 (b:=x) (by omega)
 exact⟨⟨⟨N,m,⟨h1,h2.2.1,h2.2.2.1⟩,by omega,by omega⟩,e1,(zuA h2 x).1,rfl,by omega⟩,N,h2.1,by omega⟩
theorem ztA {x0:GE} {J:List Evt} (h:FdJ x0 J) (q1:Rq) {l:List Upl} {n:Int} {b:Str} {s:Int} {hd:Hd} {bd:Str} {li w:Bool} (hx:x0=⟨⟨l,n,b,s⟩,hd,bd,li,w,[]⟩):FdA x0 J 0 l n b s ⟨q1,hd,bd,li,w⟩ [] q1:=⟨jM _,by subst hx;rfl,rfl,jM _⟩
theorem TG {x0:GE} {J:List Evt} (hJ:FdJ x0 J) {i:Nat} {l:List Upl} {n:Int} {b:Str} {s:Int} {c:Cn} {o:Str} {q1:Rq} (h:FdA x0 J i l n b s c o q1):zQ l n∧n≤200000 - 20∧b.length≤100000∧FOk c.h.fields∧c.body.length≤30000:=by
 obtain⟨N,m,h1,h2,h3⟩:=hJ.ok;have h4:=zjK (J.take i) h1 fun e he=>hJ.ob e (List.mem_of_mem_take he);rw [← h.ev] at h4;have h5:=zjI J i;have h6:=zrf J i;obtain⟨⟨g1,g2,g3,_⟩,g4,g5⟩:=h4
 exact⟨g1,by dsimp only at g3;omega,g2,g4,by dsimp only at g5;omega⟩
theorem zim {x0:GE} {J:List Evt} (hJ:FdJ x0 J) {i:Nat} {l:List Upl} {n:Int} {b:Str} {s:Int} {c:Cn} {o:Str} {q1:Rq} (h:FdA x0 J i l n b s c o q1) (hi:i<J.length) (d:Evt):
  ((J.getD i d).bytes.length≤1000000∧((J.getD i d).kind=2→c.own=true))∧∀ r,evG ⟨⟨l,n,b,s⟩,c.h,c.body,c.live,c.own,[]⟩ (J.getD i d)=r→r.o.length≤30000∧FdA x0 J (i+1) r.q.l r.q.n r.q.b r.q.s ⟨c.q,r.h,r.b,r.i,r.w⟩ (o++r.o) q1:=by
 have e:J.getD i d=J[i]:=by simp [hi]
 obtain⟨N,m,h1,h2,h3⟩:=hJ.ok;have ok:=TG hJ h;rw [e];refine⟨⟨?_,fun k=> ?_⟩,fun r hr=>⟨?_,hi,?_,h.cq,?_⟩⟩
 · have:=TK (List.getElem_mem hi)
   omega
 · have hw:=zp1 hJ.mw hi k
   rw [← zuE,← h.ev] at hw;exact hw
 · rw [← hr]
   exact zv0 (x:=⟨⟨l,n,b,s⟩,c.h,c.body,c.live,c.own,[]⟩) ok.1 ok.2.2.2.1 _
 · rw [jB hi,Wn,← h.ev]
   show _=evG _ _
   rw [zjJ];dsimp only;rw [hr]
 · have h7:r.o.length≤30000:=by
    rw [← hr];exact zv0 (x:=⟨⟨l,n,b,s⟩,c.h,c.body,c.live,c.own,[]⟩) ok.1 ok.2.2.2.1 _
   have:=h.ol;rw [jk];omega
theorem zfU {q:Sto} {c0:Cn} {x:Str} {l:List Upl} {n:Int} {b:Str} {s:Int} {c:Cn} {o:Str} {i:Nat} (h:FdA ⟨q,c0.h,c0.body,c0.live,c0.own,[]⟩ (zH (zC c0.q x).out) i l n b s c o (zC c0.q x)) (hi: ¬ i<(zH (zC c0.q x).out).length) (hp: ¬ c0.q.pos=4):(⟨l,n,b,s⟩:Sto)=fdQ q c0 x∧c=fdC q c0 x∧o=fdO q c0 x:=by
 have e:=h.ev
 rw [jq (by omega)] at e
 have e':(⟨⟨l,n,b,s⟩,c.h,c.body,c.live,c.own,o⟩:GE)=fedE q c0 x:=e;unfold fdQ fdC fdO fedC;rw [if_neg hp,if_neg hp,if_neg hp,← e'];refine⟨rfl,?_,rfl⟩;have:=h.cq;cases c;simp only at this;rw [this]
end Go.Proofs.YtkjepecoodjbmaaGreatDoor
namespace Go.Proofs.YtkjepecoodjbmaaGreatDoor
open Go Go.Sep Go.Ab
set_option maxRecDepth 100000
def U2 (I:Alg) (args:List D) (hp:List HO):Option CT:=match args,hp with
 |[.v (.one (.ptr 0 0)),.v (.one (.p (.int .i64 0))),.v (.one (.p (.list .byte x)))],[.obj 50 [(.ptr 1 0),(.ptr 2 0),(.ptr 3 0),(.ptr 4 0),(.ptr 5 0)],.pack [.obj 54 [(.ptr 1 0),(.ptr 2 0)],.pack [.obj 124 [(.row 1),(.p (.int .i64 n))],.row .upl 81 l],.pack [.obj 156 [(.row 1),(.p (.int .i64 s))],.row .byte 5 b]],.abs (.cn c0),.abs (.cn c1),.abs (.cn c2),.abs (.cn c3)]=>(fun(l:List Upl) (n:Int) (b:Str) (s:Int) (c0 c1 c2 c3:Cn) (x:Str)=>(some (.one ⟨I.hid (FdN ⟨l,n,b,s⟩ c0 x),(.ret (.tup [(.one (.p (.list .byte (I.hid ((fdO ⟨l,n,b,s⟩ c0 x)))))),(.one (.p (.int .i64 (I.hid ((fdK c0))))))])),[.obj 50 [(.ptr 1 0),(.ptr 2 0),(.ptr 3 0),(.ptr 4 0),(.ptr 5 0)],.pack [.obj 54 [(.ptr 1 0),(.ptr 2 0)],.pack [.obj 124 [(.row 1),(.p (.int .i64 (I.hid ((fdQ ⟨l,n,b,s⟩ c0 x).n))))],.row .upl 81 (I.hid ((fdQ ⟨l,n,b,s⟩ c0 x).l))],.pack [.obj 156 [(.row 1),(.p (.int .i64 (I.hid ((fdQ ⟨l,n,b,s⟩ c0 x).s))))],.row .byte 5 (I.hid ((fdQ ⟨l,n,b,s⟩ c0 x).b))]],.abs (.cn (I.hid ((fdC ⟨l,n,b,s⟩ c0 x)))),.abs (.cn c1),.abs (.cn c2),.abs (.cn c3)]⟩):Option CT)) l n b s c0 c1 c2 c3 x
 |_,_=>none
set_option maxHeartbeats 2000000 in
theorem zhK:zx Tryz.prog 14 (U2 alg):=by
 intro args hp r h;unfold U2 at h;split at h<;>cases h
 rename_i x n l s b c0 c1 c2 c3
 revert l;intro(l:List Upl)
 simp only [CT.Good,zi];intro hneed;obtain⟨hJ,hN⟩:=zmg hneed;have hend:=fun l1 n1 b1 s1 c o i h=>zfU (q:=⟨l,n,b,s⟩) (c0:=c0) (x:=x) (l:=l1) (n:=n1) (b:=b1) (s:=s1) (c:=c) (o:=o) (i:=i) h;have hA0:=ztA hJ (zC c0.q x) (l:=l) (n:=n) (b:=b) (s:=s) rfl
 have hd4:c0.q.pos=4→fdK c0=18∧fdO ⟨l,n,b,s⟩ c0 x=[]∧fdQ ⟨l,n,b,s⟩ c0 x=⟨l,n,b,s⟩∧fdC ⟨l,n,b,s⟩ c0 x=c0:=fun h=>by unfold fdK fdO fdQ fdC;rw [if_pos h,if_pos h,if_pos h,if_pos h];exact⟨rfl,rfl,rfl,rfl⟩
 have hd5: ¬ c0.q.pos=4→fdK c0=0:=fun h=>by unfold fdK;rw [if_neg h]
 generalize fdK c0=rk at *;generalize fdO ⟨l,n,b,s⟩ c0 x=ro at *;generalize fdQ ⟨l,n,b,s⟩ c0 x=rq at *;generalize fdC ⟨l,n,b,s⟩ c0 x=rc at *;obtain⟨l',n',b',s'⟩:=rq;obtain⟨q,⟨m,t,mi,f,le⟩,cb,li,w⟩:=c0;dsimp only at *;generalize hx0:(⟨⟨l,n,b,s⟩,⟨m,t,mi,f,le⟩,cb,li,w,[]⟩:GE)=x0 at *
 refine spcG zh mixed Tryz.func14 (by kernel_rfl) { cfgG with rl:=[0],nr:=[8],keep:=some [0,1,2,6,7,8,10,37,38,39]} [xY,xX,xW,xU,yA,yx,yJ,yI,yQ,yP,yV,yU] (by kernel_rfl) ?_
 intro I X hI hX;clear hneed;cases w
 · refine orcL ?_;go_invoke;refine orcS (by kernel_rfl) ?_
   simp only [zq,Nat.reduceAdd]
   have hh: ∀ {α:Type} (y:α),I.hid y=y:=fun y=>by subst hI;rfl
   simp only [hh];generalize zH (zC q x).out=J at *
   (repeat' (first|refine ja ?_ ?_|intro _))
   all_goals try(subst hI;(simp only [nrmA,nrmB,nrlB,reduceCtorEq,V0.agg.injEq,HO.pack.injEq,HO.obj.injEq,HO.abs.injEq,Gh.cn.injEq] at *);first|done|omega|exact hN|(obtain⟨r1,r2,r3,r4⟩:=hd4 (by omega);simp only [Sto.mk.injEq] at r3;obtain⟨r5,r6,r7,r8⟩:=r3;simp [r1,r2,r4,r5,r6,r7,r8];done))
   have hp: ¬ q.pos=4:=by
    subst hI;simp only [nrmA,nrmB,nrlB,reduceCtorEq] at *;omega
   refine zB hI zh mixed [xY,xX,xW,xU,yA,yx,yJ,yI,yQ,yP,yV,yU] hX [0,1,8,37,38,39] (fun(g:Nat × List Upl × Int × Str × Int × Cn × Str)=>match g with|(i,l1,n1,b1,s1,c,o)=>FdA x0 J i l1 n1 b1 s1 c o (zC q x)) (fun(g:Nat × List Upl × Int × Str × Int × Cn × Str)=>match g with|(i,l1,n1,b1,s1,c,o)=>⟨[(0,.v (.one (.ptr 0 0))),(1,.v (.one (.p (.int .i64 0)))),(8,.v (.one (.row 6))),(37,.v (.one (.row 7))),(38,.v (.one (.p (.int .i64 ((I.len (α:=Evt) J)))))),(39,.v (.one (.p (.int .i64 i))))],[.obj 50 [(.ptr 1 0),(.ptr 2 0),(.ptr 3 0),(.ptr 4 0),(.ptr 5 0)],.pack [.obj 54 [(.ptr 1 0),(.ptr 2 0)],.pack [.obj 124 [(.row 1),(.p (.int .i64 n1))],.row .upl 81 l1],.pack [.obj 156 [(.row 1),(.p (.int .i64 s1))],.row .byte 5 b1]],.abs (.cn c),.abs (.cn c1),.abs (.cn c2),.abs (.cn c3),.row .byte 5 o,.row .evt 34 J],56,none⟩) (fun(g:Nat × List Upl × Int × Str × Int × Cn × Str)=>match g with|(i,l1,n1,b1,s1,c,o)=>J.length - i) (0,l,n,b,s,⟨zC q x,⟨m,t,mi,f,le⟩,cb,li,false⟩,[]) (by kernel_rfl) (by kernel_rfl) ?_ ?_
   · exact hA0
   rintro⟨i,l1,n1,b1,s1,c,o⟩ h1 A hA;simp only at hA h1;have hok:=TG hJ h1;have hol:=h1.ol;have hil:=h1.le;have hln:=hJ.ln;have hS:=fun h=>zim hJ h1 h ⟨0,⟨[],[],0,[],0⟩,[],⟨[],[],[],[]⟩,0⟩;have hend:=hend _ _ _ _ _ _ _ h1
   refine orcL ?_;go_invoke;refine orcS (by kernel_rfl) ?_
   simp only [zq,Nat.reduceAdd]
   have e1:I.get J ⟨0,⟨[],[],0,[],0⟩,[],⟨[],[],[],[]⟩,0⟩ (i:Int)=J.getD i ⟨0,⟨[],[],0,[],0⟩,[],⟨[],[],[],[]⟩,0⟩:=by subst hI;first|rfl|simp
   simp only [e1];generalize J.getD i ⟨0,⟨[],[],0,[],0⟩,[],⟨[],[],[],[]⟩,0⟩=E at *;have e0:(⟨E.kind,⟨E.head.method,E.head.target,E.head.minor,E.head.fields,E.head.length⟩,E.bytes,⟨E.part.name,E.part.file,E.part.type,E.part.bytes⟩,E.code⟩:Evt)=E:=rfl;simp only [e0,hh];generalize hr:evG ⟨⟨l1,n1,b1,s1⟩,c.h,c.body,c.live,c.own,[]⟩ E=r at *;have hd5:=hd5 hp;subst hI;simp only [nrmA,nrmB,nrlB,reduceCtorEq,V0.agg.injEq,HO.pack.injEq,HO.obj.injEq,HO.abs.injEq,Gh.cn.injEq]
   (repeat' (first|refine ja ?_ ?_|intro _))<;>first|omega|exact jb|exact jc ‹False›|skip
   all_goals first
    |omega
    |exact hok.1
    |exact hok.2.2.2.1.1
    |(exact(hok.2.2.2.1.2 _ ‹_›).1)
    |(exact(hok.2.2.2.1.2 _ ‹_›).2)
    |exact(hS (by omega)).1.1
    |exact(hS (by omega)).1.2
    |(exact(hS (by omega)).1.2 ‹_›)
    |(have:=((hS (by omega)).2 _ rfl).1;omega)
    |exact hA (i+1,r.q.l,r.q.n,r.q.b,r.q.s,⟨c.q,r.h,r.b,r.i,r.w⟩,o++r.o) ((hS (by omega)).2 _ rfl).2 (by dsimp only;omega)
    |(obtain⟨r3,r4,r5⟩:=hend (by omega) hp;simp only [Sto.mk.injEq] at r3;obtain⟨r6,r7,r8,r9⟩:=r3;simp [r4,r5,r6,r7,r8,r9,hd5];done)
 · refine orcL ?_;go_invoke;refine orcS (by kernel_rfl) ?_
   simp only [zq,Nat.reduceAdd]
   have hh: ∀ {α:Type} (y:α),I.hid y=y:=fun y=>by subst hI;rfl
   simp only [hh];generalize zH (zC q x).out=J at *
   (repeat' (first|refine ja ?_ ?_|intro _))
   all_goals try(subst hI;(simp only [nrmA,nrmB,nrlB,reduceCtorEq,V0.agg.injEq,HO.pack.injEq,HO.obj.injEq,HO.abs.injEq,Gh.cn.injEq] at *);first|done|omega|exact hN|(obtain⟨r1,r2,r3,r4⟩:=hd4 (by omega);simp only [Sto.mk.injEq] at r3;obtain⟨r5,r6,r7,r8⟩:=r3;simp [r1,r2,r4,r5,r6,r7,r8];done))
   have hp: ¬ q.pos=4:=by
    subst hI;simp only [nrmA,nrmB,nrlB,reduceCtorEq] at *;omega
   refine zB hI zh mixed [xY,xX,xW,xU,yA,yx,yJ,yI,yQ,yP,yV,yU] hX [0,1,8,37,38,39] (fun(g:Nat × List Upl × Int × Str × Int × Cn × Str)=>match g with|(i,l1,n1,b1,s1,c,o)=>FdA x0 J i l1 n1 b1 s1 c o (zC q x)) (fun(g:Nat × List Upl × Int × Str × Int × Cn × Str)=>match g with|(i,l1,n1,b1,s1,c,o)=>⟨[(0,.v (.one (.ptr 0 0))),(1,.v (.one (.p (.int .i64 0)))),(8,.v (.one (.row 6))),(37,.v (.one (.row 7))),(38,.v (.one (.p (.int .i64 ((I.len (α:=Evt) J)))))),(39,.v (.one (.p (.int .i64 i))))],[.obj 50 [(.ptr 1 0),(.ptr 2 0),(.ptr 3 0),(.ptr 4 0),(.ptr 5 0)],.pack [.obj 54 [(.ptr 1 0),(.ptr 2 0)],.pack [.obj 124 [(.row 1),(.p (.int .i64 n1))],.row .upl 81 l1],.pack [.obj 156 [(.row 1),(.p (.int .i64 s1))],.row .byte 5 b1]],.abs (.cn c),.abs (.cn c1),.abs (.cn c2),.abs (.cn c3),.row .byte 5 o,.row .evt 34 J],56,none⟩) (fun(g:Nat × List Upl × Int × Str × Int × Cn × Str)=>match g with|(i,l1,n1,b1,s1,c,o)=>J.length - i) (0,l,n,b,s,⟨zC q x,⟨m,t,mi,f,le⟩,cb,li,true⟩,[]) (by kernel_rfl) (by kernel_rfl) ?_ ?_
   · exact hA0
   rintro⟨i,l1,n1,b1,s1,c,o⟩ h1 A hA;simp only at hA h1;have hok:=TG hJ h1;have hol:=h1.ol;have hil:=h1.le;have hln:=hJ.ln;have hS:=fun h=>zim hJ h1 h ⟨0,⟨[],[],0,[],0⟩,[],⟨[],[],[],[]⟩,0⟩;have hend:=hend _ _ _ _ _ _ _ h1
   refine orcL ?_;go_invoke;refine orcS (by kernel_rfl) ?_
   simp only [zq,Nat.reduceAdd]
   have e1:I.get J ⟨0,⟨[],[],0,[],0⟩,[],⟨[],[],[],[]⟩,0⟩ (i:Int)=J.getD i ⟨0,⟨[],[],0,[],0⟩,[],⟨[],[],[],[]⟩,0⟩:=by subst hI;first|rfl|simp
   simp only [e1];generalize J.getD i ⟨0,⟨[],[],0,[],0⟩,[],⟨[],[],[],[]⟩,0⟩=E at *;have e0:(⟨E.kind,⟨E.head.method,E.head.target,E.head.minor,E.head.fields,E.head.length⟩,E.bytes,⟨E.part.name,E.part.file,E.part.type,E.part.bytes⟩,E.code⟩:Evt)=E:=rfl;simp only [e0,hh];generalize hr:evG ⟨⟨l1,n1,b1,s1⟩,c.h,c.body,c.live,c.own,[]⟩ E=r at *;have hd5:=hd5 hp;subst hI;simp only [nrmA,nrmB,nrlB,reduceCtorEq,V0.agg.injEq,HO.pack.injEq,HO.obj.injEq,HO.abs.injEq,Gh.cn.injEq]
   (repeat' (first|refine ja ?_ ?_|intro _))<;>first|omega|exact jb|exact jc ‹False›|skip
   all_goals first
    |omega
    |exact hok.1
    |exact hok.2.2.2.1.1
    |(exact(hok.2.2.2.1.2 _ ‹_›).1)
    |(exact(hok.2.2.2.1.2 _ ‹_›).2)
    |exact(hS (by omega)).1.1
    |exact(hS (by omega)).1.2
    |(exact(hS (by omega)).1.2 ‹_›)
    |(have:=((hS (by omega)).2 _ rfl).1;omega)
    |exact hA (i+1,r.q.l,r.q.n,r.q.b,r.q.s,⟨c.q,r.h,r.b,r.i,r.w⟩,o++r.o) ((hS (by omega)).2 _ rfl).2 (by dsimp only;omega)
    |(obtain⟨r3,r4,r5⟩:=hend (by omega) hp;simp only [Sto.mk.injEq] at r3;obtain⟨r6,r7,r8,r9⟩:=r3;simp [r4,r5,r6,r7,r8,r9,hd5];done)
def xI:Know Tryz.prog:=⟨14,U2,zhK⟩
def xH:Know Tryz.prog:=⟨14,fun I=>zy I (U2 I),zf zhK⟩
def U1 (I:Alg) (args:List D) (hp:List HO):Option CT:=match args,hp with
 |[.v (.one (.ptr 0 0)),.v (.one (.p (.int .i64 1))),.v (.one (.p (.list .byte x)))],[.obj 50 [(.ptr 1 0),(.ptr 2 0),(.ptr 3 0),(.ptr 4 0),(.ptr 5 0)],.pack [.obj 54 [(.ptr 1 0),(.ptr 2 0)],.pack [.obj 124 [(.row 1),(.p (.int .i64 n))],.row .upl 81 l],.pack [.obj 156 [(.row 1),(.p (.int .i64 s))],.row .byte 5 b]],.abs (.cn c0),.abs (.cn c1),.abs (.cn c2),.abs (.cn c3)]=>(fun(l:List Upl) (n:Int) (b:Str) (s:Int) (c0 c1 c2 c3:Cn) (x:Str)=>(some (.one ⟨I.hid (FdN ⟨l,n,b,s⟩ c1 x),(.ret (.tup [(.one (.p (.list .byte (I.hid ((fdO ⟨l,n,b,s⟩ c1 x)))))),(.one (.p (.int .i64 (I.hid ((fdK c1))))))])),[.obj 50 [(.ptr 1 0),(.ptr 2 0),(.ptr 3 0),(.ptr 4 0),(.ptr 5 0)],.pack [.obj 54 [(.ptr 1 0),(.ptr 2 0)],.pack [.obj 124 [(.row 1),(.p (.int .i64 (I.hid ((fdQ ⟨l,n,b,s⟩ c1 x).n))))],.row .upl 81 (I.hid ((fdQ ⟨l,n,b,s⟩ c1 x).l))],.pack [.obj 156 [(.row 1),(.p (.int .i64 (I.hid ((fdQ ⟨l,n,b,s⟩ c1 x).s))))],.row .byte 5 (I.hid ((fdQ ⟨l,n,b,s⟩ c1 x).b))]],.abs (.cn c0),.abs (.cn (I.hid ((fdC ⟨l,n,b,s⟩ c1 x)))),.abs (.cn c2),.abs (.cn c3)]⟩):Option CT)) l n b s c0 c1 c2 c3 x
 |_,_=>none
set_option maxHeartbeats 2000000 in
theorem zhJ:zx Tryz.prog 14 (U1 alg):=by
 intro args hp r h;unfold U1 at h;split at h<;>cases h
 rename_i x n l s b c0 c1 c2 c3
 revert l;intro(l:List Upl)
 simp only [CT.Good,zi];intro hneed;obtain⟨hJ,hN⟩:=zmg hneed;have hend:=fun l1 n1 b1 s1 c o i h=>zfU (q:=⟨l,n,b,s⟩) (c0:=c1) (x:=x) (l:=l1) (n:=n1) (b:=b1) (s:=s1) (c:=c) (o:=o) (i:=i) h;have hA0:=ztA hJ (zC c1.q x) (l:=l) (n:=n) (b:=b) (s:=s) rfl
 have hd4:c1.q.pos=4→fdK c1=18∧fdO ⟨l,n,b,s⟩ c1 x=[]∧fdQ ⟨l,n,b,s⟩ c1 x=⟨l,n,b,s⟩∧fdC ⟨l,n,b,s⟩ c1 x=c1:=fun h=>by unfold fdK fdO fdQ fdC;rw [if_pos h,if_pos h,if_pos h,if_pos h];exact⟨rfl,rfl,rfl,rfl⟩
 have hd5: ¬ c1.q.pos=4→fdK c1=0:=fun h=>by unfold fdK;rw [if_neg h]
 generalize fdK c1=rk at *;generalize fdO ⟨l,n,b,s⟩ c1 x=ro at *;generalize fdQ ⟨l,n,b,s⟩ c1 x=rq at *;generalize fdC ⟨l,n,b,s⟩ c1 x=rc at *;obtain⟨l',n',b',s'⟩:=rq;obtain⟨q,⟨m,t,mi,f,le⟩,cb,li,w⟩:=c1;dsimp only at *;generalize hx0:(⟨⟨l,n,b,s⟩,⟨m,t,mi,f,le⟩,cb,li,w,[]⟩:GE)=x0 at *
 refine spcG zh mixed Tryz.func14 (by kernel_rfl) { cfgG with rl:=[0],nr:=[8],keep:=some [0,1,2,6,7,8,10,37,38,39]} [xY,xX,xW,xU,yA,yx,yJ,yI,yQ,yP,yV,yU,xI,xH] (by kernel_rfl) ?_
 intro I X hI hX;clear hneed;cases w
 · refine orcL ?_;go_invoke;refine orcS (by kernel_rfl) ?_
   simp only [zq,Nat.reduceAdd]
   have hh: ∀ {α:Type} (y:α),I.hid y=y:=fun y=>by subst hI;rfl
   simp only [hh];generalize zH (zC q x).out=J at *
   (repeat' (first|refine ja ?_ ?_|intro _))
   all_goals try(subst hI;(simp only [nrmA,nrmB,nrlB,reduceCtorEq,V0.agg.injEq,HO.pack.injEq,HO.obj.injEq,HO.abs.injEq,Gh.cn.injEq] at *);first|done|omega|exact hN|(obtain⟨r1,r2,r3,r4⟩:=hd4 (by omega);simp only [Sto.mk.injEq] at r3;obtain⟨r5,r6,r7,r8⟩:=r3;simp [r1,r2,r4,r5,r6,r7,r8];done))
   have hp: ¬ q.pos=4:=by
    subst hI;simp only [nrmA,nrmB,nrlB,reduceCtorEq] at *;omega
   refine zB hI zh mixed [xY,xX,xW,xU,yA,yx,yJ,yI,yQ,yP,yV,yU,xI,xH] hX [0,1,8,37,38,39] (fun(g:Nat × List Upl × Int × Str × Int × Cn × Str)=>match g with|(i,l1,n1,b1,s1,c,o)=>FdA x0 J i l1 n1 b1 s1 c o (zC q x)) (fun(g:Nat × List Upl × Int × Str × Int × Cn × Str)=>match g with|(i,l1,n1,b1,s1,c,o)=>⟨[(0,.v (.one (.ptr 0 0))),(1,.v (.one (.p (.int .i64 1)))),(8,.v (.one (.row 6))),(37,.v (.one (.row 7))),(38,.v (.one (.p (.int .i64 ((I.len (α:=Evt) J)))))),(39,.v (.one (.p (.int .i64 i))))],[.obj 50 [(.ptr 1 0),(.ptr 2 0),(.ptr 3 0),(.ptr 4 0),(.ptr 5 0)],.pack [.obj 54 [(.ptr 1 0),(.ptr 2 0)],.pack [.obj 124 [(.row 1),(.p (.int .i64 n1))],.row .upl 81 l1],.pack [.obj 156 [(.row 1),(.p (.int .i64 s1))],.row .byte 5 b1]],.abs (.cn c0),.abs (.cn c),.abs (.cn c2),.abs (.cn c3),.row .byte 5 o,.row .evt 34 J],56,none⟩) (fun(g:Nat × List Upl × Int × Str × Int × Cn × Str)=>match g with|(i,l1,n1,b1,s1,c,o)=>J.length - i) (0,l,n,b,s,⟨zC q x,⟨m,t,mi,f,le⟩,cb,li,false⟩,[]) (by kernel_rfl) (by kernel_rfl) ?_ ?_
   · exact hA0
   rintro⟨i,l1,n1,b1,s1,c,o⟩ h1 A hA;simp only at hA h1;have hok:=TG hJ h1;have hol:=h1.ol;have hil:=h1.le;have hln:=hJ.ln;have hS:=fun h=>zim hJ h1 h ⟨0,⟨[],[],0,[],0⟩,[],⟨[],[],[],[]⟩,0⟩;have hend:=hend _ _ _ _ _ _ _ h1
   refine orcL ?_;go_invoke;refine orcS (by kernel_rfl) ?_
   simp only [zq,Nat.reduceAdd]
   have e1:I.get J ⟨0,⟨[],[],0,[],0⟩,[],⟨[],[],[],[]⟩,0⟩ (i:Int)=J.getD i ⟨0,⟨[],[],0,[],0⟩,[],⟨[],[],[],[]⟩,0⟩:=by subst hI;first|rfl|simp
   simp only [e1];generalize J.getD i ⟨0,⟨[],[],0,[],0⟩,[],⟨[],[],[],[]⟩,0⟩=E at *;have e0:(⟨E.kind,⟨E.head.method,E.head.target,E.head.minor,E.head.fields,E.head.length⟩,E.bytes,⟨E.part.name,E.part.file,E.part.type,E.part.bytes⟩,E.code⟩:Evt)=E:=rfl;simp only [e0,hh];generalize hr:evG ⟨⟨l1,n1,b1,s1⟩,c.h,c.body,c.live,c.own,[]⟩ E=r at *;have hd5:=hd5 hp;subst hI;simp only [nrmA,nrmB,nrlB,reduceCtorEq,V0.agg.injEq,HO.pack.injEq,HO.obj.injEq,HO.abs.injEq,Gh.cn.injEq]
   (repeat' (first|refine ja ?_ ?_|intro _))<;>first|omega|exact jb|exact jc ‹False›|skip
   all_goals first
    |omega
    |exact hok.1
    |exact hok.2.2.2.1.1
    |(exact(hok.2.2.2.1.2 _ ‹_›).1)
    |(exact(hok.2.2.2.1.2 _ ‹_›).2)
    |exact(hS (by omega)).1.1
    |exact(hS (by omega)).1.2
    |(exact(hS (by omega)).1.2 ‹_›)
    |(have:=((hS (by omega)).2 _ rfl).1;omega)
    |exact hA (i+1,r.q.l,r.q.n,r.q.b,r.q.s,⟨c.q,r.h,r.b,r.i,r.w⟩,o++r.o) ((hS (by omega)).2 _ rfl).2 (by dsimp only;omega)
    |(obtain⟨r3,r4,r5⟩:=hend (by omega) hp;simp only [Sto.mk.injEq] at r3;obtain⟨r6,r7,r8,r9⟩:=r3;simp [r4,r5,r6,r7,r8,r9,hd5];done)
 · refine orcL ?_;go_invoke;refine orcS (by kernel_rfl) ?_
   simp only [zq,Nat.reduceAdd]
   have hh: ∀ {α:Type} (y:α),I.hid y=y:=fun y=>by subst hI;rfl
   simp only [hh];generalize zH (zC q x).out=J at *
   (repeat' (first|refine ja ?_ ?_|intro _))
   all_goals try(subst hI;(simp only [nrmA,nrmB,nrlB,reduceCtorEq,V0.agg.injEq,HO.pack.injEq,HO.obj.injEq,HO.abs.injEq,Gh.cn.injEq] at *);first|done|omega|exact hN|(obtain⟨r1,r2,r3,r4⟩:=hd4 (by omega);simp only [Sto.mk.injEq] at r3;obtain⟨r5,r6,r7,r8⟩:=r3;simp [r1,r2,r4,r5,r6,r7,r8];done))
   have hp: ¬ q.pos=4:=by
    subst hI;simp only [nrmA,nrmB,nrlB,reduceCtorEq] at *;omega
   refine zB hI zh mixed [xY,xX,xW,xU,yA,yx,yJ,yI,yQ,yP,yV,yU,xI,xH] hX [0,1,8,37,38,39] (fun(g:Nat × List Upl × Int × Str × Int × Cn × Str)=>match g with|(i,l1,n1,b1,s1,c,o)=>FdA x0 J i l1 n1 b1 s1 c o (zC q x)) (fun(g:Nat × List Upl × Int × Str × Int × Cn × Str)=>match g with|(i,l1,n1,b1,s1,c,o)=>⟨[(0,.v (.one (.ptr 0 0))),(1,.v (.one (.p (.int .i64 1)))),(8,.v (.one (.row 6))),(37,.v (.one (.row 7))),(38,.v (.one (.p (.int .i64 ((I.len (α:=Evt) J)))))),(39,.v (.one (.p (.int .i64 i))))],[.obj 50 [(.ptr 1 0),(.ptr 2 0),(.ptr 3 0),(.ptr 4 0),(.ptr 5 0)],.pack [.obj 54 [(.ptr 1 0),(.ptr 2 0)],.pack [.obj 124 [(.row 1),(.p (.int .i64 n1))],.row .upl 81 l1],.pack [.obj 156 [(.row 1),(.p (.int .i64 s1))],.row .byte 5 b1]],.abs (.cn c0),.abs (.cn c),.abs (.cn c2),.abs (.cn c3),.row .byte 5 o,.row .evt 34 J],56,none⟩) (fun(g:Nat × List Upl × Int × Str × Int × Cn × Str)=>match g with|(i,l1,n1,b1,s1,c,o)=>J.length - i) (0,l,n,b,s,⟨zC q x,⟨m,t,mi,f,le⟩,cb,li,true⟩,[]) (by kernel_rfl) (by kernel_rfl) ?_ ?_
   · exact hA0
   rintro⟨i,l1,n1,b1,s1,c,o⟩ h1 A hA;simp only at hA h1;have hok:=TG hJ h1;have hol:=h1.ol;have hil:=h1.le;have hln:=hJ.ln;have hS:=fun h=>zim hJ h1 h ⟨0,⟨[],[],0,[],0⟩,[],⟨[],[],[],[]⟩,0⟩;have hend:=hend _ _ _ _ _ _ _ h1
   refine orcL ?_;go_invoke;refine orcS (by kernel_rfl) ?_
   simp only [zq,Nat.reduceAdd]
   have e1:I.get J ⟨0,⟨[],[],0,[],0⟩,[],⟨[],[],[],[]⟩,0⟩ (i:Int)=J.getD i ⟨0,⟨[],[],0,[],0⟩,[],⟨[],[],[],[]⟩,0⟩:=by subst hI;first|rfl|simp
   simp only [e1];generalize J.getD i ⟨0,⟨[],[],0,[],0⟩,[],⟨[],[],[],[]⟩,0⟩=E at *;have e0:(⟨E.kind,⟨E.head.method,E.head.target,E.head.minor,E.head.fields,E.head.length⟩,E.bytes,⟨E.part.name,E.part.file,E.part.type,E.part.bytes⟩,E.code⟩:Evt)=E:=rfl;simp only [e0,hh];generalize hr:evG ⟨⟨l1,n1,b1,s1⟩,c.h,c.body,c.live,c.own,[]⟩ E=r at *;have hd5:=hd5 hp;subst hI;simp only [nrmA,nrmB,nrlB,reduceCtorEq,V0.agg.injEq,HO.pack.injEq,HO.obj.injEq,HO.abs.injEq,Gh.cn.injEq]
   (repeat' (first|refine ja ?_ ?_|intro _))<;>first|omega|exact jb|exact jc ‹False›|skip
   all_goals first
    |omega
    |exact hok.1
    |exact hok.2.2.2.1.1
    |(exact(hok.2.2.2.1.2 _ ‹_›).1)
    |(exact(hok.2.2.2.1.2 _ ‹_›).2)
    |exact(hS (by omega)).1.1
    |exact(hS (by omega)).1.2
    |(exact(hS (by omega)).1.2 ‹_›)
    |(have:=((hS (by omega)).2 _ rfl).1;omega)
    |exact hA (i+1,r.q.l,r.q.n,r.q.b,r.q.s,⟨c.q,r.h,r.b,r.i,r.w⟩,o++r.o) ((hS (by omega)).2 _ rfl).2 (by dsimp only;omega)
    |(obtain⟨r3,r4,r5⟩:=hend (by omega) hp;simp only [Sto.mk.injEq] at r3;obtain⟨r6,r7,r8,r9⟩:=r3;simp [r4,r5,r6,r7,r8,r9,hd5];done)
def vG:Know Tryz.prog:=⟨14,U1,zhJ⟩
def vF:Know Tryz.prog:=⟨14,fun I=>zy I (U1 I),zf zhJ⟩
def U0 (I:Alg) (args:List D) (hp:List HO):Option CT:=match args,hp with
 |[.v (.one (.ptr 0 0)),.v (.one (.p (.int .i64 2))),.v (.one (.p (.list .byte x)))],[.obj 50 [(.ptr 1 0),(.ptr 2 0),(.ptr 3 0),(.ptr 4 0),(.ptr 5 0)],.pack [.obj 54 [(.ptr 1 0),(.ptr 2 0)],.pack [.obj 124 [(.row 1),(.p (.int .i64 n))],.row .upl 81 l],.pack [.obj 156 [(.row 1),(.p (.int .i64 s))],.row .byte 5 b]],.abs (.cn c0),.abs (.cn c1),.abs (.cn c2),.abs (.cn c3)]=>(fun(l:List Upl) (n:Int) (b:Str) (s:Int) (c0 c1 c2 c3:Cn) (x:Str)=>(some (.one ⟨I.hid (FdN ⟨l,n,b,s⟩ c2 x),(.ret (.tup [(.one (.p (.list .byte (I.hid ((fdO ⟨l,n,b,s⟩ c2 x)))))),(.one (.p (.int .i64 (I.hid ((fdK c2))))))])),[.obj 50 [(.ptr 1 0),(.ptr 2 0),(.ptr 3 0),(.ptr 4 0),(.ptr 5 0)],.pack [.obj 54 [(.ptr 1 0),(.ptr 2 0)],.pack [.obj 124 [(.row 1),(.p (.int .i64 (I.hid ((fdQ ⟨l,n,b,s⟩ c2 x).n))))],.row .upl 81 (I.hid ((fdQ ⟨l,n,b,s⟩ c2 x).l))],.pack [.obj 156 [(.row 1),(.p (.int .i64 (I.hid ((fdQ ⟨l,n,b,s⟩ c2 x).s))))],.row .byte 5 (I.hid ((fdQ ⟨l,n,b,s⟩ c2 x).b))]],.abs (.cn c0),.abs (.cn c1),.abs (.cn (I.hid ((fdC ⟨l,n,b,s⟩ c2 x)))),.abs (.cn c3)]⟩):Option CT)) l n b s c0 c1 c2 c3 x
 |_,_=>none
set_option maxHeartbeats 2000000 in
theorem zhI:zx Tryz.prog 14 (U0 alg):=by
 intro args hp r h;unfold U0 at h;split at h<;>cases h
 rename_i x n l s b c0 c1 c2 c3
 revert l;intro(l:List Upl)
 simp only [CT.Good,zi];intro hneed;obtain⟨hJ,hN⟩:=zmg hneed;have hend:=fun l1 n1 b1 s1 c o i h=>zfU (q:=⟨l,n,b,s⟩) (c0:=c2) (x:=x) (l:=l1) (n:=n1) (b:=b1) (s:=s1) (c:=c) (o:=o) (i:=i) h;have hA0:=ztA hJ (zC c2.q x) (l:=l) (n:=n) (b:=b) (s:=s) rfl
 have hd4:c2.q.pos=4→fdK c2=18∧fdO ⟨l,n,b,s⟩ c2 x=[]∧fdQ ⟨l,n,b,s⟩ c2 x=⟨l,n,b,s⟩∧fdC ⟨l,n,b,s⟩ c2 x=c2:=fun h=>by unfold fdK fdO fdQ fdC;rw [if_pos h,if_pos h,if_pos h,if_pos h];exact⟨rfl,rfl,rfl,rfl⟩
 have hd5: ¬ c2.q.pos=4→fdK c2=0:=fun h=>by unfold fdK;rw [if_neg h]
 generalize fdK c2=rk at *;generalize fdO ⟨l,n,b,s⟩ c2 x=ro at *;generalize fdQ ⟨l,n,b,s⟩ c2 x=rq at *;generalize fdC ⟨l,n,b,s⟩ c2 x=rc at *;obtain⟨l',n',b',s'⟩:=rq;obtain⟨q,⟨m,t,mi,f,le⟩,cb,li,w⟩:=c2;dsimp only at *;generalize hx0:(⟨⟨l,n,b,s⟩,⟨m,t,mi,f,le⟩,cb,li,w,[]⟩:GE)=x0 at *
 refine spcG zh mixed Tryz.func14 (by kernel_rfl) { cfgG with rl:=[0],nr:=[8],keep:=some [0,1,2,6,7,8,10,37,38,39]} [xY,xX,xW,xU,yA,yx,yJ,yI,yQ,yP,yV,yU,xI,xH,vG,vF] (by kernel_rfl) ?_
 intro I X hI hX;clear hneed;cases w
 · refine orcL ?_;go_invoke;refine orcS (by kernel_rfl) ?_
   simp only [zq,Nat.reduceAdd]
   have hh: ∀ {α:Type} (y:α),I.hid y=y:=fun y=>by subst hI;rfl
   simp only [hh];generalize zH (zC q x).out=J at *
   (repeat' (first|refine ja ?_ ?_|intro _))
   all_goals try(subst hI;(simp only [nrmA,nrmB,nrlB,reduceCtorEq,V0.agg.injEq,HO.pack.injEq,HO.obj.injEq,HO.abs.injEq,Gh.cn.injEq] at *);first|done|omega|exact hN|(obtain⟨r1,r2,r3,r4⟩:=hd4 (by omega);simp only [Sto.mk.injEq] at r3;obtain⟨r5,r6,r7,r8⟩:=r3;simp [r1,r2,r4,r5,r6,r7,r8];done))
   have hp: ¬ q.pos=4:=by
    subst hI;simp only [nrmA,nrmB,nrlB,reduceCtorEq] at *;omega
   refine zB hI zh mixed [xY,xX,xW,xU,yA,yx,yJ,yI,yQ,yP,yV,yU,xI,xH,vG,vF] hX [0,1,8,37,38,39] (fun(g:Nat × List Upl × Int × Str × Int × Cn × Str)=>match g with|(i,l1,n1,b1,s1,c,o)=>FdA x0 J i l1 n1 b1 s1 c o (zC q x)) (fun(g:Nat × List Upl × Int × Str × Int × Cn × Str)=>match g with|(i,l1,n1,b1,s1,c,o)=>⟨[(0,.v (.one (.ptr 0 0))),(1,.v (.one (.p (.int .i64 2)))),(8,.v (.one (.row 6))),(37,.v (.one (.row 7))),(38,.v (.one (.p (.int .i64 ((I.len (α:=Evt) J)))))),(39,.v (.one (.p (.int .i64 i))))],[.obj 50 [(.ptr 1 0),(.ptr 2 0),(.ptr 3 0),(.ptr 4 0),(.ptr 5 0)],.pack [.obj 54 [(.ptr 1 0),(.ptr 2 0)],.pack [.obj 124 [(.row 1),(.p (.int .i64 n1))],.row .upl 81 l1],.pack [.obj 156 [(.row 1),(.p (.int .i64 s1))],.row .byte 5 b1]],.abs (.cn c0),.abs (.cn c1),.abs (.cn c),.abs (.cn c3),.row .byte 5 o,.row .evt 34 J],56,none⟩) (fun(g:Nat × List Upl × Int × Str × Int × Cn × Str)=>match g with|(i,l1,n1,b1,s1,c,o)=>J.length - i) (0,l,n,b,s,⟨zC q x,⟨m,t,mi,f,le⟩,cb,li,false⟩,[]) (by kernel_rfl) (by kernel_rfl) ?_ ?_
   · exact hA0
   rintro⟨i,l1,n1,b1,s1,c,o⟩ h1 A hA;simp only at hA h1;have hok:=TG hJ h1;have hol:=h1.ol;have hil:=h1.le;have hln:=hJ.ln;have hS:=fun h=>zim hJ h1 h ⟨0,⟨[],[],0,[],0⟩,[],⟨[],[],[],[]⟩,0⟩;have hend:=hend _ _ _ _ _ _ _ h1
   refine orcL ?_;go_invoke;refine orcS (by kernel_rfl) ?_
   simp only [zq,Nat.reduceAdd]
   have e1:I.get J ⟨0,⟨[],[],0,[],0⟩,[],⟨[],[],[],[]⟩,0⟩ (i:Int)=J.getD i ⟨0,⟨[],[],0,[],0⟩,[],⟨[],[],[],[]⟩,0⟩:=by subst hI;first|rfl|simp
   simp only [e1];generalize J.getD i ⟨0,⟨[],[],0,[],0⟩,[],⟨[],[],[],[]⟩,0⟩=E at *;have e0:(⟨E.kind,⟨E.head.method,E.head.target,E.head.minor,E.head.fields,E.head.length⟩,E.bytes,⟨E.part.name,E.part.file,E.part.type,E.part.bytes⟩,E.code⟩:Evt)=E:=rfl;simp only [e0,hh];generalize hr:evG ⟨⟨l1,n1,b1,s1⟩,c.h,c.body,c.live,c.own,[]⟩ E=r at *;have hd5:=hd5 hp;subst hI;simp only [nrmA,nrmB,nrlB,reduceCtorEq,V0.agg.injEq,HO.pack.injEq,HO.obj.injEq,HO.abs.injEq,Gh.cn.injEq]
   (repeat' (first|refine ja ?_ ?_|intro _))<;>first|omega|exact jb|exact jc ‹False›|skip
   all_goals first
    |omega
    |exact hok.1
    |exact hok.2.2.2.1.1
    |(exact(hok.2.2.2.1.2 _ ‹_›).1)
    |(exact(hok.2.2.2.1.2 _ ‹_›).2)
    |exact(hS (by omega)).1.1
    |exact(hS (by omega)).1.2
    |(exact(hS (by omega)).1.2 ‹_›)
    |(have:=((hS (by omega)).2 _ rfl).1;omega)
    |exact hA (i+1,r.q.l,r.q.n,r.q.b,r.q.s,⟨c.q,r.h,r.b,r.i,r.w⟩,o++r.o) ((hS (by omega)).2 _ rfl).2 (by dsimp only;omega)
    |(obtain⟨r3,r4,r5⟩:=hend (by omega) hp;simp only [Sto.mk.injEq] at r3;obtain⟨r6,r7,r8,r9⟩:=r3;simp [r4,r5,r6,r7,r8,r9,hd5];done)
 · refine orcL ?_;go_invoke;refine orcS (by kernel_rfl) ?_
   simp only [zq,Nat.reduceAdd]
   have hh: ∀ {α:Type} (y:α),I.hid y=y:=fun y=>by subst hI;rfl
   simp only [hh];generalize zH (zC q x).out=J at *
   (repeat' (first|refine ja ?_ ?_|intro _))
   all_goals try(subst hI;(simp only [nrmA,nrmB,nrlB,reduceCtorEq,V0.agg.injEq,HO.pack.injEq,HO.obj.injEq,HO.abs.injEq,Gh.cn.injEq] at *);first|done|omega|exact hN|(obtain⟨r1,r2,r3,r4⟩:=hd4 (by omega);simp only [Sto.mk.injEq] at r3;obtain⟨r5,r6,r7,r8⟩:=r3;simp [r1,r2,r4,r5,r6,r7,r8];done))
   have hp: ¬ q.pos=4:=by
    subst hI;simp only [nrmA,nrmB,nrlB,reduceCtorEq] at *;omega
   refine zB hI zh mixed [xY,xX,xW,xU,yA,yx,yJ,yI,yQ,yP,yV,yU,xI,xH,vG,vF] hX [0,1,8,37,38,39] (fun(g:Nat × List Upl × Int × Str × Int × Cn × Str)=>match g with|(i,l1,n1,b1,s1,c,o)=>FdA x0 J i l1 n1 b1 s1 c o (zC q x)) (fun(g:Nat × List Upl × Int × Str × Int × Cn × Str)=>match g with|(i,l1,n1,b1,s1,c,o)=>⟨[(0,.v (.one (.ptr 0 0))),(1,.v (.one (.p (.int .i64 2)))),(8,.v (.one (.row 6))),(37,.v (.one (.row 7))),(38,.v (.one (.p (.int .i64 ((I.len (α:=Evt) J)))))),(39,.v (.one (.p (.int .i64 i))))],[.obj 50 [(.ptr 1 0),(.ptr 2 0),(.ptr 3 0),(.ptr 4 0),(.ptr 5 0)],.pack [.obj 54 [(.ptr 1 0),(.ptr 2 0)],.pack [.obj 124 [(.row 1),(.p (.int .i64 n1))],.row .upl 81 l1],.pack [.obj 156 [(.row 1),(.p (.int .i64 s1))],.row .byte 5 b1]],.abs (.cn c0),.abs (.cn c1),.abs (.cn c),.abs (.cn c3),.row .byte 5 o,.row .evt 34 J],56,none⟩) (fun(g:Nat × List Upl × Int × Str × Int × Cn × Str)=>match g with|(i,l1,n1,b1,s1,c,o)=>J.length - i) (0,l,n,b,s,⟨zC q x,⟨m,t,mi,f,le⟩,cb,li,true⟩,[]) (by kernel_rfl) (by kernel_rfl) ?_ ?_
   · exact hA0
   rintro⟨i,l1,n1,b1,s1,c,o⟩ h1 A hA;simp only at hA h1;have hok:=TG hJ h1;have hol:=h1.ol;have hil:=h1.le;have hln:=hJ.ln;have hS:=fun h=>zim hJ h1 h ⟨0,⟨[],[],0,[],0⟩,[],⟨[],[],[],[]⟩,0⟩;have hend:=hend _ _ _ _ _ _ _ h1
   refine orcL ?_;go_invoke;refine orcS (by kernel_rfl) ?_
   simp only [zq,Nat.reduceAdd]
   have e1:I.get J ⟨0,⟨[],[],0,[],0⟩,[],⟨[],[],[],[]⟩,0⟩ (i:Int)=J.getD i ⟨0,⟨[],[],0,[],0⟩,[],⟨[],[],[],[]⟩,0⟩:=by subst hI;first|rfl|simp
   simp only [e1];generalize J.getD i ⟨0,⟨[],[],0,[],0⟩,[],⟨[],[],[],[]⟩,0⟩=E at *;have e0:(⟨E.kind,⟨E.head.method,E.head.target,E.head.minor,E.head.fields,E.head.length⟩,E.bytes,⟨E.part.name,E.part.file,E.part.type,E.part.bytes⟩,E.code⟩:Evt)=E:=rfl;simp only [e0,hh];generalize hr:evG ⟨⟨l1,n1,b1,s1⟩,c.h,c.body,c.live,c.own,[]⟩ E=r at *;have hd5:=hd5 hp;subst hI;simp only [nrmA,nrmB,nrlB,reduceCtorEq,V0.agg.injEq,HO.pack.injEq,HO.obj.injEq,HO.abs.injEq,Gh.cn.injEq]
   (repeat' (first|refine ja ?_ ?_|intro _))<;>first|omega|exact jb|exact jc ‹False›|skip
   all_goals first
    |omega
    |exact hok.1
    |exact hok.2.2.2.1.1
    |(exact(hok.2.2.2.1.2 _ ‹_›).1)
    |(exact(hok.2.2.2.1.2 _ ‹_›).2)
    |exact(hS (by omega)).1.1
    |exact(hS (by omega)).1.2
    |(exact(hS (by omega)).1.2 ‹_›)
    |(have:=((hS (by omega)).2 _ rfl).1;omega)
    |exact hA (i+1,r.q.l,r.q.n,r.q.b,r.q.s,⟨c.q,r.h,r.b,r.i,r.w⟩,o++r.o) ((hS (by omega)).2 _ rfl).2 (by dsimp only;omega)
    |(obtain⟨r3,r4,r5⟩:=hend (by omega) hp;simp only [Sto.mk.injEq] at r3;obtain⟨r6,r7,r8,r9⟩:=r3;simp [r4,r5,r6,r7,r8,r9,hd5];done)
def tY:Know Tryz.prog:=⟨14,U0,zhI⟩
def tX:Know Tryz.prog:=⟨14,fun I=>zy I (U0 I),zf zhI⟩
def UZ (I:Alg) (args:List D) (hp:List HO):Option CT:=match args,hp with
 |[.v (.one (.ptr 0 0)),.v (.one (.p (.int .i64 3))),.v (.one (.p (.list .byte x)))],[.obj 50 [(.ptr 1 0),(.ptr 2 0),(.ptr 3 0),(.ptr 4 0),(.ptr 5 0)],.pack [.obj 54 [(.ptr 1 0),(.ptr 2 0)],.pack [.obj 124 [(.row 1),(.p (.int .i64 n))],.row .upl 81 l],.pack [.obj 156 [(.row 1),(.p (.int .i64 s))],.row .byte 5 b]],.abs (.cn c0),.abs (.cn c1),.abs (.cn c2),.abs (.cn c3)]=>(fun(l:List Upl) (n:Int) (b:Str) (s:Int) (c0 c1 c2 c3:Cn) (x:Str)=>(some (.one ⟨I.hid (FdN ⟨l,n,b,s⟩ c3 x),(.ret (.tup [(.one (.p (.list .byte (I.hid ((fdO ⟨l,n,b,s⟩ c3 x)))))),(.one (.p (.int .i64 (I.hid ((fdK c3))))))])),[.obj 50 [(.ptr 1 0),(.ptr 2 0),(.ptr 3 0),(.ptr 4 0),(.ptr 5 0)],.pack [.obj 54 [(.ptr 1 0),(.ptr 2 0)],.pack [.obj 124 [(.row 1),(.p (.int .i64 (I.hid ((fdQ ⟨l,n,b,s⟩ c3 x).n))))],.row .upl 81 (I.hid ((fdQ ⟨l,n,b,s⟩ c3 x).l))],.pack [.obj 156 [(.row 1),(.p (.int .i64 (I.hid ((fdQ ⟨l,n,b,s⟩ c3 x).s))))],.row .byte 5 (I.hid ((fdQ ⟨l,n,b,s⟩ c3 x).b))]],.abs (.cn c0),.abs (.cn c1),.abs (.cn c2),.abs (.cn (I.hid ((fdC ⟨l,n,b,s⟩ c3 x))))]⟩):Option CT)) l n b s c0 c1 c2 c3 x
 |_,_=>none
set_option maxHeartbeats 2000000 in
theorem zhH:zx Tryz.prog 14 (UZ alg):=by
 intro args hp r h;unfold UZ at h;split at h<;>cases h
 rename_i x n l s b c0 c1 c2 c3
 revert l;intro(l:List Upl)
 simp only [CT.Good,zi];intro hneed;obtain⟨hJ,hN⟩:=zmg hneed;have hend:=fun l1 n1 b1 s1 c o i h=>zfU (q:=⟨l,n,b,s⟩) (c0:=c3) (x:=x) (l:=l1) (n:=n1) (b:=b1) (s:=s1) (c:=c) (o:=o) (i:=i) h;have hA0:=ztA hJ (zC c3.q x) (l:=l) (n:=n) (b:=b) (s:=s) rfl
 have hd4:c3.q.pos=4→fdK c3=18∧fdO ⟨l,n,b,s⟩ c3 x=[]∧fdQ ⟨l,n,b,s⟩ c3 x=⟨l,n,b,s⟩∧fdC ⟨l,n,b,s⟩ c3 x=c3:=fun h=>by unfold fdK fdO fdQ fdC;rw [if_pos h,if_pos h,if_pos h,if_pos h];exact⟨rfl,rfl,rfl,rfl⟩
 have hd5: ¬ c3.q.pos=4→fdK c3=0:=fun h=>by unfold fdK;rw [if_neg h]
 generalize fdK c3=rk at *;generalize fdO ⟨l,n,b,s⟩ c3 x=ro at *;generalize fdQ ⟨l,n,b,s⟩ c3 x=rq at *;generalize fdC ⟨l,n,b,s⟩ c3 x=rc at *;obtain⟨l',n',b',s'⟩:=rq;obtain⟨q,⟨m,t,mi,f,le⟩,cb,li,w⟩:=c3;dsimp only at *;generalize hx0:(⟨⟨l,n,b,s⟩,⟨m,t,mi,f,le⟩,cb,li,w,[]⟩:GE)=x0 at *
 refine spcG zh mixed Tryz.func14 (by kernel_rfl) { cfgG with rl:=[0],nr:=[8],keep:=some [0,1,2,6,7,8,10,37,38,39]} [xY,xX,xW,xU,yA,yx,yJ,yI,yQ,yP,yV,yU,xI,xH,vG,vF,tY,tX] (by kernel_rfl) ?_
 intro I X hI hX;clear hneed;cases w
 · refine orcL ?_;go_invoke;refine orcS (by kernel_rfl) ?_
   simp only [zq,Nat.reduceAdd]
   have hh: ∀ {α:Type} (y:α),I.hid y=y:=fun y=>by subst hI;rfl
   simp only [hh];generalize zH (zC q x).out=J at *
   (repeat' (first|refine ja ?_ ?_|intro _))
   all_goals try(subst hI;(simp only [nrmA,nrmB,nrlB,reduceCtorEq,V0.agg.injEq,HO.pack.injEq,HO.obj.injEq,HO.abs.injEq,Gh.cn.injEq] at *);first|done|omega|exact hN|(obtain⟨r1,r2,r3,r4⟩:=hd4 (by omega);simp only [Sto.mk.injEq] at r3;obtain⟨r5,r6,r7,r8⟩:=r3;simp [r1,r2,r4,r5,r6,r7,r8];done))
   have hp: ¬ q.pos=4:=by
    subst hI;simp only [nrmA,nrmB,nrlB,reduceCtorEq] at *;omega
   refine zB hI zh mixed [xY,xX,xW,xU,yA,yx,yJ,yI,yQ,yP,yV,yU,xI,xH,vG,vF,tY,tX] hX [0,1,8,37,38,39] (fun(g:Nat × List Upl × Int × Str × Int × Cn × Str)=>match g with|(i,l1,n1,b1,s1,c,o)=>FdA x0 J i l1 n1 b1 s1 c o (zC q x)) (fun(g:Nat × List Upl × Int × Str × Int × Cn × Str)=>match g with|(i,l1,n1,b1,s1,c,o)=>⟨[(0,.v (.one (.ptr 0 0))),(1,.v (.one (.p (.int .i64 3)))),(8,.v (.one (.row 6))),(37,.v (.one (.row 7))),(38,.v (.one (.p (.int .i64 ((I.len (α:=Evt) J)))))),(39,.v (.one (.p (.int .i64 i))))],[.obj 50 [(.ptr 1 0),(.ptr 2 0),(.ptr 3 0),(.ptr 4 0),(.ptr 5 0)],.pack [.obj 54 [(.ptr 1 0),(.ptr 2 0)],.pack [.obj 124 [(.row 1),(.p (.int .i64 n1))],.row .upl 81 l1],.pack [.obj 156 [(.row 1),(.p (.int .i64 s1))],.row .byte 5 b1]],.abs (.cn c0),.abs (.cn c1),.abs (.cn c2),.abs (.cn c),.row .byte 5 o,.row .evt 34 J],56,none⟩) (fun(g:Nat × List Upl × Int × Str × Int × Cn × Str)=>match g with|(i,l1,n1,b1,s1,c,o)=>J.length - i) (0,l,n,b,s,⟨zC q x,⟨m,t,mi,f,le⟩,cb,li,false⟩,[]) (by kernel_rfl) (by kernel_rfl) ?_ ?_
   · exact hA0
   rintro⟨i,l1,n1,b1,s1,c,o⟩ h1 A hA;simp only at hA h1;have hok:=TG hJ h1;have hol:=h1.ol;have hil:=h1.le;have hln:=hJ.ln;have hS:=fun h=>zim hJ h1 h ⟨0,⟨[],[],0,[],0⟩,[],⟨[],[],[],[]⟩,0⟩;have hend:=hend _ _ _ _ _ _ _ h1
   refine orcL ?_;go_invoke;refine orcS (by kernel_rfl) ?_
   simp only [zq,Nat.reduceAdd]
   have e1:I.get J ⟨0,⟨[],[],0,[],0⟩,[],⟨[],[],[],[]⟩,0⟩ (i:Int)=J.getD i ⟨0,⟨[],[],0,[],0⟩,[],⟨[],[],[],[]⟩,0⟩:=by subst hI;first|rfl|simp
   simp only [e1];generalize J.getD i ⟨0,⟨[],[],0,[],0⟩,[],⟨[],[],[],[]⟩,0⟩=E at *;have e0:(⟨E.kind,⟨E.head.method,E.head.target,E.head.minor,E.head.fields,E.head.length⟩,E.bytes,⟨E.part.name,E.part.file,E.part.type,E.part.bytes⟩,E.code⟩:Evt)=E:=rfl;simp only [e0,hh];generalize hr:evG ⟨⟨l1,n1,b1,s1⟩,c.h,c.body,c.live,c.own,[]⟩ E=r at *;have hd5:=hd5 hp;subst hI;simp only [nrmA,nrmB,nrlB,reduceCtorEq,V0.agg.injEq,HO.pack.injEq,HO.obj.injEq,HO.abs.injEq,Gh.cn.injEq]
   (repeat' (first|refine ja ?_ ?_|intro _))<;>first|omega|exact jb|exact jc ‹False›|skip
   all_goals first
    |omega
    |exact hok.1
    |exact hok.2.2.2.1.1
    |(exact(hok.2.2.2.1.2 _ ‹_›).1)
    |(exact(hok.2.2.2.1.2 _ ‹_›).2)
    |exact(hS (by omega)).1.1
    |exact(hS (by omega)).1.2
    |(exact(hS (by omega)).1.2 ‹_›)
    |(have:=((hS (by omega)).2 _ rfl).1;omega)
    |exact hA (i+1,r.q.l,r.q.n,r.q.b,r.q.s,⟨c.q,r.h,r.b,r.i,r.w⟩,o++r.o) ((hS (by omega)).2 _ rfl).2 (by dsimp only;omega)
    |(obtain⟨r3,r4,r5⟩:=hend (by omega) hp;simp only [Sto.mk.injEq] at r3;obtain⟨r6,r7,r8,r9⟩:=r3;simp [r4,r5,r6,r7,r8,r9,hd5];done)
 · refine orcL ?_;go_invoke;refine orcS (by kernel_rfl) ?_
   simp only [zq,Nat.reduceAdd]
   have hh: ∀ {α:Type} (y:α),I.hid y=y:=fun y=>by subst hI;rfl
   simp only [hh];generalize zH (zC q x).out=J at *
   (repeat' (first|refine ja ?_ ?_|intro _))
   all_goals try(subst hI;(simp only [nrmA,nrmB,nrlB,reduceCtorEq,V0.agg.injEq,HO.pack.injEq,HO.obj.injEq,HO.abs.injEq,Gh.cn.injEq] at *);first|done|omega|exact hN|(obtain⟨r1,r2,r3,r4⟩:=hd4 (by omega);simp only [Sto.mk.injEq] at r3;obtain⟨r5,r6,r7,r8⟩:=r3;simp [r1,r2,r4,r5,r6,r7,r8];done))
   have hp: ¬ q.pos=4:=by
    subst hI;simp only [nrmA,nrmB,nrlB,reduceCtorEq] at *;omega
   refine zB hI zh mixed [xY,xX,xW,xU,yA,yx,yJ,yI,yQ,yP,yV,yU,xI,xH,vG,vF,tY,tX] hX [0,1,8,37,38,39] (fun(g:Nat × List Upl × Int × Str × Int × Cn × Str)=>match g with|(i,l1,n1,b1,s1,c,o)=>FdA x0 J i l1 n1 b1 s1 c o (zC q x)) (fun(g:Nat × List Upl × Int × Str × Int × Cn × Str)=>match g with|(i,l1,n1,b1,s1,c,o)=>⟨[(0,.v (.one (.ptr 0 0))),(1,.v (.one (.p (.int .i64 3)))),(8,.v (.one (.row 6))),(37,.v (.one (.row 7))),(38,.v (.one (.p (.int .i64 ((I.len (α:=Evt) J)))))),(39,.v (.one (.p (.int .i64 i))))],[.obj 50 [(.ptr 1 0),(.ptr 2 0),(.ptr 3 0),(.ptr 4 0),(.ptr 5 0)],.pack [.obj 54 [(.ptr 1 0),(.ptr 2 0)],.pack [.obj 124 [(.row 1),(.p (.int .i64 n1))],.row .upl 81 l1],.pack [.obj 156 [(.row 1),(.p (.int .i64 s1))],.row .byte 5 b1]],.abs (.cn c0),.abs (.cn c1),.abs (.cn c2),.abs (.cn c),.row .byte 5 o,.row .evt 34 J],56,none⟩) (fun(g:Nat × List Upl × Int × Str × Int × Cn × Str)=>match g with|(i,l1,n1,b1,s1,c,o)=>J.length - i) (0,l,n,b,s,⟨zC q x,⟨m,t,mi,f,le⟩,cb,li,true⟩,[]) (by kernel_rfl) (by kernel_rfl) ?_ ?_
   · exact hA0
   rintro⟨i,l1,n1,b1,s1,c,o⟩ h1 A hA;simp only at hA h1;have hok:=TG hJ h1;have hol:=h1.ol;have hil:=h1.le;have hln:=hJ.ln;have hS:=fun h=>zim hJ h1 h ⟨0,⟨[],[],0,[],0⟩,[],⟨[],[],[],[]⟩,0⟩;have hend:=hend _ _ _ _ _ _ _ h1
   refine orcL ?_;go_invoke;refine orcS (by kernel_rfl) ?_
   simp only [zq,Nat.reduceAdd]
   have e1:I.get J ⟨0,⟨[],[],0,[],0⟩,[],⟨[],[],[],[]⟩,0⟩ (i:Int)=J.getD i ⟨0,⟨[],[],0,[],0⟩,[],⟨[],[],[],[]⟩,0⟩:=by subst hI;first|rfl|simp
   simp only [e1];generalize J.getD i ⟨0,⟨[],[],0,[],0⟩,[],⟨[],[],[],[]⟩,0⟩=E at *;have e0:(⟨E.kind,⟨E.head.method,E.head.target,E.head.minor,E.head.fields,E.head.length⟩,E.bytes,⟨E.part.name,E.part.file,E.part.type,E.part.bytes⟩,E.code⟩:Evt)=E:=rfl;simp only [e0,hh];generalize hr:evG ⟨⟨l1,n1,b1,s1⟩,c.h,c.body,c.live,c.own,[]⟩ E=r at *;have hd5:=hd5 hp;subst hI;simp only [nrmA,nrmB,nrlB,reduceCtorEq,V0.agg.injEq,HO.pack.injEq,HO.obj.injEq,HO.abs.injEq,Gh.cn.injEq]
   (repeat' (first|refine ja ?_ ?_|intro _))<;>first|omega|exact jb|exact jc ‹False›|skip
   all_goals first
    |omega
    |exact hok.1
    |exact hok.2.2.2.1.1
    |(exact(hok.2.2.2.1.2 _ ‹_›).1)
    |(exact(hok.2.2.2.1.2 _ ‹_›).2)
    |exact(hS (by omega)).1.1
    |exact(hS (by omega)).1.2
    |(exact(hS (by omega)).1.2 ‹_›)
    |(have:=((hS (by omega)).2 _ rfl).1;omega)
    |exact hA (i+1,r.q.l,r.q.n,r.q.b,r.q.s,⟨c.q,r.h,r.b,r.i,r.w⟩,o++r.o) ((hS (by omega)).2 _ rfl).2 (by dsimp only;omega)
    |(obtain⟨r3,r4,r5⟩:=hend (by omega) hp;simp only [Sto.mk.injEq] at r3;obtain⟨r6,r7,r8,r9⟩:=r3;simp [r4,r5,r6,r7,r8,r9,hd5];done)
def YV:Know Tryz.prog:=⟨14,UZ,zhH⟩
def YU:Know Tryz.prog:=⟨14,fun I=>zy I (UZ I),zf zhH⟩
end Go.Proofs.YtkjepecoodjbmaaGreatDoor
namespace Go.Proofs.YtkjepecoodjbmaaGreatDoor
open Go Go.Sep Go.Ab
set_option maxRecDepth 100000
def oldC (c:Cn):Cn:= { c with own:=if zdi c then false else c.own}
def UU (I:Alg) (args:List D) (hp:List HO):Option CT:=match args,hp with
 |[.v (.one (.ptr 0 0)),.v (.one (.p (.int .i64 0)))],[.obj 50 [(.ptr 1 0),(.ptr 2 0),(.ptr 3 0),(.ptr 4 0),(.ptr 5 0)],.pack [.obj 54 [(.ptr 1 0),(.ptr 2 0)],.pack [.obj 124 [(.row 1),(.p (.int .i64 n))],.row .upl 81 l],.pack [.obj 156 [(.row 1),(.p (.int .i64 s))],.row .byte 5 b]],.abs (.cn c0),.abs (.cn c1),.abs (.cn c2),.abs (.cn c3)]=>(fun(l:List Upl) (n:Int) (b:Str) (s:Int) (c0 c1 c2 c3:Cn)=>(some (.one ⟨I.hid (zQ l n∧n≤200000∧b.length≤100000∧FOk c0.h.fields∧c0.body.length≤100000),(.ret (.v (.one (.p (.int .i64 0))))),[.obj 50 [(.ptr 1 0),(.ptr 6 0),(.ptr 3 0),(.ptr 4 0),(.ptr 5 0)],.pack [.obj 54 [(.ptr 1 0),(.ptr 2 0)],.pack [.obj 124 [(.row 1),(.p (.int .i64 (I.hid ((rH ⟨l,n,b,s⟩ c0).n))))],.row .upl 81 (I.hid ((rH ⟨l,n,b,s⟩ c0).l))],.pack [.obj 156 [(.row 1),(.p (.int .i64 (I.hid ((rH ⟨l,n,b,s⟩ c0).s))))],.row .byte 5 (I.hid ((rH ⟨l,n,b,s⟩ c0).b))]],.abs (.cn (I.hid ((oldC c0)))),.abs (.cn c1),.abs (.cn c2),.abs (.cn c3),.abs (.cn cn0)]⟩):Option CT)) l n b s c0 c1 c2 c3
 |_,_=>none
set_option maxHeartbeats 2000000 in
theorem zhF:zx Tryz.prog 20 (UU alg):=by
 intro args hp r h;unfold UU at h;split at h<;>cases h
 rename_i n l s b c0 c1 c2 c3
 revert l;intro(l:List Upl)
 simp only [CT.Good,zi];intro hneed;obtain⟨hs,hn,hb,hf,hbo⟩:=hneed;generalize hq:rH ⟨l,n,b,s⟩ c0=rq;generalize hc:oldC c0=rc;obtain⟨l',n',b',s'⟩:=rq;obtain⟨q,⟨m,t,mi,f,le⟩,cb,li,w⟩:=c0;unfold rH zdi at hq;unfold oldC zdi at hc;dsimp only at *
 rw [show decide (cb≠[])=decide (0<(cb.length:Int)) by cases cb<;>simp] at hq hc
 generalize hg:(li&&(decide (m=Zw)&&(decide (0<(cb.length:Int))&&Lib.hasPrefix t xg)))=g at hq hc
 refine spcG zh mixed Tryz.func20 (by kernel_rfl) { cfgG with fz:=[49],keep:=some [0,1,4,5]} [xG,xE,zdw,zdv,ZO,ZN] (by kernel_rfl) ?_
 intro I X hI hX;cases w
 all_goals
  refine orcL ?_;go_invoke;refine orcS (by kernel_rfl) ?_
  simp only [zq,Nat.reduceAdd]
  have hh: ∀ {α:Type} (y:α),I.hid y=y:=fun y=>by subst hI;rfl
  simp only [hh];rw [show([80,65,84,67,72]:Str)=Zw from rfl,show([47,102,105,108,101,115,47]:Str)=xg from rfl];generalize yY ⟨l,n,b,s⟩ m t f cb=x at *;obtain⟨x1,x2,⟨x3,x4,x5,x6⟩⟩:=x;generalize Lib.hasPrefix t xg=hp at *;subst hI;dsimp only at *;simp only [nrmA,nrmB,nrlB,reduceCtorEq,V0.agg.injEq,HO.pack.injEq,HO.obj.injEq,HO.abs.injEq,Gh.cn.injEq,decide_eq_true_eq];cases g
  all_goals
   simp only [jd,if_false,if_true,Sto.mk.injEq] at hq hc;obtain⟨rfl,rfl,rfl,rfl⟩:=hq;subst hc
   (repeat' (first|refine ja ?_ ?_|intro _))<;>first|omega|exact jb|exact jc ‹False›|skip
   all_goals first
    |omega
    |with_reducible rfl
    |with_reducible assumption
    |exact hf.1
    |(exact(hf.2 _ ‹_›).1)
    |(exact(hf.2 _ ‹_›).2)
    |rfl
    |(exfalso;simp [*] at hg;done)
    |(exfalso;have hq0:0<cb.length:=(by omega);have hq1:(0<(cb.length:Int))=True:=eq_true (by omega);simp only [*,decide_true,Bool.and_true,je] at hg;done)
    |(exfalso;simp [*] at hg;omega)
def YT:Know Tryz.prog:=⟨20,UU,zhF⟩
def YS:Know Tryz.prog:=⟨20,fun I=>zy I (UU I),zf zhF⟩
def UR (I:Alg) (args:List D) (hp:List HO):Option CT:=match args,hp with
 |[.v (.one (.ptr 0 0)),.v (.one (.p (.int .i64 1)))],[.obj 50 [(.ptr 1 0),(.ptr 2 0),(.ptr 3 0),(.ptr 4 0),(.ptr 5 0)],.pack [.obj 54 [(.ptr 1 0),(.ptr 2 0)],.pack [.obj 124 [(.row 1),(.p (.int .i64 n))],.row .upl 81 l],.pack [.obj 156 [(.row 1),(.p (.int .i64 s))],.row .byte 5 b]],.abs (.cn c0),.abs (.cn c1),.abs (.cn c2),.abs (.cn c3)]=>(fun(l:List Upl) (n:Int) (b:Str) (s:Int) (c0 c1 c2 c3:Cn)=>(some (.one ⟨I.hid (zQ l n∧n≤200000∧b.length≤100000∧FOk c1.h.fields∧c1.body.length≤100000),(.ret (.v (.one (.p (.int .i64 0))))),[.obj 50 [(.ptr 1 0),(.ptr 2 0),(.ptr 6 0),(.ptr 4 0),(.ptr 5 0)],.pack [.obj 54 [(.ptr 1 0),(.ptr 2 0)],.pack [.obj 124 [(.row 1),(.p (.int .i64 (I.hid ((rH ⟨l,n,b,s⟩ c1).n))))],.row .upl 81 (I.hid ((rH ⟨l,n,b,s⟩ c1).l))],.pack [.obj 156 [(.row 1),(.p (.int .i64 (I.hid ((rH ⟨l,n,b,s⟩ c1).s))))],.row .byte 5 (I.hid ((rH ⟨l,n,b,s⟩ c1).b))]],.abs (.cn c0),.abs (.cn (I.hid ((oldC c1)))),.abs (.cn c2),.abs (.cn c3),.abs (.cn cn0)]⟩):Option CT)) l n b s c0 c1 c2 c3
 |_,_=>none
set_option maxHeartbeats 2000000 in
theorem zhE:zx Tryz.prog 20 (UR alg):=by
 intro args hp r h;unfold UR at h;split at h<;>cases h
 rename_i n l s b c0 c1 c2 c3
 revert l;intro(l:List Upl)
 simp only [CT.Good,zi];intro hneed;obtain⟨hs,hn,hb,hf,hbo⟩:=hneed;generalize hq:rH ⟨l,n,b,s⟩ c1=rq;generalize hc:oldC c1=rc;obtain⟨l',n',b',s'⟩:=rq;obtain⟨q,⟨m,t,mi,f,le⟩,cb,li,w⟩:=c1;unfold rH zdi at hq;unfold oldC zdi at hc;dsimp only at *
 rw [show decide (cb≠[])=decide (0<(cb.length:Int)) by cases cb<;>simp] at hq hc
 generalize hg:(li&&(decide (m=Zw)&&(decide (0<(cb.length:Int))&&Lib.hasPrefix t xg)))=g at hq hc
 refine spcG zh mixed Tryz.func20 (by kernel_rfl) { cfgG with fz:=[49],keep:=some [0,1,4,5]} [xG,xE,zdw,zdv,ZO,ZN,YT,YS] (by kernel_rfl) ?_
 intro I X hI hX;cases w
 all_goals
  refine orcL ?_;go_invoke;refine orcS (by kernel_rfl) ?_
  simp only [zq,Nat.reduceAdd]
  have hh: ∀ {α:Type} (y:α),I.hid y=y:=fun y=>by subst hI;rfl
  simp only [hh];rw [show([80,65,84,67,72]:Str)=Zw from rfl,show([47,102,105,108,101,115,47]:Str)=xg from rfl];generalize yY ⟨l,n,b,s⟩ m t f cb=x at *;obtain⟨x1,x2,⟨x3,x4,x5,x6⟩⟩:=x;generalize Lib.hasPrefix t xg=hp at *;subst hI;dsimp only at *;simp only [nrmA,nrmB,nrlB,reduceCtorEq,V0.agg.injEq,HO.pack.injEq,HO.obj.injEq,HO.abs.injEq,Gh.cn.injEq,decide_eq_true_eq];cases g
  all_goals
   simp only [jd,if_false,if_true,Sto.mk.injEq] at hq hc;obtain⟨rfl,rfl,rfl,rfl⟩:=hq;subst hc
   (repeat' (first|refine ja ?_ ?_|intro _))<;>first|omega|exact jb|exact jc ‹False›|skip
   all_goals first
    |omega
    |with_reducible rfl
    |with_reducible assumption
    |exact hf.1
    |(exact(hf.2 _ ‹_›).1)
    |(exact(hf.2 _ ‹_›).2)
    |rfl
    |(exfalso;simp [*] at hg;done)
    |(exfalso;have hq0:0<cb.length:=(by omega);have hq1:(0<(cb.length:Int))=True:=eq_true (by omega);simp only [*,decide_true,Bool.and_true,je] at hg;done)
    |(exfalso;simp [*] at hg;omega)
def UQ:Know Tryz.prog:=⟨20,UR,zhE⟩
def UO:Know Tryz.prog:=⟨20,fun I=>zy I (UR I),zf zhE⟩
def UN (I:Alg) (args:List D) (hp:List HO):Option CT:=match args,hp with
 |[.v (.one (.ptr 0 0)),.v (.one (.p (.int .i64 2)))],[.obj 50 [(.ptr 1 0),(.ptr 2 0),(.ptr 3 0),(.ptr 4 0),(.ptr 5 0)],.pack [.obj 54 [(.ptr 1 0),(.ptr 2 0)],.pack [.obj 124 [(.row 1),(.p (.int .i64 n))],.row .upl 81 l],.pack [.obj 156 [(.row 1),(.p (.int .i64 s))],.row .byte 5 b]],.abs (.cn c0),.abs (.cn c1),.abs (.cn c2),.abs (.cn c3)]=>(fun(l:List Upl) (n:Int) (b:Str) (s:Int) (c0 c1 c2 c3:Cn)=>(some (.one ⟨I.hid (zQ l n∧n≤200000∧b.length≤100000∧FOk c2.h.fields∧c2.body.length≤100000),(.ret (.v (.one (.p (.int .i64 0))))),[.obj 50 [(.ptr 1 0),(.ptr 2 0),(.ptr 3 0),(.ptr 6 0),(.ptr 5 0)],.pack [.obj 54 [(.ptr 1 0),(.ptr 2 0)],.pack [.obj 124 [(.row 1),(.p (.int .i64 (I.hid ((rH ⟨l,n,b,s⟩ c2).n))))],.row .upl 81 (I.hid ((rH ⟨l,n,b,s⟩ c2).l))],.pack [.obj 156 [(.row 1),(.p (.int .i64 (I.hid ((rH ⟨l,n,b,s⟩ c2).s))))],.row .byte 5 (I.hid ((rH ⟨l,n,b,s⟩ c2).b))]],.abs (.cn c0),.abs (.cn c1),.abs (.cn (I.hid ((oldC c2)))),.abs (.cn c3),.abs (.cn cn0)]⟩):Option CT)) l n b s c0 c1 c2 c3
 |_,_=>none
set_option maxHeartbeats 2000000 in
theorem zhD:zx Tryz.prog 20 (UN alg):=by
 intro args hp r h;unfold UN at h;split at h<;>cases h
 rename_i n l s b c0 c1 c2 c3
 revert l;intro(l:List Upl)
 simp only [CT.Good,zi];intro hneed;obtain⟨hs,hn,hb,hf,hbo⟩:=hneed;generalize hq:rH ⟨l,n,b,s⟩ c2=rq;generalize hc:oldC c2=rc;obtain⟨l',n',b',s'⟩:=rq;obtain⟨q,⟨m,t,mi,f,le⟩,cb,li,w⟩:=c2;unfold rH zdi at hq;unfold oldC zdi at hc;dsimp only at *
 rw [show decide (cb≠[])=decide (0<(cb.length:Int)) by cases cb<;>simp] at hq hc
 generalize hg:(li&&(decide (m=Zw)&&(decide (0<(cb.length:Int))&&Lib.hasPrefix t xg)))=g at hq hc
 refine spcG zh mixed Tryz.func20 (by kernel_rfl) { cfgG with fz:=[49],keep:=some [0,1,4,5]} [xG,xE,zdw,zdv,ZO,ZN,YT,YS,UQ,UO] (by kernel_rfl) ?_
 intro I X hI hX;cases w
 all_goals
  refine orcL ?_;go_invoke;refine orcS (by kernel_rfl) ?_
  simp only [zq,Nat.reduceAdd]
  have hh: ∀ {α:Type} (y:α),I.hid y=y:=fun y=>by subst hI;rfl
  simp only [hh];rw [show([80,65,84,67,72]:Str)=Zw from rfl,show([47,102,105,108,101,115,47]:Str)=xg from rfl];generalize yY ⟨l,n,b,s⟩ m t f cb=x at *;obtain⟨x1,x2,⟨x3,x4,x5,x6⟩⟩:=x;generalize Lib.hasPrefix t xg=hp at *;subst hI;dsimp only at *;simp only [nrmA,nrmB,nrlB,reduceCtorEq,V0.agg.injEq,HO.pack.injEq,HO.obj.injEq,HO.abs.injEq,Gh.cn.injEq,decide_eq_true_eq];cases g
  all_goals
   simp only [jd,if_false,if_true,Sto.mk.injEq] at hq hc;obtain⟨rfl,rfl,rfl,rfl⟩:=hq;subst hc
   (repeat' (first|refine ja ?_ ?_|intro _))<;>first|omega|exact jb|exact jc ‹False›|skip
   all_goals first
    |omega
    |with_reducible rfl
    |with_reducible assumption
    |exact hf.1
    |(exact(hf.2 _ ‹_›).1)
    |(exact(hf.2 _ ‹_›).2)
    |rfl
    |(exfalso;simp [*] at hg;done)
    |(exfalso;have hq0:0<cb.length:=(by omega);have hq1:(0<(cb.length:Int))=True:=eq_true (by omega);simp only [*,decide_true,Bool.and_true,je] at hg;done)
    |(exfalso;simp [*] at hg;omega)
def zcu:Know Tryz.prog:=⟨20,UN,zhD⟩
def zct:Know Tryz.prog:=⟨20,fun I=>zy I (UN I),zf zhD⟩
def UM (I:Alg) (args:List D) (hp:List HO):Option CT:=match args,hp with
 |[.v (.one (.ptr 0 0)),.v (.one (.p (.int .i64 3)))],[.obj 50 [(.ptr 1 0),(.ptr 2 0),(.ptr 3 0),(.ptr 4 0),(.ptr 5 0)],.pack [.obj 54 [(.ptr 1 0),(.ptr 2 0)],.pack [.obj 124 [(.row 1),(.p (.int .i64 n))],.row .upl 81 l],.pack [.obj 156 [(.row 1),(.p (.int .i64 s))],.row .byte 5 b]],.abs (.cn c0),.abs (.cn c1),.abs (.cn c2),.abs (.cn c3)]=>(fun(l:List Upl) (n:Int) (b:Str) (s:Int) (c0 c1 c2 c3:Cn)=>(some (.one ⟨I.hid (zQ l n∧n≤200000∧b.length≤100000∧FOk c3.h.fields∧c3.body.length≤100000),(.ret (.v (.one (.p (.int .i64 0))))),[.obj 50 [(.ptr 1 0),(.ptr 2 0),(.ptr 3 0),(.ptr 4 0),(.ptr 6 0)],.pack [.obj 54 [(.ptr 1 0),(.ptr 2 0)],.pack [.obj 124 [(.row 1),(.p (.int .i64 (I.hid ((rH ⟨l,n,b,s⟩ c3).n))))],.row .upl 81 (I.hid ((rH ⟨l,n,b,s⟩ c3).l))],.pack [.obj 156 [(.row 1),(.p (.int .i64 (I.hid ((rH ⟨l,n,b,s⟩ c3).s))))],.row .byte 5 (I.hid ((rH ⟨l,n,b,s⟩ c3).b))]],.abs (.cn c0),.abs (.cn c1),.abs (.cn c2),.abs (.cn (I.hid ((oldC c3)))),.abs (.cn cn0)]⟩):Option CT)) l n b s c0 c1 c2 c3
 |_,_=>none
set_option maxHeartbeats 2000000 in
theorem zhC:zx Tryz.prog 20 (UM alg):=by
 intro args hp r h;unfold UM at h;split at h<;>cases h
 rename_i n l s b c0 c1 c2 c3
 revert l;intro(l:List Upl)
 simp only [CT.Good,zi];intro hneed;obtain⟨hs,hn,hb,hf,hbo⟩:=hneed;generalize hq:rH ⟨l,n,b,s⟩ c3=rq;generalize hc:oldC c3=rc;obtain⟨l',n',b',s'⟩:=rq;obtain⟨q,⟨m,t,mi,f,le⟩,cb,li,w⟩:=c3;unfold rH zdi at hq;unfold oldC zdi at hc;dsimp only at *
 rw [show decide (cb≠[])=decide (0<(cb.length:Int)) by cases cb<;>simp] at hq hc
 generalize hg:(li&&(decide (m=Zw)&&(decide (0<(cb.length:Int))&&Lib.hasPrefix t xg)))=g at hq hc
 refine spcG zh mixed Tryz.func20 (by kernel_rfl) { cfgG with fz:=[49],keep:=some [0,1,4,5]} [xG,xE,zdw,zdv,ZO,ZN,YT,YS,UQ,UO,zcu,zct] (by kernel_rfl) ?_
 intro I X hI hX;cases w
 all_goals
  refine orcL ?_;go_invoke;refine orcS (by kernel_rfl) ?_
  simp only [zq,Nat.reduceAdd]
  have hh: ∀ {α:Type} (y:α),I.hid y=y:=fun y=>by subst hI;rfl
  simp only [hh];rw [show([80,65,84,67,72]:Str)=Zw from rfl,show([47,102,105,108,101,115,47]:Str)=xg from rfl];generalize yY ⟨l,n,b,s⟩ m t f cb=x at *;obtain⟨x1,x2,⟨x3,x4,x5,x6⟩⟩:=x;generalize Lib.hasPrefix t xg=hp at *;subst hI;dsimp only at *;simp only [nrmA,nrmB,nrlB,reduceCtorEq,V0.agg.injEq,HO.pack.injEq,HO.obj.injEq,HO.abs.injEq,Gh.cn.injEq,decide_eq_true_eq];cases g
  all_goals
   simp only [jd,if_false,if_true,Sto.mk.injEq] at hq hc;obtain⟨rfl,rfl,rfl,rfl⟩:=hq;subst hc
   (repeat' (first|refine ja ?_ ?_|intro _))<;>first|omega|exact jb|exact jc ‹False›|skip
   all_goals first
    |omega
    |with_reducible rfl
    |with_reducible assumption
    |exact hf.1
    |(exact(hf.2 _ ‹_›).1)
    |(exact(hf.2 _ ‹_›).2)
    |rfl
    |(exfalso;simp [*] at hg;done)
    |(exfalso;have hq0:0<cb.length:=(by omega);have hq1:(0<(cb.length:Int))=True:=eq_true (by omega);simp only [*,decide_true,Bool.and_true,je] at hg;done)
    |(exfalso;simp [*] at hg;omega)
def zhB:Know Tryz.prog:=⟨20,UM,zhC⟩
def zhA:Know Tryz.prog:=⟨20,fun I=>zy I (UM I),zf zhC⟩
end Go.Proofs.YtkjepecoodjbmaaGreatDoor
namespace Go.Proofs.YtkjepecoodjbmaaGreatDoor
open Go Go.Sep Go.Ab
set_option maxRecDepth 100000
def XT (I:Alg) (args:List D) (hp:List HO):Option CT:=match args,hp with
 |[.v (.one (.ptr 0 0))],[.obj 50 [(.ptr 1 0),(.p (.val (.pointer none))),(.p (.val (.pointer none))),(.p (.val (.pointer none))),(.p (.val (.pointer none)))],.pack [.obj 54 [(.ptr 1 0),(.ptr 2 0)],.pack [.obj 124 [(.row 1),(.p (.int .i64 n))],.row .upl 81 l],.pack [.obj 156 [(.row 1),(.p (.int .i64 s))],.row .byte 5 b]]]=>(fun(l:List Upl) (n:Int) (b:Str) (s:Int)=>(some (.one ⟨I.hid (True),(.ret (.tup [])),[.obj 50 [(.ptr 1 0),(.ptr 2 0),(.ptr 3 0),(.ptr 4 0),(.ptr 5 0)],.pack [.obj 54 [(.ptr 1 0),(.ptr 2 0)],.pack [.obj 124 [(.row 1),(.p (.int .i64 n))],.row .upl 81 l],.pack [.obj 156 [(.row 1),(.p (.int .i64 s))],.row .byte 5 b]],.abs (.cn cn0),.abs (.cn cn0),.abs (.cn cn0),.abs (.cn cn0)]⟩):Option CT)) l n b s
 |_,_=>none
theorem zei:zx Tryz.prog 41 (XT alg):=by
 intro args hp r h;unfold XT at h;split at h<;>cases h
 rename_i n l s b
 revert l;intro(l:List Upl)
 simp only [CT.Good,zi];intro _
 refine spcG zh mixed Tryz.func41 (by kernel_rfl) { cfgG with keep:=some [0,2,3]} [ZO,ZN] (by kernel_rfl) ?_
 intro I X hI hX
 refine orcL ?_;go_invoke;refine orcS (by kernel_rfl) ?_
 simp only [zq,Nat.reduceAdd]
 refine zB hI zh mixed [ZO,ZN] hX [0,3] (fun i:Nat=>i≤4) (fun i:Nat=>match i with
  |0=>⟨[(0,.v (.one (.ptr 0 0))),(3,.v (.one (.p (.int .i64 0))))],[.obj 50 [(.ptr 1 0),(.p (.val (.pointer none))),(.p (.val (.pointer none))),(.p (.val (.pointer none))),(.p (.val (.pointer none)))],.pack [.obj 54 [(.ptr 1 0),(.ptr 2 0)],.pack [.obj 124 [(.row 1),(.p (.int .i64 n))],.row .upl 81 l],.pack [.obj 156 [(.row 1),(.p (.int .i64 s))],.row .byte 5 b]]],15,none⟩
  |1=>⟨[(0,.v (.one (.ptr 0 0))),(3,.v (.one (.p (.int .i64 1))))],[.obj 50 [(.ptr 1 0),(.ptr 2 0),(.p (.val (.pointer none))),(.p (.val (.pointer none))),(.p (.val (.pointer none)))],.pack [.obj 54 [(.ptr 1 0),(.ptr 2 0)],.pack [.obj 124 [(.row 1),(.p (.int .i64 n))],.row .upl 81 l],.pack [.obj 156 [(.row 1),(.p (.int .i64 s))],.row .byte 5 b]],.abs (.cn cn0)],15,none⟩
  |2=>⟨[(0,.v (.one (.ptr 0 0))),(3,.v (.one (.p (.int .i64 2))))],[.obj 50 [(.ptr 1 0),(.ptr 2 0),(.ptr 3 0),(.p (.val (.pointer none))),(.p (.val (.pointer none)))],.pack [.obj 54 [(.ptr 1 0),(.ptr 2 0)],.pack [.obj 124 [(.row 1),(.p (.int .i64 n))],.row .upl 81 l],.pack [.obj 156 [(.row 1),(.p (.int .i64 s))],.row .byte 5 b]],.abs (.cn cn0),.abs (.cn cn0)],15,none⟩
  |3=>⟨[(0,.v (.one (.ptr 0 0))),(3,.v (.one (.p (.int .i64 3))))],[.obj 50 [(.ptr 1 0),(.ptr 2 0),(.ptr 3 0),(.ptr 4 0),(.p (.val (.pointer none)))],.pack [.obj 54 [(.ptr 1 0),(.ptr 2 0)],.pack [.obj 124 [(.row 1),(.p (.int .i64 n))],.row .upl 81 l],.pack [.obj 156 [(.row 1),(.p (.int .i64 s))],.row .byte 5 b]],.abs (.cn cn0),.abs (.cn cn0),.abs (.cn cn0)],15,none⟩
  |_=>⟨[(0,.v (.one (.ptr 0 0))),(3,.v (.one (.p (.int .i64 4))))],[.obj 50 [(.ptr 1 0),(.ptr 2 0),(.ptr 3 0),(.ptr 4 0),(.ptr 5 0)],.pack [.obj 54 [(.ptr 1 0),(.ptr 2 0)],.pack [.obj 124 [(.row 1),(.p (.int .i64 n))],.row .upl 81 l],.pack [.obj 156 [(.row 1),(.p (.int .i64 s))],.row .byte 5 b]],.abs (.cn cn0),.abs (.cn cn0),.abs (.cn cn0),.abs (.cn cn0)],15,none⟩) (fun i:Nat=>4 - i) 0 (by kernel_rfl) (by kernel_rfl) ?_ ?_
 · exact jM _
 rintro i h1 A hA
 obtain rfl|rfl|rfl|rfl|rfl:i=0∨i=1∨i=2∨i=3∨i=4:=by omega
 all_goals
  refine orcL ?_;go_invoke;refine orcS (by kernel_rfl) ?_
  simp only [zq,Nat.reduceAdd];subst hI;refine⟨fun c=> ?_,fun c=> ?_⟩
  all_goals first
   |exact absurd c (by decide)
   |exact⟨jb,by show IntKind.i64.min≤_∧_;decide,hA 1 (by decide) (by decide),jb⟩
   |exact⟨jb,by show IntKind.i64.min≤_∧_;decide,hA 2 (by decide) (by decide),jb⟩
   |exact⟨jb,by show IntKind.i64.min≤_∧_;decide,hA 3 (by decide) (by decide),jb⟩
   |exact⟨jb,by show IntKind.i64.min≤_∧_;decide,hA 4 (by decide) (by decide),jb⟩
   |exact⟨jb,jb⟩
def znv:Know Tryz.prog:=⟨41,XT,zei⟩
def znu:Know Tryz.prog:=⟨41,fun I=>zy I (XT I),zf zei⟩
end Go.Proofs.YtkjepecoodjbmaaGreatDoor
