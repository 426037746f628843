/- Texts of this proof, one behind the other: GatB ChkA ChkI ReqB ReqA Splt ReqC ReqD ReqE ReqF ReqR ReqPc TusG TusH TusI GatQ GatC GatD GatF GatG RqwL StoP PrtL StoQ TusJ TusK PrtH PrtJ PrtK GatE. -/
import Derived.Lib.Split
import Derived.Lib.SplitLaws
import Derived.Test.YtkjepecoodjbmaaGreatDoorMd
set_option linter.all false
namespace Go.Proofs.YtkjepecoodjbmaaGreatDoor
open Go Go.Sep Go.Ab
set_option maxRecDepth 100000
theorem Yo (f:List Fld) (body:Str):(qE f body).1.length≤12∧(∀ p ∈ (qE f body).1,p.file.length≤40)∧prtZ (qE f body).1≤1000+2 * body.length:=by
 have h0:([]:List Prt).length≤12∧(∀ p ∈ ([]:List Prt),p.file.length≤40)∧prtZ ([]:List Prt)≤1000+2 * body.length:=⟨by decide,(fun p h=>by cases h),by simp [prtZ]⟩
 unfold qE
 split
 · exact h0
 · split
   · exact h0
   · split
     · exact h0
     · exact zh3 _ _
theorem zmb {ps:List Prt} {i:Nat} (h:i<ps.length):XV (ps.drop i)=(((ps.getD i ⟨[],[],[],[]⟩).bytes.length:Int)+200)+XV (ps.drop (i+1)):=by
 rw [jE h,XV];simp [h]
theorem ziB {q:Sto} {ids:List Int} {t:Str} {ps:List Prt} {i:Nat} (h:i<ps.length):ul q ids t (ps.drop i)=(if(ps.getD i ⟨[],[],[],[]⟩).file=[] then ul q ids t (ps.drop (i+1)) else if zej q (ps.getD i ⟨[],[],[],[]⟩)≠0 then⟨sV (if zej q (ps.getD i ⟨[],[],[],[]⟩)=4 then 413 else 507),syS (XL (sO q (ps.getD i ⟨[],[],[],[]⟩)) ids)⟩ else ul (sO q (ps.getD i ⟨[],[],[],[]⟩)) (ids++[q.n+1]) (zlS t (q.n+1) (ps.getD i ⟨[],[],[],[]⟩)) (ps.drop (i+1))):=by
 have e:ps.getD i ⟨[],[],[],[]⟩=ps[i]:=by simp [h]
 rw [e,jE h,ul]
theorem ziI {q:Sto} {ids:List Int} {j:Nat} (h:j<ids.length):XL q (ids.drop j)=XL (wsS q (zbX (ids.getD j 0))) (ids.drop (j+1)):=by
 have e:ids.getD j 0=ids[j]:=by simp [h]
 rw [e,jE h,XL]
theorem zsc {q:Sto} (hs:zK q.l q.n) (hb:q.b.length≤100000) (p:Prt):zK (sO q p).l (sO q p).n∧(sO q p).b.length≤100000∧q.n≤(sO q p).n∧(sO q p).n≤q.n+1∧(sO q p).s=q.s:=by
 have hw: ∀ {x:Sto} (e:Ent),zK x.l x.n→x.b.length≤100000→zK (wsS x e).l (wsS x e).n∧(wsS x e).b.length≤100000:=fun e h1 h2=>⟨zah h1 _ _,Zm _ h2⟩;have h1:=hw (tJ q p) hs hb;have n1:=ztw q (tJ q p)
 have h2:zK (apQ (wsS q (tJ q p)) (q.n+1) 0 p.bytes).l (apQ (wsS q (tJ q p)) (q.n+1) 0 p.bytes).n∧(apQ (wsS q (tJ q p)) (q.n+1) 0 p.bytes).b.length≤100000:=by
  unfold apQ
  split
  · exact h1
  · exact hw _ h1.1 h1.2
 have n2:(apQ (wsS q (tJ q p)) (q.n+1) 0 p.bytes).n=(wsS q (tJ q p)).n:=by
  unfold apQ
  split
  · rfl
  · exact Zc (show(2:Int)≠1 by decide)
 have s2:(apQ (wsS q (tJ q p)) (q.n+1) 0 p.bytes).s=q.s:=by unfold apQ;split<;>rfl
 unfold sO
 split
 · exact⟨h1.1,h1.2,n1.1,n1.2,rfl⟩
 · split
   · have n3:(wsS (apQ (wsS q (tJ q p)) (q.n+1) 0 p.bytes) (zbX (q.n+1))).n=(apQ (wsS q (tJ q p)) (q.n+1) 0 p.bytes).n:=Zc (show(4:Int)≠1 by decide)
     have h3:=hw (zbX (q.n+1)) h2.1 h2.2
     exact⟨h3.1,h3.2,by rw [n3,n2];exact n1.1,by rw [n3,n2];exact n1.2,s2⟩
   · exact⟨h2.1,h2.2,by rw [n2];exact n1.1,by rw [n2];exact n1.2,s2⟩
theorem zj5: ∀ P:List Prt,0≤XV P
 |[]=>Int.le_refl 0
 |p::r=>by have:=zj5 r;simp only [XV];omega
theorem zj6: ∀ P:List Prt,XV P≤prtZ P+200 * P.length
 |[]=>by simp [XV]
 | p::r=>by
   have:=zj6 r;simp only [XV,prtZ,List.map_cons,List.sum_cons,jh] at this ⊢;omega
theorem Ue: ∀ (P:List Prt) (q:Sto) (ids:List Int) (t:Str),(ul q ids t P).r.fields=[]
 |[],_,_,_=>rfl
 | p ::r,q,ids,t=>by
   unfold ul
   split
   · exact Ue r _ _ _
   · split
     · rfl
     · exact Ue r _ _ _
def QJ (I:Alg) (args:List D) (hp:List HO):Option CT:=match args,hp with
 |[.v (.one (.ptr 0 0)),.v (.agg [(.p (.str m)),(.p (.str t)),(.p (.int .i64 mi)),(.p (.list .fld f)),(.p (.int .i64 le))]),.v (.one (.p (.list .byte body)))],[.obj 50 [(.ptr 1 0),(.ptr 2 0),(.ptr 3 0),(.ptr 4 0),(.ptr 5 0)],.pack [.obj 54 [(.ptr 1 0),(.ptr 2 0)],.pack [.obj 124 [(.row 1),(.p (.int .i64 n))],.row .upl 81 l],.pack [.obj 156 [(.row 1),(.p (.int .i64 s))],.row .byte 5 b]],.abs (.cn c0),.abs (.cn c1),.abs (.cn c2),.abs (.cn c3)]=>(fun(l:List Upl) (n:Int) (b:Str) (s:Int) (c0 c1 c2 c3:Cn) (m t:Str) (mi:Int) (f:List Fld) (le:Int) (body:Str)=>(some (.one ⟨I.hid (FOk f∧zK l n∧n≤200000 - 20∧b.length≤100000∧body.length≤30000),(.ret (.v (.agg [(.p (.int .i64 (I.hid ((X8 ⟨l,n,b,s⟩ f body).r.status)))),(.p (.list .fld (I.hid (([]:List Fld))))),(.p (.list .byte (I.hid ((X8 ⟨l,n,b,s⟩ f body).r.body))))]))),[.obj 50 [(.ptr 1 0),(.ptr 2 0),(.ptr 3 0),(.ptr 4 0),(.ptr 5 0)],.pack [.obj 54 [(.ptr 1 0),(.ptr 2 0)],.pack [.obj 124 [(.row 1),(.p (.int .i64 (I.hid ((X8 ⟨l,n,b,s⟩ f body).q.n))))],.row .upl 81 (I.hid ((X8 ⟨l,n,b,s⟩ f body).q.l))],.pack [.obj 156 [(.row 1),(.p (.int .i64 (I.hid ((X8 ⟨l,n,b,s⟩ f body).q.s))))],.row .byte 5 (I.hid ((X8 ⟨l,n,b,s⟩ f body).q.b))]],.abs (.cn c0),.abs (.cn c1),.abs (.cn c2),.abs (.cn c3)]⟩):Option CT)) l n b s c0 c1 c2 c3 m t mi f le body
 |_,_=>none
set_option maxHeartbeats 1000000 in
theorem zkP:zx Tryz.prog 125 (QJ alg):=by
 intro args hp r h;unfold QJ at h;split at h<;>cases h
 rename_i m t mi f le body n l s b c0 c1 c2 c3
 revert f l;intro(f:List Fld) (l:List Upl)
 simp only [CT.Good,zi];intro hneed;obtain⟨hf,hs,hn,hb,hbo⟩:=hneed;have hsm:=Yo f body;generalize hr:X8 ⟨l,n,b,s⟩ f body=r;obtain⟨⟨st,fs,bd⟩,⟨l',n',b',s'⟩⟩:=r;unfold X8 at hr
 refine spcG zh mixed Tryz.func125 (by kernel_rfl) { cfgG with nr:=[12],keep:=some [0,1,2,4,6,7,8,9,11,12,13,15,16,17,19,30,31,32,51,52,53,68,69,70]} [wF,wE,zO,zN,xq,xk,qX,qW,vY,vX,VJ,VI,QH,QG] (by kernel_rfl) ?_
 intro I X hI hX
 refine orcL ?_;go_invoke;refine orcS (by kernel_rfl) ?_
 simp only [zq,Nat.reduceAdd]
 have hh: ∀ {α:Type} (y:α),I.hid y=y:=fun y=>by subst hI;rfl
 simp only [hh];generalize qE f body=Z at *;obtain⟨ps,code⟩:=Z
 (repeat' (first|refine ja ?_ ?_|intro _))
 all_goals try(subst hI;(simp only [nrmA,nrmB,nrlB,reduceCtorEq,V0.agg.injEq,HO.pack.injEq,HO.obj.injEq] at *);first|done|exact hf.1|(exact(hf.2 _ ‹_›).1)|(exact(hf.2 _ ‹_›).2)|omega|(exact jM _)|(((repeat(first|rewrite [if_pos (by first|omega|assumption|(simp only [*,or_self,or_true,true_or,or_false,false_or,jf,jg,jd,je,and_self,and_true,true_and];done)|(simp only [*];omega)|(simp [*];done)|(simp [*];omega))] at hr|rewrite [if_neg (by first|omega|assumption|(simp only [*,or_self,or_true,true_or,or_false,false_or,jf,jg,jd,je,and_self,and_true,true_and];done)|(simp only [*];omega)|(simp [*];done)|(simp [*];omega))] at hr)));cases hr;simp [sV];done))
 have hco:code=0:=by
  subst hI;simp only [nrmA,nrmB,nrlB,reduceCtorEq] at *;omega
 rw [if_neg (by simp [hco])] at hr
 dsimp only at hr hsm;have hrl:=zj6 ps
 refine zB hI zh mixed [wF,wE,zO,zN,xq,xk,qX,qW,vY,vX,VJ,VI,QH,QG] hX [0,6,7,9,30,31,32] (fun(g:Nat × Int)=>match g with|(i,r)=>i≤ps.length∧0≤r∧r+XV (ps.drop i)=XV ps) (fun(g:Nat × Int)=>match g with|(i,r)=>⟨[(0,.v (.one (.ptr 0 0))),(6,.v (.one (.ptr 6 0))),(7,.v (.one (.p (.list .prt ps)))),(9,.v (.one (.p (.int .i64 r)))),(30,.v (.one (.p (.list .prt ps)))),(31,.v (.one (.p (.int .i64 ((I.len (α:=Prt) ps)))))),(32,.v (.one (.p (.int .i64 i))))],[.obj 50 [(.ptr 1 0),(.ptr 2 0),(.ptr 3 0),(.ptr 4 0),(.ptr 5 0)],.pack [.obj 54 [(.ptr 1 0),(.ptr 2 0)],.pack [.obj 124 [(.row 1),(.p (.int .i64 n))],.row .upl 81 l],.pack [.obj 156 [(.row 1),(.p (.int .i64 s))],.row .byte 5 b]],.abs (.cn c0),.abs (.cn c1),.abs (.cn c2),.abs (.cn c3),.pack [.obj 128 [(.p (.int .i64 0)),.nilS,.nilS]]],111,none⟩) (fun(g:Nat × Int)=>match g with|(i,r)=>ps.length - i) (0,0) (by kernel_rfl) (by kernel_rfl) ?_ ?_
 · exact⟨jM _,Int.le_refl 0,by simp⟩
 rintro⟨i,r⟩ ⟨h1,h2,h3⟩ A hA;simp only at hA h1 h2 h3;have hd:=fun h=>zmb (ps:=ps) (i:=i) h;have hnn:=zj5 (ps.drop (i+1));have hbl:=Int.natCast_nonneg (ps.getD i ⟨[],[],[],[]⟩).bytes.length
 have hend: ¬ i<ps.length→r=XV ps:=fun h=>by rw [jF (by omega)] at h3;simp only [XV] at h3;omega
 refine orcL ?_;go_invoke;refine orcS (by kernel_rfl) ?_
 simp only [zq,Nat.reduceAdd]
 (repeat' (first|refine ja ?_ ?_|intro _))
 all_goals try(subst hI;(simp only [nrmA,nrmB,nrlB,reduceCtorEq,V0.agg.injEq,HO.pack.injEq,HO.obj.injEq] at *);first|done|omega|(exact jM _)|(have hd:=hd (by omega);omega)|(exact hA (i+1,_) ⟨by dsimp only;omega,by dsimp only;omega,by dsimp only;rw [hd (by omega)] at h3;omega⟩ (by dsimp only;omega))|(rw [hend (by omega)] at *;((repeat(first|rewrite [if_pos (by first|omega|assumption|(simp only [*,or_self,or_true,true_or,or_false,false_or,jf,jg,jd,je,and_self,and_true,true_and];done)|(simp only [*];omega)|(simp [*];done)|(simp [*];omega))] at hr|rewrite [if_neg (by first|omega|assumption|(simp only [*,or_self,or_true,true_or,or_false,false_or,jf,jg,jd,je,and_self,and_true,true_and];done)|(simp only [*];omega)|(simp [*];done)|(simp [*];omega))] at hr)));cases hr;simp [sV];done))
 have hil: ¬ i<ps.length:=by
  subst hI;simp only [nrmA,nrmB,nrlB,reduceCtorEq] at *;omega
 have hro:UY b (XV ps)=true:=by
  subst hI;simp only [nrmA,nrmB,nrlB,reduceCtorEq] at *;rw [hend hil] at *;assumption
 rw [if_neg (by simp [hro])] at hr
 clear hA hd hnn hbl hend h3 h2 h1
 refine zB hI zh mixed [wF,wE,zO,zN,xq,xk,qX,qW,vY,vX,VJ,VI,QH,QG] hX [0,6,12,13,51,52,53] (fun(g:Nat × List Upl × Int × Str × List Int × Str)=>match g with|(i,l1,n1,b1,ids,t1)=>i≤ps.length∧ul ⟨l1,n1,b1,s⟩ ids t1 (ps.drop i)=⟨⟨st,fs,bd⟩,⟨l',n',b',s'⟩⟩∧zK l1 n1∧n1≤n+i∧b1.length≤100000∧ids.length≤i∧t1.length≤60 * i) (fun(g:Nat × List Upl × Int × Str × List Int × Str)=>match g with|(i,l1,n1,b1,ids,t1)=>⟨[(0,.v (.one (.ptr 0 0))),(6,.v (.one (.ptr 6 0))),(12,.v (.one (.row 7))),(13,.v (.one (.p (.str t1)))),(51,.v (.one (.p (.list .prt ps)))),(52,.v (.one (.p (.int .i64 ((I.len (α:=Prt) ps)))))),(53,.v (.one (.p (.int .i64 i))))],[.obj 50 [(.ptr 1 0),(.ptr 2 0),(.ptr 3 0),(.ptr 4 0),(.ptr 5 0)],.pack [.obj 54 [(.ptr 1 0),(.ptr 2 0)],.pack [.obj 124 [(.row 1),(.p (.int .i64 n1))],.row .upl 81 l1],.pack [.obj 156 [(.row 1),(.p (.int .i64 s))],.row .byte 5 b1]],.abs (.cn c0),.abs (.cn c1),.abs (.cn c2),.abs (.cn c3),.pack [.obj 128 [(.p (.int .i64 0)),.nilS,.nilS]],.row .int 3 ids],111,none⟩) (fun(g:Nat × List Upl × Int × Str × List Int × Str)=>match g with|(i,l1,n1,b1,ids,t1)=>ps.length - i) (0,l,n,b,[],[]) (by kernel_rfl) (by kernel_rfl) ?_ ?_
 · exact⟨jM _,hr,hs,by simp,hb,jM _,jM _⟩
 rintro⟨i,l1,n1,b1,ids,t1⟩ ⟨h1,h2,h3,h4,h5,h6,h7⟩ A hA;simp only at hA h1 h2 h3 h4 h5 h6 h7
 have hx:i<ps.length→(ps.getD i ⟨[],[],[],[]⟩) ∈ ps:=fun h=>by rw [show ps.getD i ⟨[],[],[],[]⟩=ps[i] by simp [h]];exact List.getElem_mem h
 have hfd:=fun h=>ziB (q:=⟨l1,n1,b1,s⟩) (ids:=ids) (t:=t1) (ps:=ps) (i:=i) h
 have hend: ¬ i<ps.length→ul ⟨l1,n1,b1,s⟩ ids t1 (ps.drop i)=⟨⟨201,[],t1⟩,syS ⟨l1,n1,b1,s⟩⟩:=fun h=>by rw [jF (by omega)];rfl
 have hxf:i<ps.length→_:=fun h=>hsm.2.1 _ (hx h);have hxb:i<ps.length→_:=fun h=>zrV (hx h);have hql:=fun p=>zsc (q:=⟨l1,n1,b1,s⟩) h3 h5 p;have hn0:=h3.n0;have hdl:=vz (n1+1)
 refine orcL ?_;go_invoke;refine orcS (by kernel_rfl) ?_
 simp only [zq,Nat.reduceAdd]
 have e1:I.get ps ⟨[],[],[],[]⟩ (i:Int)=ps.getD i ⟨[],[],[],[]⟩:=by subst hI;first|rfl|simp
 simp only [e1];generalize ps.getD i ⟨[],[],[],[]⟩=x at *;have e0:(⟨x.name,x.file,x.type,x.bytes⟩:Prt)=x:=rfl;have hql:=hql x;simp only [e0,hh];generalize zej ⟨l1,n1,b1,s⟩ x=c at *;generalize sO ⟨l1,n1,b1,s⟩ x=Y at *;obtain⟨l2,n2,b2,s2⟩:=Y;obtain⟨g1,g2,g3,g4,g5⟩:=hql;dsimp only at g1 g2 g3 g4 g5 hfd;obtain rfl:s=s2:=g5.symm
 (repeat' (first|refine ja ?_ ?_|intro _))
 all_goals try(subst hI;(simp only [nrmA,nrmB,nrlB,reduceCtorEq,V0.agg.injEq,HO.pack.injEq,HO.obj.injEq] at *);first|done|omega|(with_reducible assumption)|(have hxf:=hxf (by omega);have hxb:=hxb (by omega);first|omega|with_reducible assumption)|(rw [if_pos (by with_reducible assumption)];first|omega|(have hxf:=hxf (by omega);rw [jk];simp only [jh,ji];omega))|(have hfd:=hfd (by omega);rw [h2] at hfd;((repeat(first|rewrite [if_pos (by first|omega|assumption|(simp only [*,or_self,or_true,true_or,or_false,false_or,jf,jg,jd,je,and_self,and_true,true_and];done)|(simp only [*];omega)|(simp [*];done)|(simp [*];omega))] at hfd|rewrite [if_neg (by first|omega|assumption|(simp only [*,or_self,or_true,true_or,or_false,false_or,jf,jg,jd,je,and_self,and_true,true_and];done)|(simp only [*];omega)|(simp [*];done)|(simp [*];omega))] at hfd)));exact hA (i+1,l1,n1,b1,ids,t1) ⟨by dsimp only;omega,hfd.symm,h3,by dsimp only;omega,h5,by dsimp only;omega,by dsimp only;omega⟩ (by dsimp only;omega))|(rw [if_pos (show c=0 by omega)];have hxf:=hxf (by omega);simp only [jk,jh,ji];omega)|(rw [if_pos (show c=0 by omega)];have hxf:=hxf (by omega);have hfd:=hfd (by omega);rw [h2] at hfd;((repeat(first|rewrite [if_pos (by first|omega|assumption|(simp only [*,or_self,or_true,true_or,or_false,false_or,jf,jg,jd,je,and_self,and_true,true_and];done)|(simp only [*];omega)|(simp [*];done)|(simp [*];omega))] at hfd|rewrite [if_neg (by first|omega|assumption|(simp only [*,or_self,or_true,true_or,or_false,false_or,jf,jg,jd,je,and_self,and_true,true_and];done)|(simp only [*];omega)|(simp [*];done)|(simp [*];omega))] at hfd)));exact hA (i+1,l2,n2,b2,ids++[n1+1],t1++(decS (n1+1)++[32]++x.file++[10])) ⟨by dsimp only;omega,hfd.symm,g1,by dsimp only;omega,g2,by simp only [jk,jh,ji];omega,by simp only [jk,jh,ji];omega⟩ (by dsimp only;omega))|(rw [hend (by omega)] at h2;simp only [GA.mk.injEq,Rpl.mk.injEq,syS,Sto.mk.injEq] at h2;obtain⟨⟨rfl,rfl,rfl⟩,rfl,rfl,rfl,rfl⟩:=h2;simp))
 have hil:i<ps.length:=by
  subst hI;simp only [nrmA,nrmB,nrlB,reduceCtorEq] at *;omega
 have hc: ¬ c=0:=by
  subst hI;simp only [nrmA,nrmB,nrlB,reduceCtorEq] at *
  first|omega|with_reducible assumption
 have hfi: ¬ x.file=[]:=by
  subst hI;simp only [nrmA,nrmB,nrlB,reduceCtorEq] at *
  first|omega|with_reducible assumption
 have hfd:=hfd hil;rw [h2,if_neg hfi,if_pos hc] at hfd;generalize hD:XL ⟨l2,n2,b2,s⟩ ids=W at hfd;clear hA hend hxf hxb hdl h2
 refine zB hI zh mixed [wF,wE,zO,zN,xq,xk,qX,qW,vY,vX,VJ,VI,QH,QG] hX [0,6,17,68,69,70] (fun(g:Nat × List Upl × Int × Str)=>match g with|(j,l3,n3,b3)=>j≤ids.length∧XL ⟨l3,n3,b3,s⟩ (ids.drop j)=W∧zK l3 n3∧n3≤200000∧b3.length≤100000) (fun(g:Nat × List Upl × Int × Str)=>match g with|(j,l3,n3,b3)=>⟨[(0,.v (.one (.ptr 0 0))),(6,.v (.one (.ptr 6 0))),(17,.v (.one (.p (.int .i64 c)))),(68,.v (.one (.row 7))),(69,.v (.one (.p (.int .i64 ((I.len (α:=Int) ids)))))),(70,.v (.one (.p (.int .i64 j))))],[.obj 50 [(.ptr 1 0),(.ptr 2 0),(.ptr 3 0),(.ptr 4 0),(.ptr 5 0)],.pack [.obj 54 [(.ptr 1 0),(.ptr 2 0)],.pack [.obj 124 [(.row 1),(.p (.int .i64 n3))],.row .upl 81 l3],.pack [.obj 156 [(.row 1),(.p (.int .i64 s))],.row .byte 5 b3]],.abs (.cn c0),.abs (.cn c1),.abs (.cn c2),.abs (.cn c3),.pack [.obj 128 [(.p (.int .i64 0)),.nilS,.nilS]],.row .int 3 ids],111,none⟩) (fun(g:Nat × List Upl × Int × Str)=>match g with|(j,l3,n3,b3)=>ids.length - j) (0,l2,n2,b2) (by kernel_rfl) (by kernel_rfl) ?_ ?_
 · exact⟨jM _,hD,g1,by omega,g2⟩
 rintro⟨j,l3,n3,b3⟩ ⟨k1,k2,k3,k4,k5⟩ B hB;simp only at hB k1 k2 k3 k4 k5;have hdd:=fun h=>ziI (q:=⟨l3,n3,b3,s⟩) (ids:=ids) (j:=j) h
 have hend: ¬ j<ids.length→(⟨l3,n3,b3,s⟩:Sto)=W:=fun h=>by rw [← k2,jF (by omega)];rfl
 have hfin: ¬ j<ids.length→st=(if c=4 then 413 else 507)∧[]=bd∧n3=n'∧l3=l'∧(b3.length:Int)=s'∧b3=b':=fun h=>by
  rw [← hend h] at hfd;simp only [GA.mk.injEq,Rpl.mk.injEq,syS,Sto.mk.injEq,sV] at hfd;obtain⟨⟨q1,q2,q3⟩,q4,q5,q6,q7⟩:=hfd;exact⟨q1,q3.symm,q5.symm,q4.symm,q7.symm,q6.symm⟩
 refine orcL ?_;go_invoke;refine orcS (by kernel_rfl) ?_
 simp only [zq,Nat.reduceAdd]
 have e2:I.get ids 0 (j:Int)=ids.getD j 0:=by subst hI;first|rfl|simp
 simp only [e2];generalize ids.getD j 0=y at *;have w1:=zah k3 b3 (zbX y)
 have w2:wrtN l3 n3 b3 (zbX y)=n3:=Zc (show(4:Int)≠1 by decide)
 have w3:=Zm (l:=l3) (n:=n3) (b:=b3) (zbX y) k5;unfold zbX at w1 w2 w3 hdd
 (repeat' (first|refine ja ?_ ?_|intro _))
 all_goals subst hI
 all_goals try simp only [nrmA,nrmB,nrlB,reduceCtorEq,V0.agg.injEq,HO.pack.injEq,HO.obj.injEq] at *
 all_goals first|omega|(with_reducible assumption)|(exact⟨k3,k4,k5⟩)|(exact jM _)|(have hdd:=hdd (by omega);rw [k2] at hdd;exact hB (j+1,wrtL l3 n3 b3 ⟨4,y,0,[]⟩,wrtN l3 n3 b3 ⟨4,y,0,[]⟩,wrtB l3 n3 b3 ⟨4,y,0,[]⟩) ⟨by dsimp only;omega,hdd.symm,w1,by dsimp only;omega,w3⟩ (by dsimp only;omega))|(obtain⟨q1,q2,q3,q4,q5,q6⟩:=hfin (by omega);first|(rw [if_pos (by with_reducible assumption)] at q1;exact⟨q1.symm,q2⟩)|(rw [if_neg (by with_reducible assumption)] at q1;exact⟨q1.symm,q2⟩)|exact⟨⟨q3,q4⟩,q5,q6⟩)|trace_state
def zsr:Know Tryz.prog:=⟨125,QJ,zkP⟩
def zsq:Know Tryz.prog:=⟨125,fun I=>zy I (QJ I),zf zkP⟩
end Go.Proofs.YtkjepecoodjbmaaGreatDoor
namespace Go.Proofs.YtkjepecoodjbmaaGreatDoor
open Go Go.Sep Go.Ab
set_option maxRecDepth 100000
def zs5:Cfg:= { sl:=[⟨207,0,.byte,some 5⟩]}
def zab (I:Alg) (args:List D) (hp:List HO):Option CT:=match args,hp with
 |[],[]=>(fun(_:Unit)=>(some (.one ⟨I.hid (True),(.ret (.v (.one (.ptr 0 0)))),[.pack [.obj 228 [(.ptr 1 0),(.p (.int .i64 0)),(.p (.int .i64 0)),(.p (.int .i64 0)),(.p (.int .i64 0)),(.p (.int .i64 0))],.pack [.obj 207 [(.row 1),(.p (.bool false)),(.p (.int .i64 0))],.row .byte 5 (I.hid ([]))]]]⟩):Option CT)) ()
 |_,_=>none
theorem zly:zx Tryz.prog 213 (zab alg):=by
 intro args hp r h;unfold zab at h;split at h<;>cases h
 simp only [CT.Good,zi];intro _
 refine spcG zh mixed Tryz.func213 (by kernel_rfl) { zs5 with keep:=some [0]} [QC,QB] (by kernel_rfl) ?_
 intro I X hI hX
 refine orcL ?_;go_invoke;refine orcS (by kernel_rfl) ?_
 simp only [zq,Nat.reduceAdd];subst hI;exact⟨trivial,trivial,rfl⟩
def zlx:Know Tryz.prog:=⟨213,zab,zly⟩
def zlw:Know Tryz.prog:=⟨213,fun I=>zy I (zab I),zf zly⟩
def Uz (I:Alg) (args:List D) (hp:List HO):Option CT:=match args,hp with
 |[.v (.one (.ptr 0 0)),.v (.one (.p (.int .i64 k)))],[.pack [.obj 228 [(.ptr 1 0),(.p (.int .i64 p)),(.p (.int .i64 l)),(.p (.int .i64 a)),(.p (.int .i64 t)),(.p (.int .i64 c))],.pack [.obj 207 [(.row 1),(.p (.bool lc)),(.p (.int .i64 lo))],.row .byte 5 lb]]]=>(fun(lb:Str) (lc:Bool) (lo p l a t c k:Int)=>(some (.one ⟨I.hid (True),(.ret (.tup [(.one (.row 1)),(.one (.p (.bool false))),(.one (.p (.int .i64 k)))])),[.pack [.obj 228 [(.ptr 1 0),(.p (.int .i64 p)),(.p (.int .i64 l)),(.p (.int .i64 a)),(.p (.int .i64 t)),(.p (.int .i64 k))],.pack [.obj 207 [(.row 1),(.p (.bool lc)),(.p (.int .i64 lo))],.row .byte 5 lb]],.row .byte 5 (I.hid ([]))]⟩):Option CT)) lb lc lo p l a t c k
 |_,_=>none
theorem zhq:zx Tryz.prog 167 (Uz alg):=by
 intro args hp r h;unfold Uz at h;split at h<;>cases h
 rename_i k p l a t c lc lo lb;simp only [CT.Good,zi];intro _
 refine spcG zh mixed Tryz.func167 (by kernel_rfl) { zs5 with nr:=[4],keep:=some [0,1,4,5,6]} [] (by kernel_rfl) ?_
 intro I X hI hX
 refine orcL ?_;go_invoke;refine orcS (by kernel_rfl) ?_
 simp only [zq,Nat.reduceAdd];subst hI;simp only [nrmA,nrmB,nrlB,reduceCtorEq,HO.pack.injEq,HO.obj.injEq]
 try trivial
def zqy:Know Tryz.prog:=⟨167,Uz,zhq⟩
def zqx:Know Tryz.prog:=⟨167,fun I=>zy I (Uz I),zf zhq⟩
def ZP (I:Alg) (args:List D) (hp:List HO):Option CT:=match args,hp with
 |[.v (.one (.p (.str s)))],[]=>(fun(s:Str)=>(some (.one ⟨I.hid (s.length≤1000000),(.ret (.tup [(.one (.p (.int .i64 (I.hid ((if(Yh s).2 then(Yh s).1 else 0)))))),(.one (.p (.int .i64 (I.hid ((if(Yh s).2 then 0 else 7))))))])),[]⟩):Option CT)) s
 |_,_=>none
theorem zbC:zx Tryz.prog 209 (ZP alg):=by
 intro args hp r h;unfold ZP at h;split at h<;>cases h
 rename_i s;simp only [CT.Good,zi];intro hneed;generalize hr:Yh s=r;obtain⟨n,ok⟩:=r;unfold Yh at hr;have hl:=(zeL s 59).1
 refine spcG zh mixed Tryz.func209 (by kernel_rfl) { keep:=some [0,2,3,4,7,8]} [UD,UC,znS,znR,zeT,zeS] (by kernel_rfl) ?_
 intro I X hI hX
 refine orcL ?_;go_invoke;refine orcS (by kernel_rfl) ?_
 simp only [zq,Nat.reduceAdd];subst hI;simp only [nrmA,nrmB,nrlB,reduceCtorEq];rw [hr];cases ok
 all_goals(repeat' (first|refine ja ?_ ?_|intro _))<;>first|omega|exact jb|exact jc ‹False›|skip
 all_goals first
  |exact hneed
  |trivial
  |omega
  |(simp at *;done)
def ziN:Know Tryz.prog:=⟨209,ZP,zbC⟩
def ziM:Know Tryz.prog:=⟨209,fun I=>zy I (ZP I),zf zbC⟩
def Uu (I:Alg) (args:List D) (hp:List HO):Option CT:=match args,hp with
 |[.v (.one (.ptr 0 0)),.v (.one (.p (.str s)))],[.pack [.obj 228 [(.ptr 1 0),(.p (.int .i64 p)),(.p (.int .i64 l)),(.p (.int .i64 a)),(.p (.int .i64 t)),(.p (.int .i64 c))],.pack [.obj 207 [(.row 1),(.p (.bool lc)),(.p (.int .i64 lo))],.row .byte 5 lb]]]=>(fun(lb:Str) (lc:Bool) (lo p l a t c:Int) (s:Str)=>(some (.one ⟨I.hid (s.length≤1000000∧(0≤a∧a≤1000000)∧0≤t∧t≤1000000),(.ret (.v (.one (.p (.int .i64 (I.hid ((chL ⟨⟨lb,lc,lo⟩,p,l,a,t,c⟩ s).2))))))),[.pack [.obj 228 [(.ptr 1 0),(.p (.int .i64 (I.hid ((chL ⟨⟨lb,lc,lo⟩,p,l,a,t,c⟩ s).1.pos)))),(.p (.int .i64 (I.hid ((chL ⟨⟨lb,lc,lo⟩,p,l,a,t,c⟩ s).1.left)))),(.p (.int .i64 (I.hid ((chL ⟨⟨lb,lc,lo⟩,p,l,a,t,c⟩ s).1.all)))),(.p (.int .i64 (I.hid ((chL ⟨⟨lb,lc,lo⟩,p,l,a,t,c⟩ s).1.tails)))),(.p (.int .i64 c))],.pack [.obj 207 [(.row 1),(.p (.bool lc)),(.p (.int .i64 lo))],.row .byte 5 lb]]]⟩):Option CT)) lb lc lo p l a t c s
 |_,_=>none
set_option maxHeartbeats 4000000 in
theorem zho:zx Tryz.prog 168 (Uu alg):=by
 intro args hp r h;unfold Uu at h;split at h<;>cases h
 rename_i s p l a t c lc lo lb;simp only [CT.Good,zi];intro hneed;obtain⟨hs,⟨ha0,ha1⟩,ht0,ht1⟩:=hneed;generalize hr:chL ⟨⟨lb,lc,lo⟩,p,l,a,t,c⟩ s=r;unfold chL at hr;simp only at hr;have hsz:=TS s
 have hsz2:(Yh s).2=false∨(Yh s).2=true:=by cases(Yh s).2<;>simp
 obtain⟨⟨⟨rb,rc,ro⟩,rp,rl,ra,rt,rc2⟩,re⟩:=r
 refine spcG zh mixed Tryz.func168 (by kernel_rfl) { zs5 with keep:=some [0,1,4,5,6,8,12]} [Vo,Vm,ziN,ziM] (by kernel_rfl) ?_
 intro I X hI hX
 refine orcL ?_;go_invoke;refine orcS (by kernel_rfl) ?_
 simp only [zq,Nat.reduceAdd];subst hI;simp only [nrmA,nrmB,nrlB,reduceCtorEq,HO.pack.injEq,HO.obj.injEq];generalize Yh s=z at *;obtain⟨n,ok⟩:=z;simp only at *;cases ok
 all_goals simp only [jd,if_false,if_true] at *
 all_goals(repeat' (first|refine ja ?_ ?_|intro _))<;>first|omega|exact jb|exact jc ‹False›|skip
 all_goals first
  |exact hs
  |omega
  |(exfalso;simp at *;done)
  |(((repeat(first|rewrite [if_pos (by first|omega|assumption|(simp only [*,or_self,or_true,true_or,or_false,false_or,jf,jg,jd,je,and_self,and_true,true_and];done)|(simp only [*];omega)|(simp [*];done)|(simp [*];omega))] at hr|rewrite [if_neg (by first|omega|assumption|(simp only [*,or_self,or_true,true_or,or_false,false_or,jf,jg,jd,je,and_self,and_true,true_and];done)|(simp only [*];omega)|(simp [*];done)|(simp [*];omega))] at hr)));cases hr;first|rfl|done|with_reducible assumption|exact⟨rfl,rfl,rfl⟩|(simp;done)|(simp;omega))
def zqw:Know Tryz.prog:=⟨168,Uu,zho⟩
def zqv:Know Tryz.prog:=⟨168,fun I=>zy I (Uu I),zf zho⟩
theorem zlz (s:Ch) (t:Str):(chL s t).1.ln=s.ln∧(chL s t).1.code=s.code:=by
 unfold chL
 split
 · split<;>exact⟨rfl,rfl⟩
 split
 · split
   · exact⟨rfl,rfl⟩
   split
   · exact⟨rfl,rfl⟩
   split<;>exact⟨rfl,rfl⟩
 split
 · split
   · exact⟨rfl,rfl⟩
   split<;>exact⟨rfl,rfl⟩
 · exact⟨rfl,rfl⟩
def Uy (I:Alg) (args:List D) (hp:List HO):Option CT:=match args,hp with
 |[.v (.one (.ptr 0 0)),.v (.one (.p (.int .u8 k)))],[.pack [.obj 228 [(.ptr 1 0),(.p (.int .i64 p)),(.p (.int .i64 l)),(.p (.int .i64 a)),(.p (.int .i64 t)),(.p (.int .i64 c))],.pack [.obj 207 [(.row 1),(.p (.bool lc)),(.p (.int .i64 lo))],.row .byte 5 lb]]]=>(fun(lb:Str) (lc:Bool) (lo p l a t c k:Int)=>(some (.one ⟨I.hid ((0≤k∧k≤255)∧lb.length≤1000000∧(-1000000≤l∧l≤100000000)∧(0≤a∧a≤1000000)∧0≤t∧t≤1000000),(.ret (.tup [(.one (.row 1)),(.one (.p (.bool (I.hid ((chF ⟨⟨lb,lc,lo⟩,p,l,a,t,c⟩ (UInt8.ofNat k.toNat)).2.2.1))))),(.one (.p (.int .i64 (I.hid ((chF ⟨⟨lb,lc,lo⟩,p,l,a,t,c⟩ (UInt8.ofNat k.toNat)).2.2.2)))))])),[.pack [.obj 228 [(.ptr 1 0),(.p (.int .i64 (I.hid ((chF ⟨⟨lb,lc,lo⟩,p,l,a,t,c⟩ (UInt8.ofNat k.toNat)).1.pos)))),(.p (.int .i64 (I.hid ((chF ⟨⟨lb,lc,lo⟩,p,l,a,t,c⟩ (UInt8.ofNat k.toNat)).1.left)))),(.p (.int .i64 (I.hid ((chF ⟨⟨lb,lc,lo⟩,p,l,a,t,c⟩ (UInt8.ofNat k.toNat)).1.all)))),(.p (.int .i64 (I.hid ((chF ⟨⟨lb,lc,lo⟩,p,l,a,t,c⟩ (UInt8.ofNat k.toNat)).1.tails)))),(.p (.int .i64 (I.hid ((chF ⟨⟨lb,lc,lo⟩,p,l,a,t,c⟩ (UInt8.ofNat k.toNat)).1.code))))],.pack [.obj 207 [(.row 1),(.p (.bool (I.hid ((chF ⟨⟨lb,lc,lo⟩,p,l,a,t,c⟩ (UInt8.ofNat k.toNat)).1.ln.cr)))),(.p (.int .i64 (I.hid ((chF ⟨⟨lb,lc,lo⟩,p,l,a,t,c⟩ (UInt8.ofNat k.toNat)).1.ln.code))))],.row .byte 5 (I.hid ((chF ⟨⟨lb,lc,lo⟩,p,l,a,t,c⟩ (UInt8.ofNat k.toNat)).1.ln.b))]],.row .byte 5 (I.hid ((chF ⟨⟨lb,lc,lo⟩,p,l,a,t,c⟩ (UInt8.ofNat k.toNat)).2.1))]⟩):Option CT)) lb lc lo p l a t c k
 |_,_=>none
set_option maxHeartbeats 8000000 in
theorem zhp:zx Tryz.prog 119 (Uy alg):=by
 intro args hp r h;unfold Uy at h;split at h<;>cases h
 rename_i k p l a t c lc lo lb;simp only [CT.Good,zi];intro hneed;obtain⟨⟨hk0,hk1⟩,hlb,⟨hl0,hl1⟩,⟨ha0,ha1⟩,ht0,ht1⟩:=hneed;generalize hr:chF ⟨⟨lb,lc,lo⟩,p,l,a,t,c⟩ (UInt8.ofNat k.toNat)=r;unfold chF at hr;simp only at hr;have hkeep:=zlz ⟨(lnF ⟨lb,lc,lo⟩ (UInt8.ofNat k.toNat)).1,p,l,a,t,c⟩ (lnF ⟨lb,lc,lo⟩ (UInt8.ofNat k.toNat)).2.1;have hlen:=Yt ⟨lb,lc,lo⟩ (UInt8.ofNat k.toNat);obtain⟨⟨⟨rb,rc,ro⟩,rp,rl,ra,rt,rc2⟩,rd,ris,re⟩:=r
 refine spcG zh mixed Tryz.func119 (by kernel_rfl) { zs5 with nr:=[4],keep:=some [0,1,4,5,6,7,8,9]} [rP,rO,zqy,zqx,zqw,zqv] (by kernel_rfl) ?_
 intro I X hI hX
 refine orcL ?_;go_invoke;refine orcS (by kernel_rfl) ?_
 simp only [zq,Nat.reduceAdd];subst hI;simp only [nrmA,nrmB,nrlB,reduceCtorEq,HO.pack.injEq,HO.obj.injEq];generalize lnF ⟨lb,lc,lo⟩ (UInt8.ofNat k.toNat)=q at *;obtain⟨⟨qb,qc,qo⟩,qs,qis,qe⟩:=q;simp only at *;generalize chL ⟨⟨qb,qc,qo⟩,p,l,a,t,c⟩ qs=z at *;obtain⟨⟨⟨zb,zc,zo⟩,zp,zl,za,zt,zk⟩,ze⟩:=z;simp only [Ln.mk.injEq] at *;obtain⟨⟨rfl,rfl,rfl⟩,rfl⟩:=hkeep;cases qis
 all_goals simp only [jd,if_false,if_true] at *
 all_goals(repeat' (first|refine ja ?_ ?_|intro _))<;>first|omega|exact jb|exact jc ‹False›|skip
 all_goals first
  |omega
  |(exfalso;simp at *;done)
  |(((repeat(first|rewrite [if_pos (by first|omega|assumption|(simp only [*,or_self,or_true,true_or,or_false,false_or,jf,jg,jd,je,and_self,and_true,true_and];done)|(simp only [*];omega)|(simp [*];done)|(simp [*];omega))] at hr|rewrite [if_neg (by first|omega|assumption|(simp only [*,or_self,or_true,true_or,or_false,false_or,jf,jg,jd,je,and_self,and_true,true_and];done)|(simp only [*];omega)|(simp [*];done)|(simp [*];omega))] at hr)));cases hr;first|rfl|done|with_reducible assumption|exact⟨rfl,rfl,rfl⟩|(simp;done)|(simp;omega))
def Ux:Know Tryz.prog:=⟨119,Uy,zhp⟩
def Uw:Know Tryz.prog:=⟨119,fun I=>zy I (Uy I),zf zhp⟩
end Go.Proofs.YtkjepecoodjbmaaGreatDoor
namespace Go.Proofs.YtkjepecoodjbmaaGreatDoor
open Go Go.Sep Go.Ab
set_option maxRecDepth 100000
theorem zoT: ∀ (s:Str) (n:Int),0≤n→(numG 16 n s).1+1≤(n+1) * 16 ^ s.length
 |[],n,h=>by simp [numG]
 | c ::l,n,h=>by
   have h16:(0:Int)<16 ^ l.length:=Int.pow_pos (by decide)
   have e:((n+1) * 16 ^ (c::l).length:Int)=((n+1) * 16) * 16 ^ l.length:=by rw [jh,Int.pow_succ,Int.mul_assoc,Int.mul_comm (16 ^ l.length) 16]
   rw [e,numG]
   split
   · have h1:(1:Int) * 1≤((n+1) * 16) * 16 ^ l.length:=Int.mul_le_mul (by omega) (by omega) (by decide) (by omega)
     simpa using h1
   · rename_i hc
     have h2:=zoT l (n * 16+hexK c.toNat) (by omega)
     exact Int.le_trans h2 (Int.mul_le_mul_of_nonneg_right (by omega) (by omega))
theorem zrk (t:Str):(Yh t).1≤16777215:=by
 unfold Yh numA
 split
 · exact by decide
 · rename_i h
   have h1:=zoT (Lib.trimS (cutB t 59).1 [32,9]) 0 (Int.le_refl _)
   have h2:(Lib.trimS (cutB t 59).1 [32,9]).length≤6:=by omega
   have h3:(16:Int) ^ (Lib.trimS (cutB t 59).1 [32,9]).length≤16 ^ 6:=by
    have:=Nat.pow_le_pow_right (show 0<16 by decide) h2
    exact_mod_cast this
   have h4:(16:Int) ^ 6=16777216:=by decide
   omega
structure ChI (s:Ch) (i:Nat):Prop where
 b:s.ln.b.length≤i
 a0:0≤s.all
 a1:s.all≤i
 t0:0≤s.tails
 t1:s.tails≤i
 l0: -(i:Int)≤s.left
 l1:s.left≤16777215
theorem zwV:ChI ch0 0:=⟨by decide,by decide,by decide,by decide,by decide,by decide,by decide⟩
theorem zxy {s:Ch} {i:Nat} (h:ChI s i) (c:UInt8):ChI (chF s c).1 (i+1):=by
 have hb:=zsa s.ln c;have h0:=h;obtain⟨h1,h2,h3,h4,h5,h6,h7⟩:=h;unfold chF
 split
 · exact⟨by show s.ln.b.length≤i+1;omega,h2,by show s.all≤_;omega,h4,by show s.tails≤_;omega,by show _≤s.left;omega,h7⟩
 split
 · constructor<;>simp only<;>omega
 split
 · constructor<;>simp only<;>omega
 split
 · constructor<;>simp only<;>omega
 split
 · have hl: ∀ t,(chL { s with ln:=(lnF s.ln c).1} t).1.ln=(lnF s.ln c).1:=fun t=>(zlz _ _).1
   have key: ∀ t,ChI (chL { s with ln:=(lnF s.ln c).1} t).1 (i+1):=fun t=>by
    have hz:=TS t;have hz2:=zrk t;unfold chL
    repeat' split
    all_goals constructor
    all_goals simp only
    all_goals omega
   split
   · obtain⟨k1,k2,k3,k4,k5,k6,k7⟩:=key (lnF s.ln c).2.1
     exact⟨k1,k2,k3,k4,k5,k6,k7⟩
   · exact key _
 · constructor<;>simp only<;>omega
theorem zlA {s:Ch} {i:Nat} (h:ChI s i) (hi:i≤1000000):s.ln.b.length≤1000000∧(-1000000≤s.left∧s.left≤100000000)∧(0≤s.all∧s.all≤1000000)∧0≤s.tails∧s.tails≤1000000:=by
 obtain⟨h1,h2,h3,h4,h5,h6,h7⟩:=h;omega
theorem zeP {s:Ch} {i j:Nat} (h:ChI s i) (k:i≤j):ChI s j:=by
 obtain⟨h1,h2,h3,h4,h5,h6,h7⟩:=h
 exact⟨by omega,h2,by omega,h4,by omega,by omega,h7⟩
end Go.Proofs.YtkjepecoodjbmaaGreatDoor
namespace Go.Proofs.YtkjepecoodjbmaaGreatDoor
open Go Go.Sep Go.Ab
set_option maxRecDepth 100000
structure RqI (q:Rq) (i:Nat):Prop where
 lb:q.ln.b.length≤i
 ck: ∀ c,q.ck=some c→ChI c i
 p3:q.pos=3→q.ck≠none
 ow:q.pos=0∨q.pos=1→q.own=true
 fl:q.h.fields.length≤16
 ff: ∀ f ∈ q.h.fields,f.name.length≤i∧f.value.length≤i
 l0:0≤q.left
 l1:q.left≤4000
 l2:q.pos=2→1≤q.left
 on:q.out.length≤4 * i
theorem zxi:RqI rq0 0:=⟨by decide,(fun c h=>by cases h),(fun h=>by cases h),fun _=>rfl,by decide,(fun f h=>by cases h),by decide,by decide,(fun h=>by cases h),by decide⟩
theorem zjZ {q:Rq} {i j:Nat} (h:RqI q i) (k:i≤j):RqI q j:=by
 obtain⟨h1,h2,h3,h4,h5,h6,h7,h8,h9,h10⟩:=h
 exact⟨by omega,fun c e=>zeP (h2 c e) k,h3,h4,h5,fun f m=>by have:=h6 f m;omega,h7,h8,h9,by omega⟩
theorem zn3 {q:Rq} {i:Nat} (h:RqI q i) {o:List Evt} (k:o.length≤4 * i):RqI { q with out:=o} i:=⟨h.lb,h.ck,h.p3,h.ow,h.fl,h.ff,h.l0,h.l1,h.l2,k⟩
theorem zie (mi:Int) (f:List Fld): -1≤(lenM mi f).1∧(lenM mi f).1≤4000:=by
 have hs: ∀ (l:List Str) (a:Str) (n:Int),0≤n→0≤(sizM a n l).1:=by
  intro l
  induction l with
  |nil=>intro a n h;exact h
  | cons s r ih=>
    intro a n h;unfold sizM
    split
    · exact Int.le_refl _
    · split
      · exact Int.le_refl _
      · exact ih _ _ (uF s).1
 unfold lenM
 repeat' split
 all_goals simp only
 all_goals first
  |decide
  |(have:=hs (valsF f YH) ((valsF f YH).getD 0 []) 0 (by decide);omega)
theorem zwZ (s:Str):(begM s).2.fields=[]:=by
 unfold begM
 split
 · repeat' split
   all_goals rfl
 · rfl
theorem zrJ {q:Rq} {i:Nat} (h:RqI q i) (k:Nat) (ho:q.out.length≤k):RqI { (yR q).1 with out:=[],pos:=4} i∧((yR q).2=0→RqI { (yR q).1 with out:=[]} i)∧(yR q).1.out.length≤k+2:=by
 have hl:=zie q.h.minor q.h.fields;obtain⟨h1,h2,h3,h4,h5,h6,h7,h8,h9,h10⟩:=h;unfold yR qj
 split
 · exact⟨⟨h1,h2,(fun h=>by cases h),(fun h=>by simp at h),h5,h6,h7,h8,(fun h=>by cases h),by simp⟩,(fun h=>by cases h),by simp only;omega⟩
 split
 · rename_i hz
   exact⟨⟨h1,h2,(fun h=>by cases h),(fun h=>by simp at h),h5,h6,h7,h8,(fun h=>by cases h),by simp⟩,fun h=>absurd h hz,by simp only;omega⟩
 split
 · exact⟨⟨h1,h2,(fun h=>by cases h),(fun h=>by simp at h),by simp [hd0],(fun f m=>by cases m),h7,h8,(fun h=>by cases h),by simp⟩,fun _=>⟨h1,h2,(fun h=>by cases h),fun _=>rfl,by simp [hd0],(fun f m=>by cases m),h7,h8,(fun h=>by cases h),by simp⟩,by simp;omega⟩
 split
 · exact⟨⟨h1,h2,(fun h=>by cases h),(fun h=>by simp at h),h5,h6,by simp only;omega,by simp only;omega,(fun h=>by cases h),by simp⟩,fun _=>⟨h1,h2,(fun h=>by cases h),(fun h=>by simp at h),h5,h6,by simp only;omega,by simp only;omega,fun _=>by simp only;omega,by simp⟩,by simp;omega⟩
 · exact⟨⟨h1,(fun c e=>by cases e;exact zeP zwV (jM _)),(fun h=>by cases h),(fun h=>by simp at h),h5,h6,h7,h8,(fun h=>by cases h),by simp⟩,fun _=>⟨h1,(fun c e=>by cases e;exact zeP zwV (jM _)),(fun _ h=>by cases h),(fun h=>by simp at h),h5,h6,h7,h8,(fun h=>by simp at h),by simp⟩,by simp;omega⟩
theorem Qk {q:Rq} {i:Nat} (h:RqI q i):RqI { q with out:=[],pos:=4} i:=⟨h.lb,h.ck,(fun h=>by cases h),(fun h=>by simp at h),h.fl,h.ff,h.l0,h.l1,(fun h=>by cases h),by simp⟩
theorem zrD {q:Rq} {i:Nat} (h:RqI q i) (hp:q.pos=0∨q.pos=1) {s:Str} (hs:s.length≤i) (k:Nat) (ho:q.out.length≤k):RqI { (zW q s).1 with out:=[],pos:=4} i∧((zW q s).2=0→RqI { (zW q s).1 with out:=[]} i)∧(zW q s).1.out.length≤k+2:=by
 have h0:RqI { q with out:=[]} i:=zn3 h (by simp)
 have hx:=Qk h;have hd:=zrJ h k ho;have hpl:=zfN s;have hb:=zwZ s;have how:=h.ow hp;unfold zW
 split
 · split
   · exact⟨hx,fun _=>h0,by simp only;omega⟩
   split
   · have h1:RqI { q with h:=(begM s).2,pos:=1,out:=[]} i:=⟨h.lb,h.ck,(fun h=>by cases h),fun _=>how,by simp [hb],(by simp [hb]),h.l0,h.l1,(fun h=>by cases h),by simp⟩
     have hd1:=Qk h1
     exact⟨hd1,fun _=>h1,by simp only;omega⟩
   split
   · have h1:RqI { q with h:=(begM s).2,out:=[]} i:=⟨h.lb,h.ck,h.p3,fun _=>how,by simp [hb],(by simp [hb]),h.l0,h.l1,h.l2,by simp⟩
     have hd1:=Qk h1
     exact⟨hd1,fun _=>h1,by simp only;omega⟩
   · exact⟨hx,fun _=>h0,by simp only;omega⟩
 · split
   · exact hd
   split
   · exact⟨hx,fun _=>h0,by simp only;omega⟩
   · rename_i h16
     have h1:RqI { q with h:= { q.h with fields:=q.h.fields++[(uP s).1]},out:=[]} i:=by
      refine⟨h.lb,h.ck,h.p3,h.ow,?_,?_,h.l0,h.l1,h.l2,by simp⟩
      · have:=h.fl;simp;omega
      · intro f hf
        rcases List.mem_append.1 hf with hf|hf
        · exact h.ff f hf
        · simp only [List.mem_singleton] at hf
          subst hf;omega
     have hd1:=Qk h1
     exact⟨hd1,fun _=>h1,by simp only;omega⟩
theorem zl8 {q:Rq} {i:Nat} (h:RqI q i) (c:UInt8):RqI (rqF q c) (i+1):=by
 have hm:=zjZ h (Nat.le_succ i);have hon:=h.on;unfold rqF
 split
 · rename_i hp
   have h2:=h.l2 hp
   split
   · exact⟨hm.lb,hm.ck,(fun h=>by cases h),fun _=>rfl,by simp [qj,hd0],(fun f m=>by cases m),(Int.le_refl _),(show(0:Int)≤4000 by decide),(fun h=>by cases h),by simp [qj];omega⟩
   · exact⟨hm.lb,hm.ck,hm.p3,hm.ow,hm.fl,hm.ff,by have:=h.l0;simp only;omega,by have:=h.l1;simp only;omega,fun _=>by simp only;omega,by simp;omega⟩
 split
 · rename_i hp
   have hc:ChI (chF (ckOf q) c).1 (i+1):=by
    unfold ckOf
    cases hq:q.ck with
    |none=>exact absurd hq (h.p3 hp)
    |some x=>exact zxy (h.ck x hq) c
   split
   · exact⟨hm.lb,(fun x e=>by cases e;exact hc),(fun h=>by cases h),(fun h=>by simp [vT] at h),hm.fl,hm.ff,hm.l0,hm.l1,(fun h=>by cases h),by simp [vT];omega⟩
   split
   · refine⟨hm.lb,(fun x e=>by cases e;exact hc),(fun h=>by cases h),fun _=>rfl,by simp [qj,hd0],(fun f m=>by cases m),hm.l0,hm.l1,(fun h=>by cases h),?_⟩
     simp only [qj]
     split<;>((try simp);omega)
   · refine⟨hm.lb,(fun x e=>by cases e;exact hc),(fun _ h=>by cases h),hm.ow,hm.fl,hm.ff,hm.l0,hm.l1,hm.l2,?_⟩
     show(if(chF (ckOf q) c).2.1≠[] then q.out++[evB (chF (ckOf q) c).2.1] else q.out).length≤4 * (i+1)
     split<;>((try simp);omega)
 split
 · rename_i hp
   have hlb:(lnF q.ln c).1.b.length≤i+1:=by have:=zsa q.ln c;have:=h.lb;omega
   have hll:(lnF q.ln c).2.1.length≤i+1:=by have:=Yt q.ln c;have:=h.lb;omega
   have h1:RqI { q with ln:=(lnF q.ln c).1} (i+1):=⟨hlb,hm.ck,hm.p3,hm.ow,hm.fl,hm.ff,hm.l0,hm.l1,hm.l2,hm.on⟩
   split
   · exact⟨hlb,hm.ck,(fun h=>by cases h),(fun h=>by simp [vT] at h),hm.fl,hm.ff,hm.l0,hm.l1,(fun h=>by cases h),by simp [vT];omega⟩
   split
   · have hk:=zrD h1 hp hll (4 * i) hon
     generalize zW { q with ln:=(lnF q.ln c).1} (lnF q.ln c).2.1=z at *
     obtain⟨⟨k1,k2,-,-,k5,k6,k7,k8,-,-⟩,kz,ko⟩:=hk
     split
     · exact⟨k1,k2,(fun h=>by cases h),(fun h=>by simp [vT] at h),k5,k6,k7,k8,(fun h=>by cases h),by simp [vT];omega⟩
     · rename_i hz
       obtain⟨k1,k2,k3,k4,k5,k6,k7,k8,k9,k10⟩:=kz (by simpa using hz)
       exact⟨k1,k2,k3,k4,k5,k6,k7,k8,k9,by omega⟩
   · exact h1
 · exact hm
end Go.Proofs.YtkjepecoodjbmaaGreatDoor
namespace Go.Proofs.YtkjepecoodjbmaaGreatDoor
open Go Go.Sep Go.Ab
set_option maxRecDepth 100000
def cfgQ:Cfg:= { sl:=[⟨207,0,.byte,some 5⟩,⟨160,5,.fld,some 108⟩,⟨160,9,.evt,some 34⟩]}
def zG (q:Rq):Prop:=q.out.length≤10000000
def Qi (I:Alg) (args:List D) (hp:List HO):Option CT:=match args,hp with
 |[],[]=>(fun(_:Unit)=>(some (.one ⟨I.hid (True),(.ret (.v (.one (.ptr 0 0)))),[.abs (.rq rq0)]⟩):Option CT)) ()
 |_,_=>none
theorem zjV:zx Tryz.prog 50 (Qi alg):=by
 intro args hp r h;unfold Qi at h;split at h<;>cases h
 simp only [CT.Good,zi];intro _
 refine spcG zh mixed Tryz.func50 (by kernel_rfl) { cfgQ with keep:=some [0]} [QC,QB] (by kernel_rfl) ?_
 intro I X hI hX
 refine orcL ?_;go_invoke;refine orcS (by kernel_rfl) ?_
 simp only [zq,Nat.reduceAdd];subst hI;simp only [nrmA,nrmB,nrlB,reduceCtorEq,HO.abs.injEq,Gh.rq.injEq,Rq.mk.injEq];rfl
def sK:Know Tryz.prog:=⟨50,Qi,zjV⟩
def sJ:Know Tryz.prog:=⟨50,fun I=>zy I (Qi I),zf zjV⟩
theorem zjS (ln:Ln) (p:Int) (m tg:Str) (hm:Int) (hf:List Fld) (hl le:Int) (out:List Evt) (k:Int) (ea eb:Str) (ei:Int) (ef:List Fld) (en:Int) (ebs ex ey ez et:Str) (ec:Int) (hneed:zG ⟨ln,p,⟨m,tg,hm,hf,hl⟩,le,none,true,out⟩):Spc Tryz.prog 117 [.v (.one (.ptr 0 0)),.v (.agg [(.p (.int .i64 k)),(.p (.str ea)),(.p (.str eb)),(.p (.int .i64 ei)),(.p (.list .fld ef)),(.p (.int .i64 en)),(.p (.list .byte ebs)),(.p (.str ex)),(.p (.str ey)),(.p (.str ez)),(.p (.nl et)),(.p (.int .i64 ec))])] [.abs (.rq ⟨ln,p,⟨m,tg,hm,hf,hl⟩,le,none,true,out⟩)] (.ret (.tup [])) [.abs (.rq ⟨ln,p,⟨m,tg,hm,hf,hl⟩,le,none,true,(out++[⟨k,⟨ea,eb,ei,ef,en⟩,ebs,⟨ex,ey,ez,et⟩,ec⟩])⟩)]:=by
 unfold zG at hneed;simp only at hneed
 refine spcG zh mixed Tryz.func117 (by kernel_rfl) { cfgQ with keep:=some [0,1,3]} [] (by kernel_rfl) ?_
 intro I X hI hX
 refine orcL ?_;go_invoke;refine orcS (by kernel_rfl) ?_
 simp only [zq,Nat.reduceAdd];subst hI;simp only [nrmA,nrmB,nrlB,reduceCtorEq,HO.abs.injEq,Gh.rq.injEq,Rq.mk.injEq]
 (repeat' (first|refine ja ?_ ?_|intro _))<;>first|omega|exact jb|exact jc ‹False›|skip
 all_goals first
  |omega
  |rfl
  |with_reducible assumption
  |(simp only [jh,ji];omega)
  |(simp;done)
def Y1 (I:Alg) (args:List D) (hp:List HO):Option CT:=match args,hp with
 |[.v (.one (.ptr 0 0)),.v (.agg [(.p (.int .i64 k)),(.p (.str ea)),(.p (.str eb)),(.p (.int .i64 ei)),(.p (.list .fld ef)),(.p (.int .i64 en)),(.p (.list .byte ebs)),(.p (.str ex)),(.p (.str ey)),(.p (.str ez)),(.p (.nl et)),(.p (.int .i64 ec))])],[.abs (.rq ⟨ln,p,⟨m,tg,hm,hf,hl⟩,le,none,true,out⟩)]=>(fun(ln:Ln) (p:Int) (m tg:Str) (hm:Int) (hf:List Fld) (hl le:Int) (out:List Evt) (k:Int) (ea eb:Str) (ei:Int) (ef:List Fld) (en:Int) (ebs ex ey ez et:Str) (ec:Int)=>(some (.one ⟨I.hid (zG ⟨ln,p,⟨m,tg,hm,hf,hl⟩,le,none,true,out⟩),(.ret (.tup [])),[.abs (.rq ⟨ln,p,⟨m,tg,hm,hf,hl⟩,le,none,true,(I.hid (out++[⟨k,⟨ea,eb,ei,ef,en⟩,ebs,⟨ex,ey,ez,et⟩,ec⟩]))⟩)]⟩):Option CT)) ln p m tg hm hf hl le out k ea eb ei ef en ebs ex ey ez et ec
 |_,_=>none
theorem zcm:zx Tryz.prog 117 (Y1 alg):=by
 intro args hp r h;unfold Y1 at h
 split at h
 · cases h;exact fun hn=>zjS _ _ _ _ _ _ _ _ _ _ _ _ _ _ _ _ _ _ _ _ _ hn
 · cases h
def zY:Know Tryz.prog:=⟨117,Y1,zcm⟩
def zX:Know Tryz.prog:=⟨117,fun I=>zy I (Y1 I),zf zcm⟩
theorem zjT (ln:Ln) (p:Int) (m tg:Str) (hm:Int) (hf:List Fld) (hl le:Int) (out:List Evt) (k:Int) (ea eb:Str) (ei:Int) (ef:List Fld) (en:Int) (ebs ex ey ez et:Str) (ec:Int) (hneed:zG ⟨ln,p,⟨m,tg,hm,hf,hl⟩,le,none,false,out⟩):Spc Tryz.prog 117 [.v (.one (.ptr 0 0)),.v (.agg [(.p (.int .i64 k)),(.p (.str ea)),(.p (.str eb)),(.p (.int .i64 ei)),(.p (.list .fld ef)),(.p (.int .i64 en)),(.p (.list .byte ebs)),(.p (.str ex)),(.p (.str ey)),(.p (.str ez)),(.p (.nl et)),(.p (.int .i64 ec))])] [.abs (.rq ⟨ln,p,⟨m,tg,hm,hf,hl⟩,le,none,false,out⟩)] (.ret (.tup [])) [.abs (.rq ⟨ln,p,⟨m,tg,hm,hf,hl⟩,le,none,false,(out++[⟨k,⟨ea,eb,ei,ef,en⟩,ebs,⟨ex,ey,ez,et⟩,ec⟩])⟩)]:=by
 unfold zG at hneed;simp only at hneed
 refine spcG zh mixed Tryz.func117 (by kernel_rfl) { cfgQ with keep:=some [0,1,3]} [zY,zX] (by kernel_rfl) ?_
 intro I X hI hX
 refine orcL ?_;go_invoke;refine orcS (by kernel_rfl) ?_
 simp only [zq,Nat.reduceAdd];subst hI;simp only [nrmA,nrmB,nrlB,reduceCtorEq,HO.abs.injEq,Gh.rq.injEq,Rq.mk.injEq]
 (repeat' (first|refine ja ?_ ?_|intro _))<;>first|omega|exact jb|exact jc ‹False›|skip
 all_goals first
  |omega
  |rfl
  |with_reducible assumption
  |(simp only [jh,ji];omega)
  |(simp;done)
def Y2 (I:Alg) (args:List D) (hp:List HO):Option CT:=match args,hp with
 |[.v (.one (.ptr 0 0)),.v (.agg [(.p (.int .i64 k)),(.p (.str ea)),(.p (.str eb)),(.p (.int .i64 ei)),(.p (.list .fld ef)),(.p (.int .i64 en)),(.p (.list .byte ebs)),(.p (.str ex)),(.p (.str ey)),(.p (.str ez)),(.p (.nl et)),(.p (.int .i64 ec))])],[.abs (.rq ⟨ln,p,⟨m,tg,hm,hf,hl⟩,le,none,false,out⟩)]=>(fun(ln:Ln) (p:Int) (m tg:Str) (hm:Int) (hf:List Fld) (hl le:Int) (out:List Evt) (k:Int) (ea eb:Str) (ei:Int) (ef:List Fld) (en:Int) (ebs ex ey ez et:Str) (ec:Int)=>(some (.one ⟨I.hid (zG ⟨ln,p,⟨m,tg,hm,hf,hl⟩,le,none,false,out⟩),(.ret (.tup [])),[.abs (.rq ⟨ln,p,⟨m,tg,hm,hf,hl⟩,le,none,false,(I.hid (out++[⟨k,⟨ea,eb,ei,ef,en⟩,ebs,⟨ex,ey,ez,et⟩,ec⟩]))⟩)]⟩):Option CT)) ln p m tg hm hf hl le out k ea eb ei ef en ebs ex ey ez et ec
 |_,_=>none
theorem zcn:zx Tryz.prog 117 (Y2 alg):=by
 intro args hp r h;unfold Y2 at h
 split at h
 · cases h;exact fun hn=>zjT _ _ _ _ _ _ _ _ _ _ _ _ _ _ _ _ _ _ _ _ _ hn
 · cases h
def yj:Know Tryz.prog:=⟨117,Y2,zcn⟩
def yh:Know Tryz.prog:=⟨117,fun I=>zy I (Y2 I),zf zcn⟩
theorem zjQ (ln:Ln) (p:Int) (m tg:Str) (hm:Int) (hf:List Fld) (hl le:Int) (ch:Ch) (out:List Evt) (k:Int) (ea eb:Str) (ei:Int) (ef:List Fld) (en:Int) (ebs ex ey ez et:Str) (ec:Int) (hneed:zG ⟨ln,p,⟨m,tg,hm,hf,hl⟩,le,some ch,true,out⟩):Spc Tryz.prog 117 [.v (.one (.ptr 0 0)),.v (.agg [(.p (.int .i64 k)),(.p (.str ea)),(.p (.str eb)),(.p (.int .i64 ei)),(.p (.list .fld ef)),(.p (.int .i64 en)),(.p (.list .byte ebs)),(.p (.str ex)),(.p (.str ey)),(.p (.str ez)),(.p (.nl et)),(.p (.int .i64 ec))])] [.abs (.rq ⟨ln,p,⟨m,tg,hm,hf,hl⟩,le,some ch,true,out⟩)] (.ret (.tup [])) [.abs (.rq ⟨ln,p,⟨m,tg,hm,hf,hl⟩,le,some ch,true,(out++[⟨k,⟨ea,eb,ei,ef,en⟩,ebs,⟨ex,ey,ez,et⟩,ec⟩])⟩)]:=by
 unfold zG at hneed;simp only at hneed
 refine spcG zh mixed Tryz.func117 (by kernel_rfl) { cfgQ with keep:=some [0,1,3]} [zY,zX,yj,yh] (by kernel_rfl) ?_
 intro I X hI hX
 refine orcL ?_;go_invoke;refine orcS (by kernel_rfl) ?_
 simp only [zq,Nat.reduceAdd];subst hI;simp only [nrmA,nrmB,nrlB,reduceCtorEq,HO.abs.injEq,Gh.rq.injEq,Rq.mk.injEq]
 (repeat' (first|refine ja ?_ ?_|intro _))<;>first|omega|exact jb|exact jc ‹False›|skip
 all_goals first
  |omega
  |rfl
  |with_reducible assumption
  |(simp only [jh,ji];omega)
  |(simp;done)
def YZ (I:Alg) (args:List D) (hp:List HO):Option CT:=match args,hp with
 |[.v (.one (.ptr 0 0)),.v (.agg [(.p (.int .i64 k)),(.p (.str ea)),(.p (.str eb)),(.p (.int .i64 ei)),(.p (.list .fld ef)),(.p (.int .i64 en)),(.p (.list .byte ebs)),(.p (.str ex)),(.p (.str ey)),(.p (.str ez)),(.p (.nl et)),(.p (.int .i64 ec))])],[.abs (.rq ⟨ln,p,⟨m,tg,hm,hf,hl⟩,le,some ch,true,out⟩)]=>(fun(ln:Ln) (p:Int) (m tg:Str) (hm:Int) (hf:List Fld) (hl le:Int) (ch:Ch) (out:List Evt) (k:Int) (ea eb:Str) (ei:Int) (ef:List Fld) (en:Int) (ebs ex ey ez et:Str) (ec:Int)=>(some (.one ⟨I.hid (zG ⟨ln,p,⟨m,tg,hm,hf,hl⟩,le,some ch,true,out⟩),(.ret (.tup [])),[.abs (.rq ⟨ln,p,⟨m,tg,hm,hf,hl⟩,le,some ch,true,(I.hid (out++[⟨k,⟨ea,eb,ei,ef,en⟩,ebs,⟨ex,ey,ez,et⟩,ec⟩]))⟩)]⟩):Option CT)) ln p m tg hm hf hl le ch out k ea eb ei ef en ebs ex ey ez et ec
 |_,_=>none
theorem zck:zx Tryz.prog 117 (YZ alg):=by
 intro args hp r h;unfold YZ at h
 split at h
 · cases h;exact fun hn=>zjQ _ _ _ _ _ _ _ _ _ _ _ _ _ _ _ _ _ _ _ _ _ _ hn
 · cases h
def yF:Know Tryz.prog:=⟨117,YZ,zck⟩
def yE:Know Tryz.prog:=⟨117,fun I=>zy I (YZ I),zf zck⟩
theorem zjR (ln:Ln) (p:Int) (m tg:Str) (hm:Int) (hf:List Fld) (hl le:Int) (ch:Ch) (out:List Evt) (k:Int) (ea eb:Str) (ei:Int) (ef:List Fld) (en:Int) (ebs ex ey ez et:Str) (ec:Int) (hneed:zG ⟨ln,p,⟨m,tg,hm,hf,hl⟩,le,some ch,false,out⟩):Spc Tryz.prog 117 [.v (.one (.ptr 0 0)),.v (.agg [(.p (.int .i64 k)),(.p (.str ea)),(.p (.str eb)),(.p (.int .i64 ei)),(.p (.list .fld ef)),(.p (.int .i64 en)),(.p (.list .byte ebs)),(.p (.str ex)),(.p (.str ey)),(.p (.str ez)),(.p (.nl et)),(.p (.int .i64 ec))])] [.abs (.rq ⟨ln,p,⟨m,tg,hm,hf,hl⟩,le,some ch,false,out⟩)] (.ret (.tup [])) [.abs (.rq ⟨ln,p,⟨m,tg,hm,hf,hl⟩,le,some ch,false,(out++[⟨k,⟨ea,eb,ei,ef,en⟩,ebs,⟨ex,ey,ez,et⟩,ec⟩])⟩)]:=by
 unfold zG at hneed;simp only at hneed
 refine spcG zh mixed Tryz.func117 (by kernel_rfl) { cfgQ with keep:=some [0,1,3]} [zY,zX,yj,yh,yF,yE] (by kernel_rfl) ?_
 intro I X hI hX
 refine orcL ?_;go_invoke;refine orcS (by kernel_rfl) ?_
 simp only [zq,Nat.reduceAdd];subst hI;simp only [nrmA,nrmB,nrlB,reduceCtorEq,HO.abs.injEq,Gh.rq.injEq,Rq.mk.injEq]
 (repeat' (first|refine ja ?_ ?_|intro _))<;>first|omega|exact jb|exact jc ‹False›|skip
 all_goals first
  |omega
  |rfl
  |with_reducible assumption
  |(simp only [jh,ji];omega)
  |(simp;done)
def Y0 (I:Alg) (args:List D) (hp:List HO):Option CT:=match args,hp with
 |[.v (.one (.ptr 0 0)),.v (.agg [(.p (.int .i64 k)),(.p (.str ea)),(.p (.str eb)),(.p (.int .i64 ei)),(.p (.list .fld ef)),(.p (.int .i64 en)),(.p (.list .byte ebs)),(.p (.str ex)),(.p (.str ey)),(.p (.str ez)),(.p (.nl et)),(.p (.int .i64 ec))])],[.abs (.rq ⟨ln,p,⟨m,tg,hm,hf,hl⟩,le,some ch,false,out⟩)]=>(fun(ln:Ln) (p:Int) (m tg:Str) (hm:Int) (hf:List Fld) (hl le:Int) (ch:Ch) (out:List Evt) (k:Int) (ea eb:Str) (ei:Int) (ef:List Fld) (en:Int) (ebs ex ey ez et:Str) (ec:Int)=>(some (.one ⟨I.hid (zG ⟨ln,p,⟨m,tg,hm,hf,hl⟩,le,some ch,false,out⟩),(.ret (.tup [])),[.abs (.rq ⟨ln,p,⟨m,tg,hm,hf,hl⟩,le,some ch,false,(I.hid (out++[⟨k,⟨ea,eb,ei,ef,en⟩,ebs,⟨ex,ey,ez,et⟩,ec⟩]))⟩)]⟩):Option CT)) ln p m tg hm hf hl le ch out k ea eb ei ef en ebs ex ey ez et ec
 |_,_=>none
theorem zcl:zx Tryz.prog 117 (Y0 alg):=by
 intro args hp r h;unfold Y0 at h
 split at h
 · cases h;exact fun hn=>zjR _ _ _ _ _ _ _ _ _ _ _ _ _ _ _ _ _ _ _ _ _ _ hn
 · cases h
def yN:Know Tryz.prog:=⟨117,Y0,zcl⟩
def yM:Know Tryz.prog:=⟨117,fun I=>zy I (Y0 I),zf zcl⟩
def Qh (I:Alg) (args:List D) (hp:List HO):Option CT:=match args,hp with
 |[.v (.one (.ptr 0 0)),.v (.agg [(.p (.int .i64 k)),(.p (.str ea)),(.p (.str eb)),(.p (.int .i64 ei)),(.p (.list .fld ef)),(.p (.int .i64 en)),(.p (.list .byte ebs)),(.p (.str ex)),(.p (.str ey)),(.p (.str ez)),(.p (.nl et)),(.p (.int .i64 ec))])],[.abs (.rq q)]=>(fun(q:Rq) (k:Int) (ea eb:Str) (ei:Int) (ef:List Fld) (en:Int) (ebs ex ey ez et:Str) (ec:Int)=>(some (.one ⟨I.hid (zG q),(.ret (.tup [])),[.abs (.rq (I.hid ((zxh q ⟨k,⟨ea,eb,ei,ef,en⟩,ebs,⟨ex,ey,ez,et⟩,ec⟩))))]⟩):Option CT)) q k ea eb ei ef en ebs ex ey ez et ec
 |_,_=>none
theorem zjU:zx Tryz.prog 117 (Qh alg):=by
 intro args hp r h;unfold Qh at h;split at h<;>cases h
 rename_i k ea eb ei ef en ebs ex ey ez et ec q
 revert ef;intro(ef:List Fld)
 simp only [CT.Good,zi];intro hneed;obtain⟨ln,p,⟨m,tg,hm,hf,hl⟩,le,ck,own,out⟩:=q
 cases ck with
 | none=>cases own with
   |true=>exact zjS ln p m tg hm hf hl le out k ea eb ei ef en ebs ex ey ez et ec hneed
   |false=>exact zjT ln p m tg hm hf hl le out k ea eb ei ef en ebs ex ey ez et ec hneed
 | some ch=>cases own with
   |true=>exact zjQ ln p m tg hm hf hl le ch out k ea eb ei ef en ebs ex ey ez et ec hneed
   |false=>exact zjR ln p m tg hm hf hl le ch out k ea eb ei ef en ebs ex ey ez et ec hneed
def wO:Know Tryz.prog:=⟨117,Qh,zjU⟩
def wM:Know Tryz.prog:=⟨117,fun I=>zy I (Qh I),zf zjU⟩
theorem zoa (ln:Ln) (p:Int) (m tg:Str) (hm:Int) (hf:List Fld) (hl le:Int) (out:List Evt) (c:Int) (hneed:zG ⟨ln,p,⟨m,tg,hm,hf,hl⟩,le,none,true,out⟩):Spc Tryz.prog 120 [.v (.one (.ptr 0 0)),.v (.one (.p (.int .i64 c)))] [.abs (.rq ⟨ln,p,⟨m,tg,hm,hf,hl⟩,le,none,true,out⟩)] (.ret (.tup [])) [.abs (.rq ((vT ⟨ln,p,⟨m,tg,hm,hf,hl⟩,le,none,true,out⟩ c)))]:=by
 unfold zG at hneed;simp only at hneed
 refine spcG zh mixed Tryz.func120 (by kernel_rfl) { cfgQ with keep:=some [0,1]} [zY,zX,yj,yh,yF,yE,yN,yM,wO,wM] (by kernel_rfl) ?_
 intro I X hI hX
 refine orcL ?_;go_invoke;refine orcS (by kernel_rfl) ?_
 simp only [zq,Nat.reduceAdd];subst hI;simp only [nrmA,nrmB,nrlB,reduceCtorEq,HO.abs.injEq,Gh.rq.injEq,Rq.mk.injEq]
 (repeat' (first|refine ja ?_ ?_|intro _))<;>first|omega|exact jb|exact jc ‹False›|skip
 all_goals first
  |omega
  |rfl
  |with_reducible assumption
  |(simp only [jh,ji];omega)
  |(unfold zG;simp only;omega)
  |(simp;done)
theorem zob (ln:Ln) (p:Int) (m tg:Str) (hm:Int) (hf:List Fld) (hl le:Int) (out:List Evt) (c:Int) (hneed:zG ⟨ln,p,⟨m,tg,hm,hf,hl⟩,le,none,false,out⟩):Spc Tryz.prog 120 [.v (.one (.ptr 0 0)),.v (.one (.p (.int .i64 c)))] [.abs (.rq ⟨ln,p,⟨m,tg,hm,hf,hl⟩,le,none,false,out⟩)] (.ret (.tup [])) [.abs (.rq ((vT ⟨ln,p,⟨m,tg,hm,hf,hl⟩,le,none,false,out⟩ c)))]:=by
 unfold zG at hneed;simp only at hneed
 refine spcG zh mixed Tryz.func120 (by kernel_rfl) { cfgQ with keep:=some [0,1]} [zY,zX,yj,yh,yF,yE,yN,yM,wO,wM] (by kernel_rfl) ?_
 intro I X hI hX
 refine orcL ?_;go_invoke;refine orcS (by kernel_rfl) ?_
 simp only [zq,Nat.reduceAdd];subst hI;simp only [nrmA,nrmB,nrlB,reduceCtorEq,HO.abs.injEq,Gh.rq.injEq,Rq.mk.injEq]
 (repeat' (first|refine ja ?_ ?_|intro _))<;>first|omega|exact jb|exact jc ‹False›|skip
 all_goals first
  |omega
  |rfl
  |with_reducible assumption
  |(simp only [jh,ji];omega)
  |(unfold zG;simp only;omega)
  |(simp;done)
theorem zn8 (ln:Ln) (p:Int) (m tg:Str) (hm:Int) (hf:List Fld) (hl le:Int) (ch:Ch) (out:List Evt) (c:Int) (hneed:zG ⟨ln,p,⟨m,tg,hm,hf,hl⟩,le,some ch,true,out⟩):Spc Tryz.prog 120 [.v (.one (.ptr 0 0)),.v (.one (.p (.int .i64 c)))] [.abs (.rq ⟨ln,p,⟨m,tg,hm,hf,hl⟩,le,some ch,true,out⟩)] (.ret (.tup [])) [.abs (.rq ((vT ⟨ln,p,⟨m,tg,hm,hf,hl⟩,le,some ch,true,out⟩ c)))]:=by
 unfold zG at hneed;simp only at hneed
 refine spcG zh mixed Tryz.func120 (by kernel_rfl) { cfgQ with keep:=some [0,1]} [zY,zX,yj,yh,yF,yE,yN,yM,wO,wM] (by kernel_rfl) ?_
 intro I X hI hX
 refine orcL ?_;go_invoke;refine orcS (by kernel_rfl) ?_
 simp only [zq,Nat.reduceAdd];subst hI;simp only [nrmA,nrmB,nrlB,reduceCtorEq,HO.abs.injEq,Gh.rq.injEq,Rq.mk.injEq]
 (repeat' (first|refine ja ?_ ?_|intro _))<;>first|omega|exact jb|exact jc ‹False›|skip
 all_goals first
  |omega
  |rfl
  |with_reducible assumption
  |(simp only [jh,ji];omega)
  |(unfold zG;simp only;omega)
  |(simp;done)
theorem zn9 (ln:Ln) (p:Int) (m tg:Str) (hm:Int) (hf:List Fld) (hl le:Int) (ch:Ch) (out:List Evt) (c:Int) (hneed:zG ⟨ln,p,⟨m,tg,hm,hf,hl⟩,le,some ch,false,out⟩):Spc Tryz.prog 120 [.v (.one (.ptr 0 0)),.v (.one (.p (.int .i64 c)))] [.abs (.rq ⟨ln,p,⟨m,tg,hm,hf,hl⟩,le,some ch,false,out⟩)] (.ret (.tup [])) [.abs (.rq ((vT ⟨ln,p,⟨m,tg,hm,hf,hl⟩,le,some ch,false,out⟩ c)))]:=by
 unfold zG at hneed;simp only at hneed
 refine spcG zh mixed Tryz.func120 (by kernel_rfl) { cfgQ with keep:=some [0,1]} [zY,zX,yj,yh,yF,yE,yN,yM,wO,wM] (by kernel_rfl) ?_
 intro I X hI hX
 refine orcL ?_;go_invoke;refine orcS (by kernel_rfl) ?_
 simp only [zq,Nat.reduceAdd];subst hI;simp only [nrmA,nrmB,nrlB,reduceCtorEq,HO.abs.injEq,Gh.rq.injEq,Rq.mk.injEq]
 (repeat' (first|refine ja ?_ ?_|intro _))<;>first|omega|exact jb|exact jc ‹False›|skip
 all_goals first
  |omega
  |rfl
  |with_reducible assumption
  |(simp only [jh,ji];omega)
  |(unfold zG;simp only;omega)
  |(simp;done)
def Va (I:Alg) (args:List D) (hp:List HO):Option CT:=match args,hp with
 |[.v (.one (.ptr 0 0)),.v (.one (.p (.int .i64 c)))],[.abs (.rq q)]=>(fun(q:Rq) (c:Int)=>(some (.one ⟨I.hid (zG q),(.ret (.tup [])),[.abs (.rq (I.hid ((vT q c))))]⟩):Option CT)) q c
 |_,_=>none
theorem zfC:zx Tryz.prog 120 (Va alg):=by
 intro args hp r h;unfold Va at h;split at h<;>cases h
 rename_i c q;simp only [CT.Good,zi];intro hneed;obtain⟨ln,p,⟨m,tg,hm,hf,hl⟩,le,ck,own,out⟩:=q
 cases ck with
 | none=>cases own with
   |true=>exact zoa ln p m tg hm hf hl le out c hneed
   |false=>exact zob ln p m tg hm hf hl le out c hneed
 | some ch=>cases own with
   |true=>exact zn8 ln p m tg hm hf hl le ch out c hneed
   |false=>exact zn9 ln p m tg hm hf hl le ch out c hneed
def W9:Know Tryz.prog:=⟨120,Va,zfC⟩
def WZ:Know Tryz.prog:=⟨120,fun I=>zy I (Va I),zf zfC⟩
theorem zrG (ln:Ln) (p:Int) (m tg:Str) (hm:Int) (hf:List Fld) (hl le:Int) (out:List Evt) (hneed:zG ⟨ln,p,⟨m,tg,hm,hf,hl⟩,le,none,true,out⟩):Spc Tryz.prog 118 [.v (.one (.ptr 0 0))] [.abs (.rq ⟨ln,p,⟨m,tg,hm,hf,hl⟩,le,none,true,out⟩)] (.ret (.tup [])) [.abs (.rq ((qj ⟨ln,p,⟨m,tg,hm,hf,hl⟩,le,none,true,out⟩)))]:=by
 unfold zG at hneed;simp only at hneed
 refine spcG zh mixed Tryz.func118 (by kernel_rfl) { cfgQ with keep:=some [0]} [zY,zX,yj,yh,yF,yE,yN,yM,wO,wM] (by kernel_rfl) ?_
 intro I X hI hX
 refine orcL ?_;go_invoke;refine orcS (by kernel_rfl) ?_
 simp only [zq,Nat.reduceAdd];subst hI;simp only [nrmA,nrmB,nrlB,reduceCtorEq,HO.abs.injEq,Gh.rq.injEq,Rq.mk.injEq]
 (repeat' (first|refine ja ?_ ?_|intro _))<;>first|omega|exact jb|exact jc ‹False›|skip
 all_goals first
  |omega
  |rfl
  |with_reducible assumption
  |(simp only [jh,ji];omega)
  |(unfold zG;simp only;omega)
  |(simp;done)
theorem zrH (ln:Ln) (p:Int) (m tg:Str) (hm:Int) (hf:List Fld) (hl le:Int) (out:List Evt) (hneed:zG ⟨ln,p,⟨m,tg,hm,hf,hl⟩,le,none,false,out⟩):Spc Tryz.prog 118 [.v (.one (.ptr 0 0))] [.abs (.rq ⟨ln,p,⟨m,tg,hm,hf,hl⟩,le,none,false,out⟩)] (.ret (.tup [])) [.abs (.rq ((qj ⟨ln,p,⟨m,tg,hm,hf,hl⟩,le,none,false,out⟩)))]:=by
 unfold zG at hneed;simp only at hneed
 refine spcG zh mixed Tryz.func118 (by kernel_rfl) { cfgQ with keep:=some [0]} [zY,zX,yj,yh,yF,yE,yN,yM,wO,wM] (by kernel_rfl) ?_
 intro I X hI hX
 refine orcL ?_;go_invoke;refine orcS (by kernel_rfl) ?_
 simp only [zq,Nat.reduceAdd];subst hI;simp only [nrmA,nrmB,nrlB,reduceCtorEq,HO.abs.injEq,Gh.rq.injEq,Rq.mk.injEq]
 (repeat' (first|refine ja ?_ ?_|intro _))<;>first|omega|exact jb|exact jc ‹False›|skip
 all_goals first
  |omega
  |rfl
  |with_reducible assumption
  |(simp only [jh,ji];omega)
  |(unfold zG;simp only;omega)
  |(simp;done)
theorem zrE (ln:Ln) (p:Int) (m tg:Str) (hm:Int) (hf:List Fld) (hl le:Int) (ch:Ch) (out:List Evt) (hneed:zG ⟨ln,p,⟨m,tg,hm,hf,hl⟩,le,some ch,true,out⟩):Spc Tryz.prog 118 [.v (.one (.ptr 0 0))] [.abs (.rq ⟨ln,p,⟨m,tg,hm,hf,hl⟩,le,some ch,true,out⟩)] (.ret (.tup [])) [.abs (.rq ((qj ⟨ln,p,⟨m,tg,hm,hf,hl⟩,le,some ch,true,out⟩)))]:=by
 unfold zG at hneed;simp only at hneed
 refine spcG zh mixed Tryz.func118 (by kernel_rfl) { cfgQ with keep:=some [0]} [zY,zX,yj,yh,yF,yE,yN,yM,wO,wM] (by kernel_rfl) ?_
 intro I X hI hX
 refine orcL ?_;go_invoke;refine orcS (by kernel_rfl) ?_
 simp only [zq,Nat.reduceAdd];subst hI;simp only [nrmA,nrmB,nrlB,reduceCtorEq,HO.abs.injEq,Gh.rq.injEq,Rq.mk.injEq]
 (repeat' (first|refine ja ?_ ?_|intro _))<;>first|omega|exact jb|exact jc ‹False›|skip
 all_goals first
  |omega
  |rfl
  |with_reducible assumption
  |(simp only [jh,ji];omega)
  |(unfold zG;simp only;omega)
  |(simp;done)
theorem zrF (ln:Ln) (p:Int) (m tg:Str) (hm:Int) (hf:List Fld) (hl le:Int) (ch:Ch) (out:List Evt) (hneed:zG ⟨ln,p,⟨m,tg,hm,hf,hl⟩,le,some ch,false,out⟩):Spc Tryz.prog 118 [.v (.one (.ptr 0 0))] [.abs (.rq ⟨ln,p,⟨m,tg,hm,hf,hl⟩,le,some ch,false,out⟩)] (.ret (.tup [])) [.abs (.rq ((qj ⟨ln,p,⟨m,tg,hm,hf,hl⟩,le,some ch,false,out⟩)))]:=by
 unfold zG at hneed;simp only at hneed
 refine spcG zh mixed Tryz.func118 (by kernel_rfl) { cfgQ with keep:=some [0]} [zY,zX,yj,yh,yF,yE,yN,yM,wO,wM] (by kernel_rfl) ?_
 intro I X hI hX
 refine orcL ?_;go_invoke;refine orcS (by kernel_rfl) ?_
 simp only [zq,Nat.reduceAdd];subst hI;simp only [nrmA,nrmB,nrlB,reduceCtorEq,HO.abs.injEq,Gh.rq.injEq,Rq.mk.injEq]
 (repeat' (first|refine ja ?_ ?_|intro _))<;>first|omega|exact jb|exact jc ‹False›|skip
 all_goals first
  |omega
  |rfl
  |with_reducible assumption
  |(simp only [jh,ji];omega)
  |(unfold zG;simp only;omega)
  |(simp;done)
def Ql (I:Alg) (args:List D) (hp:List HO):Option CT:=match args,hp with
 |[.v (.one (.ptr 0 0))],[.abs (.rq q)]=>(fun(q:Rq)=>(some (.one ⟨I.hid (zG q),(.ret (.tup [])),[.abs (.rq (I.hid ((qj q))))]⟩):Option CT)) q
 |_,_=>none
theorem zj0:zx Tryz.prog 118 (Ql alg):=by
 intro args hp r h;unfold Ql at h;split at h<;>cases h
 rename_i q;simp only [CT.Good,zi];intro hneed;obtain⟨ln,p,⟨m,tg,hm,hf,hl⟩,le,ck,own,out⟩:=q
 cases ck with
 | none=>cases own with
   |true=>exact zrG ln p m tg hm hf hl le out hneed
   |false=>exact zrH ln p m tg hm hf hl le out hneed
 | some ch=>cases own with
   |true=>exact zrE ln p m tg hm hf hl le ch out hneed
   |false=>exact zrF ln p m tg hm hf hl le ch out hneed
def Y4:Know Tryz.prog:=⟨118,Ql,zj0⟩
def Y3:Know Tryz.prog:=⟨118,fun I=>zy I (Ql I),zf zj0⟩
theorem zoi (ln:Ln) (p:Int) (m tg:Str) (hm:Int) (hf:List Fld) (hl le:Int) (out:List Evt):Spc Tryz.prog 44 [.v (.one (.ptr 0 0))] [.abs (.rq ⟨ln,p,⟨m,tg,hm,hf,hl⟩,le,none,true,out⟩)] (.ret (.v (.one (.p (.bool ((decide (Rq.pos ⟨ln,p,⟨m,tg,hm,hf,hl⟩,le,none,true,out⟩=4)))))))) [.abs (.rq ⟨ln,p,⟨m,tg,hm,hf,hl⟩,le,none,true,out⟩)]:=by
 refine spcG zh mixed Tryz.func44 (by kernel_rfl) { cfgQ with keep:=some [0,2]} [] (by kernel_rfl) ?_
 intro I X hI hX
 refine orcL ?_;go_invoke;refine orcS (by kernel_rfl) ?_
 simp only [zq,Nat.reduceAdd];subst hI;simp only [nrmA,nrmB,nrlB,reduceCtorEq,HO.abs.injEq,Gh.rq.injEq,Rq.mk.injEq]
 (repeat' (first|refine ja ?_ ?_|intro _))<;>first|omega|exact jb|exact jc ‹False›|skip
 all_goals first
  |omega
  |rfl
  |with_reducible assumption
  |(simp only [jh,ji];omega)
  |(simp;done)
theorem zoj (ln:Ln) (p:Int) (m tg:Str) (hm:Int) (hf:List Fld) (hl le:Int) (out:List Evt):Spc Tryz.prog 44 [.v (.one (.ptr 0 0))] [.abs (.rq ⟨ln,p,⟨m,tg,hm,hf,hl⟩,le,none,false,out⟩)] (.ret (.v (.one (.p (.bool ((decide (Rq.pos ⟨ln,p,⟨m,tg,hm,hf,hl⟩,le,none,false,out⟩=4)))))))) [.abs (.rq ⟨ln,p,⟨m,tg,hm,hf,hl⟩,le,none,false,out⟩)]:=by
 refine spcG zh mixed Tryz.func44 (by kernel_rfl) { cfgQ with keep:=some [0,2]} [] (by kernel_rfl) ?_
 intro I X hI hX
 refine orcL ?_;go_invoke;refine orcS (by kernel_rfl) ?_
 simp only [zq,Nat.reduceAdd];subst hI;simp only [nrmA,nrmB,nrlB,reduceCtorEq,HO.abs.injEq,Gh.rq.injEq,Rq.mk.injEq]
 (repeat' (first|refine ja ?_ ?_|intro _))<;>first|omega|exact jb|exact jc ‹False›|skip
 all_goals first
  |omega
  |rfl
  |with_reducible assumption
  |(simp only [jh,ji];omega)
  |(simp;done)
theorem zog (ln:Ln) (p:Int) (m tg:Str) (hm:Int) (hf:List Fld) (hl le:Int) (ch:Ch) (out:List Evt):Spc Tryz.prog 44 [.v (.one (.ptr 0 0))] [.abs (.rq ⟨ln,p,⟨m,tg,hm,hf,hl⟩,le,some ch,true,out⟩)] (.ret (.v (.one (.p (.bool ((decide (Rq.pos ⟨ln,p,⟨m,tg,hm,hf,hl⟩,le,some ch,true,out⟩=4)))))))) [.abs (.rq ⟨ln,p,⟨m,tg,hm,hf,hl⟩,le,some ch,true,out⟩)]:=by
 refine spcG zh mixed Tryz.func44 (by kernel_rfl) { cfgQ with keep:=some [0,2]} [] (by kernel_rfl) ?_
 intro I X hI hX
 refine orcL ?_;go_invoke;refine orcS (by kernel_rfl) ?_
 simp only [zq,Nat.reduceAdd];subst hI;simp only [nrmA,nrmB,nrlB,reduceCtorEq,HO.abs.injEq,Gh.rq.injEq,Rq.mk.injEq]
 (repeat' (first|refine ja ?_ ?_|intro _))<;>first|omega|exact jb|exact jc ‹False›|skip
 all_goals first
  |omega
  |rfl
  |with_reducible assumption
  |(simp only [jh,ji];omega)
  |(simp;done)
theorem zoh (ln:Ln) (p:Int) (m tg:Str) (hm:Int) (hf:List Fld) (hl le:Int) (ch:Ch) (out:List Evt):Spc Tryz.prog 44 [.v (.one (.ptr 0 0))] [.abs (.rq ⟨ln,p,⟨m,tg,hm,hf,hl⟩,le,some ch,false,out⟩)] (.ret (.v (.one (.p (.bool ((decide (Rq.pos ⟨ln,p,⟨m,tg,hm,hf,hl⟩,le,some ch,false,out⟩=4)))))))) [.abs (.rq ⟨ln,p,⟨m,tg,hm,hf,hl⟩,le,some ch,false,out⟩)]:=by
 refine spcG zh mixed Tryz.func44 (by kernel_rfl) { cfgQ with keep:=some [0,2]} [] (by kernel_rfl) ?_
 intro I X hI hX
 refine orcL ?_;go_invoke;refine orcS (by kernel_rfl) ?_
 simp only [zq,Nat.reduceAdd];subst hI;simp only [nrmA,nrmB,nrlB,reduceCtorEq,HO.abs.injEq,Gh.rq.injEq,Rq.mk.injEq]
 (repeat' (first|refine ja ?_ ?_|intro _))<;>first|omega|exact jb|exact jc ‹False›|skip
 all_goals first
  |omega
  |rfl
  |with_reducible assumption
  |(simp only [jh,ji];omega)
  |(simp;done)
def Vd (I:Alg) (args:List D) (hp:List HO):Option CT:=match args,hp with
 |[.v (.one (.ptr 0 0))],[.abs (.rq q)]=>(fun(q:Rq)=>(some (.one ⟨I.hid (True),(.ret (.v (.one (.p (.bool (I.hid ((decide (Rq.pos q=4))))))))),[.abs (.rq (I.hid ((q))))]⟩):Option CT)) q
 |_,_=>none
theorem zfG:zx Tryz.prog 44 (Vd alg):=by
 intro args hp r h;unfold Vd at h;split at h<;>cases h
 rename_i q;simp only [CT.Good,zi];intro _;obtain⟨ln,p,⟨m,tg,hm,hf,hl⟩,le,ck,own,out⟩:=q
 cases ck with
 | none=>cases own with
   |true=>exact zoi ln p m tg hm hf hl le out
   |false=>exact zoj ln p m tg hm hf hl le out
 | some ch=>cases own with
   |true=>exact zog ln p m tg hm hf hl le ch out
   |false=>exact zoh ln p m tg hm hf hl le ch out
def xR:Know Tryz.prog:=⟨44,Vd,zfG⟩
def xQ:Know Tryz.prog:=⟨44,fun I=>zy I (Vd I),zf zfG⟩
end Go.Proofs.YtkjepecoodjbmaaGreatDoor
namespace Go.Ab
open Go Go.Sep
variable [Facts]
theorem Spc.zwh {Pr:Program} {f:Nat} {args:List D} {hp:List HO} {u:U} {E:Nat} {l:List u.den} (hl:l.length≤maxLen) (hf: ∃ fn,Pr.funcs[f]? =some fn∧(fn.name == "runtime.NumGoroutine")=false∧fn.body.isNone=false)
  (h: ∀ (S:Frz) (bs:List Value) (w:World) (vs:List Value),Facts.p w→MDs S bs args vs→∃ cs:Array Value,cs.size=l.length * u.size∧(∀ (i:Nat) (x:u.den) (j:Nat) (p:P) (v:Value),l[i]? =some x→(enc alg u x)[j]? =some p→cs.toList[i * u.size+j]? =some v→MP S p v)∧Calls Pr f vs.toArray w fun e w'=>e=.returned (.slice (some ⟨w.heap.size,0,none⟩) l.length l.length)∧w'=w.alloc (.cells cs E)):Spc Pr f args hp (.ret (.v (.one (.row hp.length)))) (hp++[.row u E l]):=by
 refine⟨hf,fun S K fr w vs hH hM hA=> ?_⟩;obtain⟨cs,hcs,hx,hc⟩:=h S _ w vs (At.frz hA).facts hM;refine hc.mono fun e w' he=> ?_;obtain⟨rfl,rfl⟩:=he
 have he:Ext (K.map CO.base) ((K++[CO.row E u.size (some ⟨w.heap.size,0,none⟩) l.length l.length cs.toList]).map CO.base):=by rw [List.map_append];exact Ext.append _ _
 refine⟨S,K++[CO.row E u.size (some ⟨w.heap.size,0,none⟩) l.length l.length cs.toList],Frz.le.refl S,he,(hH.mono (Frz.le.refl S) he).push (.row (by rw [Array.length_toList];exact hcs) hx),?_,?_⟩
 · have h1:=hA.zaf E u.size l.length cs (0,0) hcs hl (uX _)
   exact At.more h1
 · refine⟨?_,some ⟨w.heap.size,0,none⟩,l.length,l.length,rfl⟩
   rw [hH.1];exact xI _ _
end Go.Ab
namespace Go.Proofs.YtkjepecoodjbmaaGreatDoor
open Go Go.Sep Go.Ab
set_option maxRecDepth 100000
theorem index_one: ∀ (s:Str) (c:UInt8),c ∉ s→Lib.index s [c]= -1
 |[],c,_=>rfl
 | b::l,c,h=>by
   have h1: ¬ b=c:=fun e=>h (by rw [e];exact List.mem_cons_self)
   have h2:c ∉ l:=fun e=>h (List.mem_cons_of_mem _ e)
   have h0:(c == b)=false:=by simpa using fun e:c=b=>h1 e.symm
   have h3:([c]:Str).isPrefixOf (b::l)=false:=by simp [List.isPrefixOf,h0]
   unfold Lib.index;rw [h3,index_one l c h2];rfl
theorem zkJ: ∀ (p r:Str) (c:UInt8),c ∉ p→Lib.index (p++c::r) [c]=p.length
 |[],r,c,_=>by simp [Lib.index,List.isPrefixOf]
 | b::l,r,c,h=>by
   have h1: ¬ b=c:=fun e=>h (by rw [e];exact List.mem_cons_self)
   have h2:c ∉ l:=fun e=>h (List.mem_cons_of_mem _ e)
   have h0:(c == b)=false:=by simpa using fun e:c=b=>h1 e.symm
   have h3:([c]:Str).isPrefixOf (b::(l++c::r))=false:=by simp [List.isPrefixOf,h0]
   rw [List.cons_append];unfold Lib.index;rw [h3,zkJ l r c h2]
   have: ¬ ((l.length:Int) == -1)=true:=fun e=>by have:=beq_iff_eq.1 e;omega
   rw [if_neg (by simp),if_neg this]
   simp
theorem zaz: ∀ (s:Str),(32:UInt8) ∉ s→yQ s=[s]
 |[],_=>rfl
 | b::l,h=>by
   have h1: ¬ b=32:=fun e=>h (by rw [e];exact List.mem_cons_self)
   have h2:(32:UInt8) ∉ l:=fun e=>h (List.mem_cons_of_mem _ e);rw [yQ,if_neg h1,zaz l h2]
theorem zcc: ∀ (p r:Str),(32:UInt8) ∉ p→yQ (p++32::r)=p::yQ r
 |[],r,_=>by simp [yQ]
 | b::l,r,h=>by
   have h1: ¬ b=32:=fun e=>h (by rw [e];exact List.mem_cons_self)
   have h2:(32:UInt8) ∉ l:=fun e=>h (List.mem_cons_of_mem _ e);rw [List.cons_append,yQ,if_neg h1,zcc l r h2]
theorem ztQ: ∀ (s:Str) (c:UInt8),c ∈ s→∃ p r,s=p++c::r∧c ∉ p
 | b ::l,c,h=>by
   by_cases e:b=c
   · exact⟨[],l,by rw [e];rfl,by simp⟩
   · have h2:c ∈ l:=by
      rcases List.mem_cons.1 h with h|h
      · exact absurd h.symm e
      · exact h
     obtain⟨p,r,rfl,h3⟩:=ztQ l c h2;refine⟨b::p,r,rfl,fun h4=> ?_⟩
     rcases List.mem_cons.1 h4 with h4|h4
     · exact e h4.symm
     · exact h3 h4
theorem zfj: ∀ (n:Nat) (s:Str),s.length≤n→∀ k,s.count 32≤k→Lib.splitK [32] 0 k s=yQ s
 | 0,s,hs,k,_=>by
   have:s=[]:=List.length_eq_zero_iff.1 (by omega)
   subst this
   cases k<;>rfl
 | n + 1,s,hs,k,hk=>by
   by_cases hm:(32:UInt8) ∈ s
   · obtain⟨p,r,rfl,hp⟩:=ztQ s 32 hm
     have hc:(p++32::r).count 32=r.count 32+1:=by
      rw [List.count_append,List.count_eq_zero.2 hp,List.count_cons_self];omega
     rw [hc] at hk
     cases k with
     |zero=>omega
     | succ k=>
       rw [zcc p r hp];unfold Lib.splitK;rw [zkJ p r 32 hp]
       have: ¬ ((p.length:Int) == -1)=true:=fun e=>by have:=beq_iff_eq.1 e;omega
       rw [if_neg this];simp only [jJ,Nat.add_zero,jh,ji,Nat.zero_add]
       rw [List.take_left,show p.length+1=(p++[(32:UInt8)]).length by simp,show p++32::r=(p++[32])++r by simp,List.drop_left]
       congr 1
       refine zfj n r ?_ k (by omega)
       simp only [jk,jh] at hs;omega
   · rw [zaz s hm]
     cases k with
     |zero=>rfl
     | succ k=>
       unfold Lib.splitK;rw [index_one s 32 hm];rfl
theorem count_one (s:Str):Lib.count s [32]=s.count 32:=Lib.count_one 32 s
theorem zaA: ∀ (s:Str),(yQ s).length=s.count 32+1
 |[]=>rfl
 | c ::r=>by
   have ih:=zaA r;rw [yQ]
   split
   · rename_i h;subst h;rw [jh,ih,List.count_cons_self]
   · rename_i h
     rw [List.count_cons_of_ne (by simpa using h)]
     cases hq:yQ r with
     |nil=>exact absurd hq (zcb r)
     |cons w ws=>rw [hq] at ih;simpa using ih
theorem znt {S:Frz} {l:List Str} (hl: ∀ x ∈ l,x.length≤maxLen) {vs:List Value} (hv:vs=l.map fun x=>Value.string (Sep.S x)): ∀ (i:Nat) (x:Str) (j:Nat) (p:P) (v:Value),l[i]? =some x→(enc alg .str x)[j]? =some p→vs[i * U.str.size+j]? =some v→MP S p v:=by
 intro i x j p v hi hj hv2
 cases j with
 | zero=>
   simp only [enc,List.getElem?_cons_zero,jw] at hj;subst hj
   rw [hv,show i * U.str.size+0=i by simp [U.size],List.getElem?_map,hi] at hv2
   cases hv2;exact .str _ (hl x (List.mem_of_getElem? hi))
 |succ j=>simp [enc] at hj
theorem sH: ∀ (s:Str),∀ x ∈ yQ s,x.length≤s.length
 |[],x,h=>by simp [yQ] at h;subst h;simp
 | c ::r,x,h=>by
   have ih:=sH r;rw [yQ] at h
   split at h
   · rcases List.mem_cons.1 h with rfl|h
     · simp
     · have:=ih x h;simp;omega
   · cases hq:yQ r with
     |nil=>exact absurd hq (zcb r)
     | cons w ws=>
       rw [hq] at h ih
       rcases List.mem_cons.1 h with rfl|h
       · have:=ih w List.mem_cons_self;simp;omega
       · have:=ih x (List.mem_cons_of_mem _ h);simp;omega
def RF (I:Alg) (args:List D) (hp:List HO):Option CT:=match args,hp with
 |[.v (.one (.p (.str s))),.v (.one (.p (.str ([32]))))],[]=>(fun(s:Str)=>(some (.one ⟨I.hid (s.length≤1000000),(.ret (.v (.one (.row 0)))),[.row .str 9 (I.hid ((yQ s)))]⟩):Option CT)) s
 |_,_=>none
theorem zjt:zx Tryz.prog 210 (RF alg):=by
 intro args hp r h;unfold RF at h;split at h<;>cases h
 rename_i s;simp only [CT.Good,zi];intro hneed;have hlen:=zaA s;have hcl:s.count 32≤s.length:=List.count_le_length
 refine Spc.zwh (hp:=[]) (u:=.str) (by rw [hlen];unfold maxLen;omega) ⟨_,Tryz.func210,by kernel_rfl,by kernel_rfl⟩ fun S bs w vs hW hM=> ?_
 obtain⟨v,r,rfl⟩: ∃ v r,vs=v::r:=by cases vs with|nil=>exact hM.elim|cons v r=>exact⟨v,r,rfl⟩
 obtain⟨h1,hM⟩:=hM
 obtain⟨v2,r2,rfl⟩: ∃ v r2,r=v::r2:=by cases r with|nil=>exact hM.elim|cons v r=>exact⟨v,r,rfl⟩
 obtain⟨h2,hM⟩:=hM
 obtain rfl:r2=[]:=by cases r2 with|nil=>rfl|cons v r=>exact hM.elim
 obtain⟨mx,hmx⟩:=hW.2
 cases h1 with
 | str _ hl1=>
   cases h2 with
   | str _ hl2=>
     have hc:=Tryz.strings_Split (Sep.S s) (Sep.S [32]) mx w (by show s.length<_;omega) hmx (by decide)
     have hk:Lib.countB (Sep.S s) (Sep.S [32])=s.count 32:=count_one s
     have hd:(Lib.splitB (Sep.S [32]) 0 (Lib.countB (Sep.S s) (Sep.S [32])) (Sep.S s)).map (fun b=>b.data.toList)=yQ s:=by
      rw [Lib.splitB_data,hk];exact zfj s.length s (jL _) _ (jL _)
     have hv:(Lib.splitB (Sep.S [32]) 0 (Lib.countB (Sep.S s) (Sep.S [32])) (Sep.S s)).map Value.string=(yQ s).map fun x=>Value.string (Sep.S x):=by
      rw [← hd,List.map_map]
      exact List.map_congr_left fun b _=>by simp [Sep.S]
     refine⟨((Lib.splitB (Sep.S [32]) 0 (Lib.countB (Sep.S s) (Sep.S [32])) (Sep.S s)).map Value.string).toArray,?_,?_,hc.mono fun e w' h=> ?_⟩
     · rw [hv];simp [U.size]
     · exact znt (fun x hx=>by have:=sH s x hx;unfold maxLen;omega) (by rw [hv])
     · obtain⟨he,hw⟩:=h
       rw [hk] at he;rw [hlen];exact⟨he,hw⟩
def zjs:Know Tryz.prog:=⟨210,RF,zjt⟩
def zjr:Know Tryz.prog:=⟨210,fun I=>zy I (RF I),zf zjt⟩
end Go.Proofs.YtkjepecoodjbmaaGreatDoor
namespace Go.Proofs.YtkjepecoodjbmaaGreatDoor
open Go Go.Sep Go.Ab
set_option maxRecDepth 100000
theorem zng (s:Str):decide (0≤Lib.indexByte s 9)=s.contains 9:=by
 have h: ∀ s:Str,(0≤Lib.indexByte s 9)↔s.contains 9=true:=by
  intro s
  induction s with
  |nil=>simp [Lib.indexByte]
  | cons b l ih=>
    have hb:=Yw l 9;unfold Lib.indexByte
    by_cases e:b=9
    · subst e;simp
    · have e2:(b == 9)=false:=by simpa using e
      have e3:((9:UInt8) == b)=false:=by simpa using fun h:9=b=>e h.symm
      rw [e2,if_neg (by simp),List.contains_cons,e3,Bool.false_or,← ih]
      split
      · rename_i h;have:=beq_iff_eq.1 h;omega
      · rename_i h;have: ¬ Lib.indexByte l 9= -1:=fun e=>h (by rw [e];rfl);omega
 rw [Bool.eq_iff_iff,decide_eq_true_eq];exact h s
theorem znf (s:Str):(0≤Lib.indexByte s 9)↔s.contains 9=true:=by rw [← zng,decide_eq_true_iff]
theorem zkb (b:Str):Lib.hasPrefix b [47]=decide (b.head?=some 47):=by
 cases b with
 |nil=>rfl
 | cons c r=>
   unfold Lib.hasPrefix
   by_cases h:c=47
   · subst h;simp [List.isPrefixOf]
   · simp [List.isPrefixOf,h];exact fun e=>h e.symm
def rG (q:Rq) (s:Str):Rq:=
 if(begM s).1=0 then { q with h:=(begM s).2,pos:=1} else if(begM s).1=11 then { q with h:=(begM s).2} else q
def uy (q:Rq):Prop:=q.own=true
theorem zrM (ln:Ln) (p:Int) (m tg:Str) (hm:Int) (hf:List Fld) (hl le:Int) (out:List Evt) (s:Str) (hneed:uy ⟨ln,p,⟨m,tg,hm,hf,hl⟩,le,none,true,out⟩∧s.length≤1000000):Spc Tryz.prog 171 [.v (.one (.ptr 0 0)),.v (.one (.p (.str s)))] [.abs (.rq ⟨ln,p,⟨m,tg,hm,hf,hl⟩,le,none,true,out⟩)] (.ret (.v (.one (.p (.int .i64 ((begM s).1)))))) [.abs (.rq ((rG ⟨ln,p,⟨m,tg,hm,hf,hl⟩,le,none,true,out⟩ s)))]:=by
 obtain⟨-,hs⟩:=hneed;generalize hr:begM s=r;obtain⟨rc,⟨rm,rt,ri,rf,rl⟩⟩:=r;unfold rG;rw [hr];unfold begM at hr;have hsm:=sH s
 refine spcG zh mixed Tryz.func171 (by kernel_rfl) { cfgQ with keep:=some [0,1,4,5,39]} [rC,ru,zjs,zjr,yL,yK,SS,SQ] (by kernel_rfl) ?_
 intro I X hI hX
 refine orcL ?_;go_invoke;refine orcS (by kernel_rfl) ?_
 simp only [zq,Nat.reduceAdd];subst hI;simp only [nrmA,nrmB,nrlB,reduceCtorEq,HO.abs.injEq,Gh.rq.injEq,Rq.mk.injEq];generalize yQ s=L at *
 by_cases h3:L.length=3
 · obtain⟨a,b,c,rfl⟩: ∃ a b c,L=[a,b,c]:=by
    match L,h3 with
    |[a,b,c],_=>exact⟨a,b,c,rfl⟩
   have ha:=hsm a (by simp)
   have hb:=hsm b (by simp)
   clear hsm h3;simp only [show Int.toNat 1=1 from rfl,show Int.toNat 2=2 from rfl,List.getD_cons_zero,List.getD_cons_succ,zkb,zng,znf,Bool.decide_eq_true] at hr ⊢
   by_cases q1:XH a=false
   · rw [if_pos q1] at hr
     simp only [Prod.mk.injEq,hd0,Hd.mk.injEq] at hr;obtain⟨rfl,rfl,rfl,rfl,rfl,rfl⟩:=hr
     (repeat' (first|refine ja ?_ ?_|intro _))<;>first|omega|exact jb|exact jc ‹False›|skip
     all_goals first|omega|rfl|(simp only [jh,ji];omega)|(simp_all;done)|trace_state
   rw [if_neg q1] at hr
   by_cases q2:b.head?≠some 47∨b.contains 9=true
   · rw [if_pos q2] at hr
     simp only [Prod.mk.injEq,hd0,Hd.mk.injEq] at hr;obtain⟨rfl,rfl,rfl,rfl,rfl,rfl⟩:=hr
     (repeat' (first|refine ja ?_ ?_|intro _))<;>first|omega|exact jb|exact jc ‹False›|skip
     all_goals first|omega|rfl|(simp only [jh,ji];omega)|(simp_all;done)|trace_state
   rw [if_neg q2] at hr
   by_cases q3:c=VE
   · rw [if_pos q3] at hr
     simp only [Prod.mk.injEq,Hd.mk.injEq] at hr;obtain⟨rfl,rfl,rfl,rfl,rfl,rfl⟩:=hr;unfold VE at q3
     (repeat' (first|refine ja ?_ ?_|intro _))<;>first|omega|exact jb|exact jc ‹False›|skip
     all_goals first|omega|rfl|(simp only [jh,ji];omega)|(simp_all;done)|trace_state
   rw [if_neg q3] at hr
   by_cases q4:c=za8
   · rw [if_pos q4] at hr
     simp only [Prod.mk.injEq,Hd.mk.injEq] at hr;obtain⟨rfl,rfl,rfl,rfl,rfl,rfl⟩:=hr;unfold VE at q3;unfold za8 at q4
     (repeat' (first|refine ja ?_ ?_|intro _))<;>first|omega|exact jb|exact jc ‹False›|skip
     all_goals first|omega|rfl|(simp only [jh,ji];omega)|(simp_all;done)|trace_state
   rw [if_neg q4] at hr;simp only [Prod.mk.injEq,Hd.mk.injEq] at hr;obtain⟨rfl,rfl,rfl,rfl,rfl,rfl⟩:=hr;unfold VE at q3;unfold za8 at q4
   (repeat' (first|refine ja ?_ ?_|intro _))<;>first|omega|exact jb|exact jc ‹False›|skip
   all_goals first|omega|rfl|(simp only [jh,ji];omega)|(simp_all;done)|trace_state
 · have hr2:(5,hd0)=((rc,⟨rm,rt,ri,rf,rl⟩):Int × Hd):=by
    rw [← hr]
    split
    · exact absurd rfl h3
    · rfl
   simp only [Prod.mk.injEq,hd0,Hd.mk.injEq] at hr2;obtain⟨rfl,rfl,rfl,rfl,rfl,rfl⟩:=hr2
   (repeat' (first|refine ja ?_ ?_|intro _))<;>first|omega|exact jb|exact jc ‹False›|skip
   all_goals first|omega|rfl|(simp only [jh,ji];omega)|trace_state
theorem zrN (ln:Ln) (p:Int) (m tg:Str) (hm:Int) (hf:List Fld) (hl le:Int) (out:List Evt) (s:Str) (hneed:uy ⟨ln,p,⟨m,tg,hm,hf,hl⟩,le,none,false,out⟩∧s.length≤1000000):Spc Tryz.prog 171 [.v (.one (.ptr 0 0)),.v (.one (.p (.str s)))] [.abs (.rq ⟨ln,p,⟨m,tg,hm,hf,hl⟩,le,none,false,out⟩)] (.ret (.v (.one (.p (.int .i64 ((begM s).1)))))) [.abs (.rq ((rG ⟨ln,p,⟨m,tg,hm,hf,hl⟩,le,none,false,out⟩ s)))]:=by
 exact absurd hneed.1 (fun h=>by unfold uy at h;cases h)
theorem zrK (ln:Ln) (p:Int) (m tg:Str) (hm:Int) (hf:List Fld) (hl le:Int) (ch:Ch) (out:List Evt) (s:Str) (hneed:uy ⟨ln,p,⟨m,tg,hm,hf,hl⟩,le,some ch,true,out⟩∧s.length≤1000000):Spc Tryz.prog 171 [.v (.one (.ptr 0 0)),.v (.one (.p (.str s)))] [.abs (.rq ⟨ln,p,⟨m,tg,hm,hf,hl⟩,le,some ch,true,out⟩)] (.ret (.v (.one (.p (.int .i64 ((begM s).1)))))) [.abs (.rq ((rG ⟨ln,p,⟨m,tg,hm,hf,hl⟩,le,some ch,true,out⟩ s)))]:=by
 obtain⟨-,hs⟩:=hneed;generalize hr:begM s=r;obtain⟨rc,⟨rm,rt,ri,rf,rl⟩⟩:=r;unfold rG;rw [hr];unfold begM at hr;have hsm:=sH s
 refine spcG zh mixed Tryz.func171 (by kernel_rfl) { cfgQ with keep:=some [0,1,4,5,39]} [rC,ru,zjs,zjr,yL,yK,SS,SQ] (by kernel_rfl) ?_
 intro I X hI hX
 refine orcL ?_;go_invoke;refine orcS (by kernel_rfl) ?_
 simp only [zq,Nat.reduceAdd];subst hI;simp only [nrmA,nrmB,nrlB,reduceCtorEq,HO.abs.injEq,Gh.rq.injEq,Rq.mk.injEq];generalize yQ s=L at *
 by_cases h3:L.length=3
 · obtain⟨a,b,c,rfl⟩: ∃ a b c,L=[a,b,c]:=by
    match L,h3 with
    |[a,b,c],_=>exact⟨a,b,c,rfl⟩
   have ha:=hsm a (by simp)
   have hb:=hsm b (by simp)
   clear hsm h3;simp only [show Int.toNat 1=1 from rfl,show Int.toNat 2=2 from rfl,List.getD_cons_zero,List.getD_cons_succ,zkb,zng,znf,Bool.decide_eq_true] at hr ⊢
   by_cases q1:XH a=false
   · rw [if_pos q1] at hr
     simp only [Prod.mk.injEq,hd0,Hd.mk.injEq] at hr;obtain⟨rfl,rfl,rfl,rfl,rfl,rfl⟩:=hr
     (repeat' (first|refine ja ?_ ?_|intro _))<;>first|omega|exact jb|exact jc ‹False›|skip
     all_goals first|omega|rfl|(simp only [jh,ji];omega)|(simp_all;done)|trace_state
   rw [if_neg q1] at hr
   by_cases q2:b.head?≠some 47∨b.contains 9=true
   · rw [if_pos q2] at hr
     simp only [Prod.mk.injEq,hd0,Hd.mk.injEq] at hr;obtain⟨rfl,rfl,rfl,rfl,rfl,rfl⟩:=hr
     (repeat' (first|refine ja ?_ ?_|intro _))<;>first|omega|exact jb|exact jc ‹False›|skip
     all_goals first|omega|rfl|(simp only [jh,ji];omega)|(simp_all;done)|trace_state
   rw [if_neg q2] at hr
   by_cases q3:c=VE
   · rw [if_pos q3] at hr
     simp only [Prod.mk.injEq,Hd.mk.injEq] at hr;obtain⟨rfl,rfl,rfl,rfl,rfl,rfl⟩:=hr;unfold VE at q3
     (repeat' (first|refine ja ?_ ?_|intro _))<;>first|omega|exact jb|exact jc ‹False›|skip
     all_goals first|omega|rfl|(simp only [jh,ji];omega)|(simp_all;done)|trace_state
   rw [if_neg q3] at hr
   by_cases q4:c=za8
   · rw [if_pos q4] at hr
     simp only [Prod.mk.injEq,Hd.mk.injEq] at hr;obtain⟨rfl,rfl,rfl,rfl,rfl,rfl⟩:=hr;unfold VE at q3;unfold za8 at q4
     (repeat' (first|refine ja ?_ ?_|intro _))<;>first|omega|exact jb|exact jc ‹False›|skip
     all_goals first|omega|rfl|(simp only [jh,ji];omega)|(simp_all;done)|trace_state
   rw [if_neg q4] at hr;simp only [Prod.mk.injEq,Hd.mk.injEq] at hr;obtain⟨rfl,rfl,rfl,rfl,rfl,rfl⟩:=hr;unfold VE at q3;unfold za8 at q4
   (repeat' (first|refine ja ?_ ?_|intro _))<;>first|omega|exact jb|exact jc ‹False›|skip
   all_goals first|omega|rfl|(simp only [jh,ji];omega)|(simp_all;done)|trace_state
 · have hr2:(5,hd0)=((rc,⟨rm,rt,ri,rf,rl⟩):Int × Hd):=by
    rw [← hr]
    split
    · exact absurd rfl h3
    · rfl
   simp only [Prod.mk.injEq,hd0,Hd.mk.injEq] at hr2;obtain⟨rfl,rfl,rfl,rfl,rfl,rfl⟩:=hr2
   (repeat' (first|refine ja ?_ ?_|intro _))<;>first|omega|exact jb|exact jc ‹False›|skip
   all_goals first|omega|rfl|(simp only [jh,ji];omega)|trace_state
theorem zrL (ln:Ln) (p:Int) (m tg:Str) (hm:Int) (hf:List Fld) (hl le:Int) (ch:Ch) (out:List Evt) (s:Str) (hneed:uy ⟨ln,p,⟨m,tg,hm,hf,hl⟩,le,some ch,false,out⟩∧s.length≤1000000):Spc Tryz.prog 171 [.v (.one (.ptr 0 0)),.v (.one (.p (.str s)))] [.abs (.rq ⟨ln,p,⟨m,tg,hm,hf,hl⟩,le,some ch,false,out⟩)] (.ret (.v (.one (.p (.int .i64 ((begM s).1)))))) [.abs (.rq ((rG ⟨ln,p,⟨m,tg,hm,hf,hl⟩,le,some ch,false,out⟩ s)))]:=by
 exact absurd hneed.1 (fun h=>by unfold uy at h;cases h)
def Qm (I:Alg) (args:List D) (hp:List HO):Option CT:=match args,hp with
 |[.v (.one (.ptr 0 0)),.v (.one (.p (.str s)))],[.abs (.rq q)]=>(fun(q:Rq) (s:Str)=>(some (.one ⟨I.hid (uy q∧s.length≤1000000),(.ret (.v (.one (.p (.int .i64 (I.hid ((begM s).1))))))),[.abs (.rq (I.hid ((rG q s))))]⟩):Option CT)) q s
 |_,_=>none
theorem zj3:zx Tryz.prog 171 (Qm alg):=by
 intro args hp r h;unfold Qm at h;split at h<;>cases h
 rename_i s q;simp only [CT.Good,zi];intro hneed;obtain⟨ln,p,⟨m,tg,hm,hf,hl⟩,le,ck,own,out⟩:=q
 cases ck with
 | none=>cases own with
   |true=>exact zrM ln p m tg hm hf hl le out s hneed
   |false=>exact zrN ln p m tg hm hf hl le out s hneed
 | some ch=>cases own with
   |true=>exact zrK ln p m tg hm hf hl le ch out s hneed
   |false=>exact zrL ln p m tg hm hf hl le ch out s hneed
def zj2:Know Tryz.prog:=⟨171,Qm,zj3⟩
def zj1:Know Tryz.prog:=⟨171,fun I=>zy I (Qm I),zf zj3⟩
def FsOk (f:List Fld):Prop:=f.length≤1000∧∀ x ∈ f,x.name.length≤1000000∧x.value.length≤1000000
theorem Wj (f:List Fld) (n:Str):(valsF f n).length≤f.length:=by
 unfold valsF
 first|exact Nat.le_trans (List.length_map ..).le (List.length_filter_le _ _)|(rw [List.length_map];exact List.length_filter_le _ _)|exact List.length_filterMap_le _ _
theorem zrl (a:Str) (n:Int) (l:List Str) (i:Nat) (h: ¬ i<l.length):sizM a n (l.drop i)=(n,0):=by
 rw [jF (by omega)];rfl
theorem znB (a:Str) (n:Int) (l:List Str) (i:Nat) (h:i<l.length):sizM a n (l.drop i)=if(numA (l.getD i []) 10 9).2=false then(0,7) else if l.getD i []≠a then(0,12) else sizM a (numA (l.getD i []) 10 9).1 (l.drop (i+1)):=by
 rw [jE h,show l.getD i []=l[i] by simp [h]];rfl
def Qj (I:Alg) (args:List D) (hp:List HO):Option CT:=match args,hp with
 |[.v (.agg [(.p (.str m)),(.p (.str t)),(.p (.int .i64 mi)),(.p (.list .fld f)),(.p (.int .i64 le))])],[]=>(fun(m t:Str) (mi:Int) (f:List Fld) (le:Int)=>(some (.one ⟨I.hid (FsOk f),(.ret (.tup [(.one (.p (.int .i64 (I.hid ((lenM mi f).1))))),(.one (.p (.int .i64 (I.hid ((lenM mi f).2)))))])),[]⟩):Option CT)) m t mi f le
 |_,_=>none
theorem zjY:zx Tryz.prog 212 (Qj alg):=by
 intro args hp r h;unfold Qj at h;split at h<;>cases h
 rename_i m t mi f le
 revert f;intro(f:List Fld)
 simp only [CT.Good,zi];intro hneed;obtain⟨hf1,hf2⟩:=hneed;generalize hr:lenM mi f=r;obtain⟨rn,rc⟩:=r
 refine spcG zh mixed Tryz.func212 (by kernel_rfl) { keep:=some [0,1,2,3,4,5,6,7,8,9,10,45,46,47]} [vg,ve,Wh,X9,rE,rD] (by kernel_rfl) ?_
 intro I X hI hX
 refine orcL ?_;go_invoke;refine orcS (by kernel_rfl) ?_
 simp only [zq,Nat.reduceAdd]
 have hh: ∀ {α:Type} (x:α),I.hid x=x:=by subst hI;intros;rfl
 have hln: ∀ (l:List Str),I.len l=(l.length:Int):=by subst hI;intros;rfl
 simp only [hh,hln];unfold lenM at hr;rw [show zdB=[116,114,97,110,115,102,101,114,45,101,110,99,111,100,105,110,103] from rfl,show YH=[99,111,110,116,101,110,116,45,108,101,110,103,116,104] from rfl] at hr;have hL1:=Wj f [99,111,110,116,101,110,116,45,108,101,110,103,116,104];have hT1:=Wj f [116,114,97,110,115,102,101,114,45,101,110,99,111,100,105,110,103]
 have hT2: ∀ x ∈ valsF f [116,114,97,110,115,102,101,114,45,101,110,99,111,100,105,110,103],x.length≤1000000:=by
  intro x hx;unfold valsF at hx;rw [List.mem_map] at hx;obtain⟨y,hy,rfl⟩:=hx;exact(hf2 y (List.mem_filter.1 hy).1).2
 generalize valsF f [99,111,110,116,101,110,116,45,108,101,110,103,116,104]=L at *;generalize valsF f [116,114,97,110,115,102,101,114,45,101,110,99,111,100,105,110,103]=T at *
 have keyL: ∀ (k:Int) (st:St),k=(L.length:Int)→(if(sizM (L.getD 0 []) 0 L).2≠0 then(0,(sizM (L.getD 0 []) 0 L).2) else if 4000<(sizM (L.getD 0 []) 0 L).1 then(0,4) else((sizM (L.getD 0 []) 0 L).1,0))=(rn,rc)→cutM { keep:=some [0,1,2,3,4,5,6,7,8,9,10,45,46,47]} 0 [4,6,45,46,47] st=some ⟨[(4,.v (.one (.row 0))),(6,.v (.one (.p (.int .i64 0)))),(45,.v (.one (.row 0))),(46,.v (.one (.p (.int .i64 k)))),(47,.v (.one (.p (.int .i64 0))))],[.row .str 9 L],75,none⟩→Ok Tryz.prog X (fun o h=>o=(.ret (.tup [(.one (.p (.int .i64 rn))),(.one (.p (.int .i64 rc)))]))∧h=[]) (leaf I tab { keep:=some [0,1,2,3,4,5,6,7,8,9,10,45,46,47]} [⟨um Tryz.f212,finK I tab { keep:=some [0,1,2,3,4,5,6,7,8,9,10,45,46,47]} 0 Tryz.f212⟩] 0 [1,1,1,1,0,1,0] st):=by
  intro k st hk hm hst
  refine zB hI zh mixed [vg,ve,Wh,X9,rE,rD] hX [4,6,45,46,47] (fun(g:Nat × Int)=>match g with|(i,n)=>i≤L.length∧(if(sizM (L.getD 0 []) n (L.drop i)).2≠0 then(0,(sizM (L.getD 0 []) n (L.drop i)).2) else if 4000<(sizM (L.getD 0 []) n (L.drop i)).1 then(0,4) else((sizM (L.getD 0 []) n (L.drop i)).1,0))=(rn,rc)) (fun(g:Nat × Int)=>match g with|(i,n)=>⟨[(4,.v (.one (.row 0))),(6,.v (.one (.p (.int .i64 n)))),(45,.v (.one (.row 0))),(46,.v (.one (.p (.int .i64 k)))),(47,.v (.one (.p (.int .i64 i))))],[.row .str 9 L],75,none⟩) (fun(g:Nat × Int)=>match g with|(i,n)=>L.length - i) (0,0) (by kernel_rfl) hst ?_ ?_
  · exact⟨jM _,hm⟩
  clear hm hst hr;rintro⟨i,n⟩ ⟨h1,hm⟩ A hA;simp only at hA
  refine orcL ?_;go_invoke;refine orcS (by kernel_rfl) ?_
  simp only [zq,Nat.reduceAdd];subst hI;simp only [nrmA,nrmB]
  by_cases hi:i<L.length
  · rw [znB _ _ _ _ hi] at hm
    have h0:i=0→L.getD i []=L.getD 0 []:=fun h=>by rw [h]
    have hn:=uF (L.getD i []);have hgo:=hA (i+1,(numA (L.getD i []) 10 9).1);generalize L.getD i []=x at *;generalize L.getD 0 []=y at *;generalize numA x 10 9=na at *;obtain⟨na,nb⟩:=na;simp only at hm hgo hn
    cases nb with
    | false=>
      rw [if_pos rfl] at hm;simp only [ne_eq,Int.reduceEq,jg,if_true,Prod.mk.injEq] at hm;obtain⟨rfl,rfl⟩:=hm
      (repeat' (first|refine ja ?_ ?_|intro _))<;>first|omega|exact jb|exact jc ‹False›|skip
      all_goals first|omega|rfl|contradiction|(simp_all;done)|trace_state
    | true=>
      simp only [je,if_false] at hm
      by_cases hxy:x=y
      · simp only [if_neg (fun h:x≠y=>h hxy)] at hm
        have hg:=hgo ⟨by omega,hm⟩ (by omega)
        (repeat' (first|refine ja ?_ ?_|intro _))<;>first|omega|exact jb|exact jc ‹False›|skip
        all_goals first|omega|exact hg|contradiction|(exfalso;exact ‹¬ x=y› hxy)|trace_state
      · simp only [if_pos (show x≠y from hxy),ne_eq,Int.reduceEq,jg,if_true,Prod.mk.injEq] at hm
        obtain⟨rfl,rfl⟩:=hm;have hi0: ¬ i=0:=fun h=>hxy (h0 h)
        (repeat' (first|refine ja ?_ ?_|intro _))<;>first|omega|exact jb|exact jc ‹False›|skip
        all_goals first|omega|rfl|contradiction|(exfalso;exact hxy ‹x=y›)|trace_state
  · rw [zrl _ _ _ _ hi] at hm
    simp only [ne_eq,jf,if_false] at hm
    by_cases h4:4000<n
    · rw [if_pos h4] at hm
      simp only [Prod.mk.injEq] at hm;obtain⟨rfl,rfl⟩:=hm
      (repeat' (first|refine ja ?_ ?_|intro _))<;>first|omega|exact jb|exact jc ‹False›|skip
      all_goals first|omega|rfl|trace_state
    · rw [if_neg h4] at hm
      simp only [Prod.mk.injEq] at hm;obtain⟨rfl,rfl⟩:=hm
      (repeat' (first|refine ja ?_ ?_|intro _))<;>first|omega|exact jb|exact jc ‹False›|skip
      all_goals first|omega|rfl|trace_state
 subst hI;have hT0:T.length=0↔T=[]:=List.length_eq_zero_iff;have hLz:L.length=0↔L=[]:=List.length_eq_zero_iff;simp only [nrmA,nrmB]
 have hg0:0<T.length→(T.getD 0 []).length≤1000000:=fun h=>hT2 _ (by rw [show T.getD 0 []=T[0] by simp [h]];exact List.getElem_mem h)
 by_cases q1:T=[]
 · rw [if_neg (fun h=>h q1)] at hr
   have q2:=hT0.2 q1;clear hg0 hT2
   (repeat' (first|refine ja ?_ ?_|intro _))<;>first|omega|exact jb|exact jc ‹False›|skip
   all_goals first
    |omega
    |((with_reducible show Ok _ _ _ _);(try(exfalso;omega));exact keyL _ _ rfl hr (by kernel_rfl))
    |exact⟨hf1,by decide,hf2⟩
    |exact hf1
    |(exact(hf2 _ ‹_›).1)
    |(exact(hf2 _ ‹_›).2)
    |decide
 · rw [if_pos q1] at hr
   have q2: ¬ T.length=0:=fun h=>q1 (hT0.1 h);clear keyL
   by_cases q3:L≠[]∨mi=0
   · rw [if_pos q3] at hr
     simp only [Prod.mk.injEq] at hr;obtain⟨rfl,rfl⟩:=hr
     have q4:L.length=0→mi=0:=fun h=>by
      rcases q3 with q3|q3
      · exact absurd (hLz.1 h) q3
      · exact q3
     (repeat' (first|refine ja ?_ ?_|intro _))<;>first|omega|exact jb|exact jc ‹False›|skip
     all_goals first|omega|rfl|(exact(hf2 _ ‹_›).1)|(exact(hf2 _ ‹_›).2)|decide|trace_state
   · rw [if_neg q3] at hr
     simp only [not_or,ne_eq,Decidable.not_not] at q3;have q4:=hLz.2 q3.1
     by_cases q5:1<T.length∨lowS (T.getD 0 [])≠zac
     · rw [if_pos q5] at hr
       unfold zac at q5;simp only [Prod.mk.injEq] at hr;obtain⟨rfl,rfl⟩:=hr
       (repeat' (first|refine ja ?_ ?_|intro _))<;>first|omega|exact jb|exact jc ‹False›|skip
       all_goals first|omega|rfl|(exact(hf2 _ ‹_›).1)|(exact(hf2 _ ‹_›).2)|decide|exact hg0 (by omega)|(exfalso;rcases q5 with q5|q5<;>first|omega|exact q5 ‹_›)|trace_state
     · rw [if_neg q5] at hr
       unfold zac at q5;simp only [not_or,ne_eq,Decidable.not_not] at q5;simp only [Prod.mk.injEq] at hr;obtain⟨rfl,rfl⟩:=hr
       (repeat' (first|refine ja ?_ ?_|intro _))<;>first|omega|exact jb|exact jc ‹False›|skip
       all_goals first|omega|rfl|(exact(hf2 _ ‹_›).1)|(exact(hf2 _ ‹_›).2)|decide|exact hg0 (by omega)|(exfalso;exact ‹¬ _=_› q5.2)|trace_state
def zjX:Know Tryz.prog:=⟨212,Qj,zjY⟩
def zjW:Know Tryz.prog:=⟨212,fun I=>zy I (Qj I),zf zjY⟩
end Go.Proofs.YtkjepecoodjbmaaGreatDoor
namespace Go.Proofs.YtkjepecoodjbmaaGreatDoor
open Go Go.Sep Go.Ab
set_option maxRecDepth 100000
def rqFs (q:Rq):Prop:=FsOk q.h.fields∧q.out.length≤9000000
theorem zoe (ln:Ln) (p:Int) (m tg:Str) (hm:Int) (hf:List Fld) (hl le:Int) (out:List Evt) (hneed:uy ⟨ln,p,⟨m,tg,hm,hf,hl⟩,le,none,true,out⟩∧rqFs ⟨ln,p,⟨m,tg,hm,hf,hl⟩,le,none,true,out⟩):Spc Tryz.prog 172 [.v (.one (.ptr 0 0))] [.abs (.rq ⟨ln,p,⟨m,tg,hm,hf,hl⟩,le,none,true,out⟩)] (.ret (.v (.one (.p (.int .i64 ((yR ⟨ln,p,⟨m,tg,hm,hf,hl⟩,le,none,true,out⟩).2)))))) [.abs (.rq (((yR ⟨ln,p,⟨m,tg,hm,hf,hl⟩,le,none,true,out⟩).1)))]:=by
 obtain⟨-,hfs,hfw⟩:=hneed;simp only at hfs hfw;obtain⟨hf1,hf2⟩:=hfs;generalize hr:yR ⟨ln,p,⟨m,tg,hm,hf,hl⟩,le,none,true,out⟩=r;obtain⟨rq,rc⟩:=r
 have hhl:Rf.length≤1000000:=by decide
 refine spcG zh mixed Tryz.func172 (by kernel_rfl) { cfgQ with fz:=[117],keep:=some [0,2,4,5]} [YG,YF,zlx,zlw,zY,zX,yj,yh,yF,yE,yN,yM,wO,wM,Y4,Y3,zjX,zjW] (by kernel_rfl) ?_
 intro I X hI hX
 refine orcL ?_;go_invoke;refine orcS (by kernel_rfl) ?_
 simp only [zq,Nat.reduceAdd];subst hI;unfold yR zuP at hr;simp only at hr;rw [show([104,111,115,116]:Str)=Rf from rfl];simp only [nrmA,nrmB,nrlB,reduceCtorEq,HO.abs.injEq,Gh.rq.injEq,Rq.mk.injEq];have hln:=zie hm hf;generalize oneF (valsF hf Rf)=oc at *;obtain⟨ov,oc⟩:=oc;simp only at hr ⊢;generalize lenM hm hf=z at *;obtain⟨zn,zc⟩:=z;simp only at hr hln ⊢
 by_cases q1:(decide (oc=9)||decide (oc=10)&&decide (hm=1))=true
 · rw [if_pos q1] at hr
   simp only [Prod.mk.injEq] at hr;obtain⟨rfl,rfl⟩:=hr;simp only [Bool.or_eq_true,jK,decide_eq_true_eq] at q1
   (repeat' (first|refine ja ?_ ?_|intro _))<;>first|omega|exact jb|exact jc ‹False›|skip
   all_goals first|omega|rfl|exact hf1|exact⟨hf1,hf2⟩|(exact(hf2 _ ‹_›).1)|(exact(hf2 _ ‹_›).2)|(unfold zG;simp only;omega)|trace_state
 rw [if_neg q1] at hr;simp only [Bool.or_eq_true,jK,decide_eq_true_eq] at q1
 by_cases q2:zc=0
 · rw [if_neg (fun h=>h q2)] at hr
   by_cases q3:zn=0
   · rw [if_pos q3] at hr
     simp only [Prod.mk.injEq] at hr;obtain⟨rfl,rfl⟩:=hr;subst q3
     (repeat' (first|refine ja ?_ ?_|intro _))<;>first|omega|exact jb|exact jc ‹False›|skip
     all_goals first|omega|rfl|exact hf1|exact⟨hf1,hf2⟩|(exact(hf2 _ ‹_›).1)|(exact(hf2 _ ‹_›).2)|(unfold zG;simp;omega)|trace_state
   rw [if_neg q3] at hr
   by_cases q4:0<zn
   · rw [if_pos q4] at hr
     simp only [Prod.mk.injEq] at hr;obtain⟨rfl,rfl⟩:=hr
     (repeat' (first|refine ja ?_ ?_|intro _))<;>first|omega|exact jb|exact jc ‹False›|skip
     all_goals first|omega|rfl|exact hf1|exact⟨hf1,hf2⟩|(exact(hf2 _ ‹_›).1)|(exact(hf2 _ ‹_›).2)|(unfold zG;simp;omega)|trace_state
   · rw [if_neg q4] at hr
     simp only [Prod.mk.injEq] at hr;obtain⟨rfl,rfl⟩:=hr
     (repeat' (first|refine ja ?_ ?_|intro _))<;>first|omega|exact jb|exact jc ‹False›|skip
     all_goals first|omega|rfl|exact hf1|exact⟨hf1,hf2⟩|(exact(hf2 _ ‹_›).1)|(exact(hf2 _ ‹_›).2)|(unfold zG;simp;omega)|trace_state
 · rw [if_pos q2] at hr
   simp only [Prod.mk.injEq] at hr;obtain⟨rfl,rfl⟩:=hr
   (repeat' (first|refine ja ?_ ?_|intro _))<;>first|omega|exact jb|exact jc ‹False›|skip
   all_goals first|omega|rfl|exact hf1|exact⟨hf1,hf2⟩|(exact(hf2 _ ‹_›).1)|(exact(hf2 _ ‹_›).2)|(unfold zG;simp only;omega)|trace_state
theorem zof (ln:Ln) (p:Int) (m tg:Str) (hm:Int) (hf:List Fld) (hl le:Int) (out:List Evt) (hneed:uy ⟨ln,p,⟨m,tg,hm,hf,hl⟩,le,none,false,out⟩∧rqFs ⟨ln,p,⟨m,tg,hm,hf,hl⟩,le,none,false,out⟩):Spc Tryz.prog 172 [.v (.one (.ptr 0 0))] [.abs (.rq ⟨ln,p,⟨m,tg,hm,hf,hl⟩,le,none,false,out⟩)] (.ret (.v (.one (.p (.int .i64 ((yR ⟨ln,p,⟨m,tg,hm,hf,hl⟩,le,none,false,out⟩).2)))))) [.abs (.rq (((yR ⟨ln,p,⟨m,tg,hm,hf,hl⟩,le,none,false,out⟩).1)))]:=by
 exact absurd hneed.1 (fun h=>by unfold uy at h;cases h)
theorem zoc (ln:Ln) (p:Int) (m tg:Str) (hm:Int) (hf:List Fld) (hl le:Int) (ch:Ch) (out:List Evt) (hneed:uy ⟨ln,p,⟨m,tg,hm,hf,hl⟩,le,some ch,true,out⟩∧rqFs ⟨ln,p,⟨m,tg,hm,hf,hl⟩,le,some ch,true,out⟩):Spc Tryz.prog 172 [.v (.one (.ptr 0 0))] [.abs (.rq ⟨ln,p,⟨m,tg,hm,hf,hl⟩,le,some ch,true,out⟩)] (.ret (.v (.one (.p (.int .i64 ((yR ⟨ln,p,⟨m,tg,hm,hf,hl⟩,le,some ch,true,out⟩).2)))))) [.abs (.rq (((yR ⟨ln,p,⟨m,tg,hm,hf,hl⟩,le,some ch,true,out⟩).1)))]:=by
 obtain⟨-,hfs,hfw⟩:=hneed;simp only at hfs hfw;obtain⟨hf1,hf2⟩:=hfs;generalize hr:yR ⟨ln,p,⟨m,tg,hm,hf,hl⟩,le,some ch,true,out⟩=r;obtain⟨rq,rc⟩:=r
 have hhl:Rf.length≤1000000:=by decide
 refine spcG zh mixed Tryz.func172 (by kernel_rfl) { cfgQ with fz:=[117],keep:=some [0,2,4,5]} [YG,YF,zlx,zlw,zY,zX,yj,yh,yF,yE,yN,yM,wO,wM,Y4,Y3,zjX,zjW] (by kernel_rfl) ?_
 intro I X hI hX
 refine orcL ?_;go_invoke;refine orcS (by kernel_rfl) ?_
 simp only [zq,Nat.reduceAdd];subst hI;unfold yR zuP at hr;simp only at hr;rw [show([104,111,115,116]:Str)=Rf from rfl];simp only [nrmA,nrmB,nrlB,reduceCtorEq,HO.abs.injEq,Gh.rq.injEq,Rq.mk.injEq];have hln:=zie hm hf;generalize oneF (valsF hf Rf)=oc at *;obtain⟨ov,oc⟩:=oc;simp only at hr ⊢;generalize lenM hm hf=z at *;obtain⟨zn,zc⟩:=z;simp only at hr hln ⊢
 by_cases q1:(decide (oc=9)||decide (oc=10)&&decide (hm=1))=true
 · rw [if_pos q1] at hr
   simp only [Prod.mk.injEq] at hr;obtain⟨rfl,rfl⟩:=hr;simp only [Bool.or_eq_true,jK,decide_eq_true_eq] at q1
   (repeat' (first|refine ja ?_ ?_|intro _))<;>first|omega|exact jb|exact jc ‹False›|skip
   all_goals first|omega|rfl|exact hf1|exact⟨hf1,hf2⟩|(exact(hf2 _ ‹_›).1)|(exact(hf2 _ ‹_›).2)|(unfold zG;simp only;omega)|trace_state
 rw [if_neg q1] at hr;simp only [Bool.or_eq_true,jK,decide_eq_true_eq] at q1
 by_cases q2:zc=0
 · rw [if_neg (fun h=>h q2)] at hr
   by_cases q3:zn=0
   · rw [if_pos q3] at hr
     simp only [Prod.mk.injEq] at hr;obtain⟨rfl,rfl⟩:=hr;subst q3
     (repeat' (first|refine ja ?_ ?_|intro _))<;>first|omega|exact jb|exact jc ‹False›|skip
     all_goals first|omega|rfl|exact hf1|exact⟨hf1,hf2⟩|(exact(hf2 _ ‹_›).1)|(exact(hf2 _ ‹_›).2)|(unfold zG;simp;omega)|trace_state
   rw [if_neg q3] at hr
   by_cases q4:0<zn
   · rw [if_pos q4] at hr
     simp only [Prod.mk.injEq] at hr;obtain⟨rfl,rfl⟩:=hr
     (repeat' (first|refine ja ?_ ?_|intro _))<;>first|omega|exact jb|exact jc ‹False›|skip
     all_goals first|omega|rfl|exact hf1|exact⟨hf1,hf2⟩|(exact(hf2 _ ‹_›).1)|(exact(hf2 _ ‹_›).2)|(unfold zG;simp;omega)|trace_state
   · rw [if_neg q4] at hr
     simp only [Prod.mk.injEq] at hr;obtain⟨rfl,rfl⟩:=hr
     (repeat' (first|refine ja ?_ ?_|intro _))<;>first|omega|exact jb|exact jc ‹False›|skip
     all_goals first|omega|rfl|exact hf1|exact⟨hf1,hf2⟩|(exact(hf2 _ ‹_›).1)|(exact(hf2 _ ‹_›).2)|(unfold zG;simp;omega)|trace_state
 · rw [if_pos q2] at hr
   simp only [Prod.mk.injEq] at hr;obtain⟨rfl,rfl⟩:=hr
   (repeat' (first|refine ja ?_ ?_|intro _))<;>first|omega|exact jb|exact jc ‹False›|skip
   all_goals first|omega|rfl|exact hf1|exact⟨hf1,hf2⟩|(exact(hf2 _ ‹_›).1)|(exact(hf2 _ ‹_›).2)|(unfold zG;simp only;omega)|trace_state
theorem zod (ln:Ln) (p:Int) (m tg:Str) (hm:Int) (hf:List Fld) (hl le:Int) (ch:Ch) (out:List Evt) (hneed:uy ⟨ln,p,⟨m,tg,hm,hf,hl⟩,le,some ch,false,out⟩∧rqFs ⟨ln,p,⟨m,tg,hm,hf,hl⟩,le,some ch,false,out⟩):Spc Tryz.prog 172 [.v (.one (.ptr 0 0))] [.abs (.rq ⟨ln,p,⟨m,tg,hm,hf,hl⟩,le,some ch,false,out⟩)] (.ret (.v (.one (.p (.int .i64 ((yR ⟨ln,p,⟨m,tg,hm,hf,hl⟩,le,some ch,false,out⟩).2)))))) [.abs (.rq (((yR ⟨ln,p,⟨m,tg,hm,hf,hl⟩,le,some ch,false,out⟩).1)))]:=by
 exact absurd hneed.1 (fun h=>by unfold uy at h;cases h)
def Vb (I:Alg) (args:List D) (hp:List HO):Option CT:=match args,hp with
 |[.v (.one (.ptr 0 0))],[.abs (.rq q)]=>(fun(q:Rq)=>(some (.one ⟨I.hid (uy q∧rqFs q),(.ret (.v (.one (.p (.int .i64 (I.hid ((yR q).2))))))),[.abs (.rq (I.hid (((yR q).1))))]⟩):Option CT)) q
 |_,_=>none
theorem zfF:zx Tryz.prog 172 (Vb alg):=by
 intro args hp r h;unfold Vb at h;split at h<;>cases h
 rename_i q;simp only [CT.Good,zi];intro hneed;obtain⟨ln,p,⟨m,tg,hm,hf,hl⟩,le,ck,own,out⟩:=q
 cases ck with
 | none=>cases own with
   |true=>exact zoe ln p m tg hm hf hl le out hneed
   |false=>exact zof ln p m tg hm hf hl le out hneed
 | some ch=>cases own with
   |true=>exact zoc ln p m tg hm hf hl le ch out hneed
   |false=>exact zod ln p m tg hm hf hl le ch out hneed
def zfE:Know Tryz.prog:=⟨172,Vb,zfF⟩
def zfD:Know Tryz.prog:=⟨172,fun I=>zy I (Vb I),zf zfF⟩
theorem zn1 (ln:Ln) (p:Int) (m tg:Str) (hm:Int) (hf:List Fld) (hl le:Int) (out:List Evt) (s:Str) (hneed:uy ⟨ln,p,⟨m,tg,hm,hf,hl⟩,le,none,true,out⟩∧rqFs ⟨ln,p,⟨m,tg,hm,hf,hl⟩,le,none,true,out⟩∧s.length≤1000000):Spc Tryz.prog 122 [.v (.one (.ptr 0 0)),.v (.one (.p (.str s)))] [.abs (.rq ⟨ln,p,⟨m,tg,hm,hf,hl⟩,le,none,true,out⟩)] (.ret (.v (.one (.p (.int .i64 ((zW ⟨ln,p,⟨m,tg,hm,hf,hl⟩,le,none,true,out⟩ s).2)))))) [.abs (.rq (((zW ⟨ln,p,⟨m,tg,hm,hf,hl⟩,le,none,true,out⟩ s).1)))]:=by
 obtain⟨-,hfs,hs⟩:=hneed;have hfs0:=hfs;obtain⟨hfs,hfw⟩:=hfs;simp only at hfs hfw;obtain⟨hf1,hf2⟩:=hfs;generalize hr:zW ⟨ln,p,⟨m,tg,hm,hf,hl⟩,le,none,true,out⟩ s=r;obtain⟨rq,rc⟩:=r
 refine spcG zh mixed Tryz.func122 (by kernel_rfl) { cfgQ with seam:=[],keep:=some [0,1,4,5,6]} [Vo,Vm,zj2,zj1,zfE,zfD] (by kernel_rfl) ?_
 intro I X hI hX
 refine orcL ?_;go_invoke;refine orcS (by kernel_rfl) ?_
 simp only [zq,Nat.reduceAdd];subst hI;unfold zW at hr;simp only at hr;simp only [nrmA,nrmB,nrlB,reduceCtorEq,HO.abs.injEq,Gh.rq.injEq,Rq.mk.injEq];have hdn:(yR ⟨ln,p,⟨m,tg,hm,hf,hl⟩,le,none,true,out⟩)=yR ⟨ln,p,⟨m,tg,hm,hf,hl⟩,le,none,true,out⟩:=rfl
 by_cases q1:p=0
 · rw [if_pos q1] at hr
   by_cases q2:s=[]
   · rw [if_pos q2] at hr
     simp only [Prod.mk.injEq] at hr;obtain⟨rfl,rfl⟩:=hr
     (repeat' (first|refine ja ?_ ?_|intro _))<;>first|omega|exact jb|exact jc ‹False›|skip
     all_goals first|omega|rfl|(exfalso;exact ‹¬ s=[]› q2)|trace_state
   rw [if_neg q2] at hr
   have hbg:(rG ⟨ln,p,⟨m,tg,hm,hf,hl⟩,le,none,true,out⟩ s,(begM s).1)=(rq,rc):=by
    rw [← hr];unfold rG
    by_cases c0:(begM s).1=0
    · rw [if_pos c0,if_pos c0,c0]
    · rw [if_neg c0,if_neg c0]
      by_cases c1:(begM s).1=11
      · rw [if_pos c1,if_pos c1,c1]
      · rw [if_neg c1,if_neg c1]
   simp only [Prod.mk.injEq] at hbg
   (repeat' (first|refine ja ?_ ?_|intro _))<;>first|omega|exact jb|exact jc ‹False›|skip
   all_goals first|omega|exact hbg.1|exact hbg.2|exact⟨rfl,hs⟩|rfl|(exfalso;exact q2 ‹s=[]›)|(simp only [uy];done)|exact hs|trace_state
 · rw [if_neg q1] at hr
   by_cases q2:s=[]
   · rw [if_pos q2] at hr
     (repeat' (first|refine ja ?_ ?_|intro _))<;>first|omega|exact jb|exact jc ‹False›|skip
     all_goals first|omega|(rw [hr];done)|(rw [hr])|rfl|exact hfs0|exact hf1|(exact(hf2 _ ‹_›).1)|(exact(hf2 _ ‹_›).2)|(exfalso;exact ‹¬ s=[]› q2)|trace_state
   rw [if_neg q2] at hr
   by_cases q3:hf.length=16
   · rw [if_pos q3] at hr
     simp only [Prod.mk.injEq] at hr;obtain⟨rfl,rfl⟩:=hr
     (repeat' (first|refine ja ?_ ?_|intro _))<;>first|omega|exact jb|exact jc ‹False›|skip
     all_goals first|omega|rfl|(exfalso;exact q2 ‹s=[]›)|trace_state
   · rw [if_neg q3] at hr
     simp only [Prod.mk.injEq] at hr;obtain⟨rfl,rfl⟩:=hr
     (repeat' (first|refine ja ?_ ?_|intro _))<;>first|omega|exact jb|exact jc ‹False›|skip
     all_goals first|omega|rfl|exact hs|(simp only [jh,ji];omega)|(exfalso;exact q2 ‹s=[]›)|trace_state
theorem zn2 (ln:Ln) (p:Int) (m tg:Str) (hm:Int) (hf:List Fld) (hl le:Int) (out:List Evt) (s:Str) (hneed:uy ⟨ln,p,⟨m,tg,hm,hf,hl⟩,le,none,false,out⟩∧rqFs ⟨ln,p,⟨m,tg,hm,hf,hl⟩,le,none,false,out⟩∧s.length≤1000000):Spc Tryz.prog 122 [.v (.one (.ptr 0 0)),.v (.one (.p (.str s)))] [.abs (.rq ⟨ln,p,⟨m,tg,hm,hf,hl⟩,le,none,false,out⟩)] (.ret (.v (.one (.p (.int .i64 ((zW ⟨ln,p,⟨m,tg,hm,hf,hl⟩,le,none,false,out⟩ s).2)))))) [.abs (.rq (((zW ⟨ln,p,⟨m,tg,hm,hf,hl⟩,le,none,false,out⟩ s).1)))]:=by
 exact absurd hneed.1 (fun h=>by unfold uy at h;cases h)
theorem znZ (ln:Ln) (p:Int) (m tg:Str) (hm:Int) (hf:List Fld) (hl le:Int) (ch:Ch) (out:List Evt) (s:Str) (hneed:uy ⟨ln,p,⟨m,tg,hm,hf,hl⟩,le,some ch,true,out⟩∧rqFs ⟨ln,p,⟨m,tg,hm,hf,hl⟩,le,some ch,true,out⟩∧s.length≤1000000):Spc Tryz.prog 122 [.v (.one (.ptr 0 0)),.v (.one (.p (.str s)))] [.abs (.rq ⟨ln,p,⟨m,tg,hm,hf,hl⟩,le,some ch,true,out⟩)] (.ret (.v (.one (.p (.int .i64 ((zW ⟨ln,p,⟨m,tg,hm,hf,hl⟩,le,some ch,true,out⟩ s).2)))))) [.abs (.rq (((zW ⟨ln,p,⟨m,tg,hm,hf,hl⟩,le,some ch,true,out⟩ s).1)))]:=by
 obtain⟨-,hfs,hs⟩:=hneed;have hfs0:=hfs;obtain⟨hfs,hfw⟩:=hfs;simp only at hfs hfw;obtain⟨hf1,hf2⟩:=hfs;generalize hr:zW ⟨ln,p,⟨m,tg,hm,hf,hl⟩,le,some ch,true,out⟩ s=r;obtain⟨rq,rc⟩:=r
 refine spcG zh mixed Tryz.func122 (by kernel_rfl) { cfgQ with seam:=[],keep:=some [0,1,4,5,6]} [Vo,Vm,zj2,zj1,zfE,zfD] (by kernel_rfl) ?_
 intro I X hI hX
 refine orcL ?_;go_invoke;refine orcS (by kernel_rfl) ?_
 simp only [zq,Nat.reduceAdd];subst hI;unfold zW at hr;simp only at hr;simp only [nrmA,nrmB,nrlB,reduceCtorEq,HO.abs.injEq,Gh.rq.injEq,Rq.mk.injEq];have hdn:(yR ⟨ln,p,⟨m,tg,hm,hf,hl⟩,le,some ch,true,out⟩)=yR ⟨ln,p,⟨m,tg,hm,hf,hl⟩,le,some ch,true,out⟩:=rfl
 by_cases q1:p=0
 · rw [if_pos q1] at hr
   by_cases q2:s=[]
   · rw [if_pos q2] at hr
     simp only [Prod.mk.injEq] at hr;obtain⟨rfl,rfl⟩:=hr
     (repeat' (first|refine ja ?_ ?_|intro _))<;>first|omega|exact jb|exact jc ‹False›|skip
     all_goals first|omega|rfl|(exfalso;exact ‹¬ s=[]› q2)|trace_state
   rw [if_neg q2] at hr
   have hbg:(rG ⟨ln,p,⟨m,tg,hm,hf,hl⟩,le,some ch,true,out⟩ s,(begM s).1)=(rq,rc):=by
    rw [← hr];unfold rG
    by_cases c0:(begM s).1=0
    · rw [if_pos c0,if_pos c0,c0]
    · rw [if_neg c0,if_neg c0]
      by_cases c1:(begM s).1=11
      · rw [if_pos c1,if_pos c1,c1]
      · rw [if_neg c1,if_neg c1]
   simp only [Prod.mk.injEq] at hbg
   (repeat' (first|refine ja ?_ ?_|intro _))<;>first|omega|exact jb|exact jc ‹False›|skip
   all_goals first|omega|exact hbg.1|exact hbg.2|exact⟨rfl,hs⟩|rfl|(exfalso;exact q2 ‹s=[]›)|(simp only [uy];done)|exact hs|trace_state
 · rw [if_neg q1] at hr
   by_cases q2:s=[]
   · rw [if_pos q2] at hr
     (repeat' (first|refine ja ?_ ?_|intro _))<;>first|omega|exact jb|exact jc ‹False›|skip
     all_goals first|omega|(rw [hr];done)|(rw [hr])|rfl|exact hfs0|exact hf1|(exact(hf2 _ ‹_›).1)|(exact(hf2 _ ‹_›).2)|(exfalso;exact ‹¬ s=[]› q2)|trace_state
   rw [if_neg q2] at hr
   by_cases q3:hf.length=16
   · rw [if_pos q3] at hr
     simp only [Prod.mk.injEq] at hr;obtain⟨rfl,rfl⟩:=hr
     (repeat' (first|refine ja ?_ ?_|intro _))<;>first|omega|exact jb|exact jc ‹False›|skip
     all_goals first|omega|rfl|(exfalso;exact q2 ‹s=[]›)|trace_state
   · rw [if_neg q3] at hr
     simp only [Prod.mk.injEq] at hr;obtain⟨rfl,rfl⟩:=hr
     (repeat' (first|refine ja ?_ ?_|intro _))<;>first|omega|exact jb|exact jc ‹False›|skip
     all_goals first|omega|rfl|exact hs|(simp only [jh,ji];omega)|(exfalso;exact q2 ‹s=[]›)|trace_state
theorem zn0 (ln:Ln) (p:Int) (m tg:Str) (hm:Int) (hf:List Fld) (hl le:Int) (ch:Ch) (out:List Evt) (s:Str) (hneed:uy ⟨ln,p,⟨m,tg,hm,hf,hl⟩,le,some ch,false,out⟩∧rqFs ⟨ln,p,⟨m,tg,hm,hf,hl⟩,le,some ch,false,out⟩∧s.length≤1000000):Spc Tryz.prog 122 [.v (.one (.ptr 0 0)),.v (.one (.p (.str s)))] [.abs (.rq ⟨ln,p,⟨m,tg,hm,hf,hl⟩,le,some ch,false,out⟩)] (.ret (.v (.one (.p (.int .i64 ((zW ⟨ln,p,⟨m,tg,hm,hf,hl⟩,le,some ch,false,out⟩ s).2)))))) [.abs (.rq (((zW ⟨ln,p,⟨m,tg,hm,hf,hl⟩,le,some ch,false,out⟩ s).1)))]:=by
 exact absurd hneed.1 (fun h=>by unfold uy at h;cases h)
def WW (I:Alg) (args:List D) (hp:List HO):Option CT:=match args,hp with
 |[.v (.one (.ptr 0 0)),.v (.one (.p (.str s)))],[.abs (.rq q)]=>(fun(q:Rq) (s:Str)=>(some (.one ⟨I.hid (uy q∧rqFs q∧s.length≤1000000),(.ret (.v (.one (.p (.int .i64 (I.hid ((zW q s).2))))))),[.abs (.rq (I.hid (((zW q s).1))))]⟩):Option CT)) q s
 |_,_=>none
theorem zfz:zx Tryz.prog 122 (WW alg):=by
 intro args hp r h;unfold WW at h;split at h<;>cases h
 rename_i s q;simp only [CT.Good,zi];intro hneed;obtain⟨ln,p,⟨m,tg,hm,hf,hl⟩,le,ck,own,out⟩:=q
 cases ck with
 | none=>cases own with
   |true=>exact zn1 ln p m tg hm hf hl le out s hneed
   |false=>exact zn2 ln p m tg hm hf hl le out s hneed
 | some ch=>cases own with
   |true=>exact znZ ln p m tg hm hf hl le ch out s hneed
   |false=>exact zn0 ln p m tg hm hf hl le ch out s hneed
def WV:Know Tryz.prog:=⟨122,WW,zfz⟩
def WU:Know Tryz.prog:=⟨122,fun I=>zy I (WW I),zf zfz⟩
theorem zwU (k:Int) (hneed:False):Spc Tryz.prog 119 [.v (.one (.p (.val (.pointer none)))),.v (.one (.p (.int .u8 k)))] [] (.ret (.tup [(.one (.p (.list .byte ([])))),(.one (.p (.bool false))),(.one (.p (.int .i64 0)))])) []:=hneed.elim
def zaa (I:Alg) (args:List D) (hp:List HO):Option CT:=match args,hp with
 |[.v (.one (.p (.val (.pointer none)))),.v (.one (.p (.int .u8 k)))],[]=>(fun(k:Int)=>(some (.one ⟨I.hid (False),(.ret (.tup [(.one (.p (.list .byte (I.hid ([]))))),(.one (.p (.bool false))),(.one (.p (.int .i64 0)))])),[]⟩):Option CT)) k
 |_,_=>none
theorem zlv:zx Tryz.prog 119 (zaa alg):=by
 intro args hp r h;unfold zaa at h
 split at h
 · cases h;exact fun hn=>zwU _ hn
 · cases h
def Q9:Know Tryz.prog:=⟨119,zaa,zlv⟩
def Q8:Know Tryz.prog:=⟨119,fun I=>zy I (zaa I),zf zlv⟩
def rqN (q:Rq):Prop:=∃ i:Nat,i≤1000000∧RqI q i
theorem zco (q:Rq) (s:Str):(zW q s).1.out.length≤q.out.length+2:=by
 unfold zW yR qj
 repeat' split
 all_goals(simp only [jk,jh,ji];omega)
theorem zom (ln:Ln) (p:Int) (m tg:Str) (hm:Int) (hf:List Fld) (hl le:Int) (out:List Evt) (k:Int) (hneed:rqN ⟨ln,p,⟨m,tg,hm,hf,hl⟩,le,none,true,out⟩∧0≤k∧k≤255):Spc Tryz.prog 80 [.v (.one (.ptr 0 0)),.v (.one (.p (.int .u8 k)))] [.abs (.rq ⟨ln,p,⟨m,tg,hm,hf,hl⟩,le,none,true,out⟩)] (.ret (.tup [])) [.abs (.rq ((rqF ⟨ln,p,⟨m,tg,hm,hf,hl⟩,le,none,true,out⟩ (UInt8.ofNat k.toNat))))]:=by
 obtain⟨⟨i,hi,hI0⟩,hk0,hk1⟩:=hneed;obtain⟨g1,g2,g3,g4,g5,g6,g7,g8,g9,g10⟩:=hI0;simp only at g1 g2 g3 g4 g5 g6 g7 g8 g9 g10
 have hfs:FsOk hf:=⟨by omega,fun f hm=>by have:=g6 f hm;omega⟩
 have hll:=Yt ln (UInt8.ofNat k.toNat);generalize hr:rqF ⟨ln,p,⟨m,tg,hm,hf,hl⟩,le,none,true,out⟩ (UInt8.ofNat k.toNat)=r
 refine spcG zh mixed Tryz.func80 (by kernel_rfl) { cfgQ with fz:=[117],keep:=some [0,1,4,5,6,7,8,9,13,62]} [rP,rO,Ux,Uw,Q9,Q8,zY,zX,yj,yh,yF,yE,yN,yM,wO,wM,W9,WZ,Y4,Y3,WV,WU] (by kernel_rfl) ?_
 intro I X hI hX
 refine orcL ?_;go_invoke;refine orcS (by kernel_rfl) ?_
 simp only [zq,Nat.reduceAdd];subst hI;unfold rqF at hr;simp only at hr;simp only [nrmA,nrmB,nrlB,reduceCtorEq,HO.abs.injEq,Gh.rq.injEq,Rq.mk.injEq];generalize UInt8.ofNat k.toNat=c at *;have hz2:lnF ⟨ln.b,ln.cr,ln.code⟩ c=lnF ln c:=rfl;simp only [hz2];clear hz2 g2
 by_cases q1:p=2
 · rw [if_pos q1] at hr
   have h9:=g9 q1
   by_cases q2:le - 1=0
   · rw [if_pos q2] at hr
     subst hr
     have q3:le=1:=by omega
     subst q3
     (repeat' (first|refine ja ?_ ?_|intro _))<;>first|omega|exact jb|exact jc ‹False›|skip
     all_goals first|omega|rfl|(unfold zG;simp;omega)|(unfold zG;simp only;omega)|trace_state
   · rw [if_neg q2] at hr
     subst hr
     (repeat' (first|refine ja ?_ ?_|intro _))<;>first|omega|exact jb|exact jc ‹False›|skip
     all_goals first|omega|rfl|(unfold zG;simp;omega)|(unfold zG;simp only;omega)|trace_state
 rw [if_neg q1] at hr
 by_cases q4:p=3
 · exact absurd rfl (g3 q4)
 rw [if_neg q4] at hr
 by_cases q8:p=0∨p=1
 · rw [if_pos q8] at hr
   have hl: ∀ (l:Ln) (s:Str),zW ⟨⟨l.b,l.cr,l.code⟩,p,⟨m,tg,hm,hf,hl⟩,le,none,true,out⟩ s=zW ⟨l,p,⟨m,tg,hm,hf,hl⟩,le,none,true,out⟩ s:=fun l s=>rfl;simp only [hl];clear hl;generalize lnF ln c=z at *;obtain⟨l2,s,is,e⟩:=z;simp only at hr hll ⊢;have hlo:(zW ⟨l2,p,⟨m,tg,hm,hf,hl⟩,le,none,true,out⟩ s).1.out.length≤out.length+2:=zco _ _;generalize zW ⟨l2,p,⟨m,tg,hm,hf,hl⟩,le,none,true,out⟩ s=y at *;obtain⟨y,ye⟩:=y;simp only at hr hlo ⊢
   by_cases q5:e=0
   · rw [if_neg (fun h=>h q5)] at hr
     cases is with
     | true=>
       rw [if_pos rfl] at hr
       by_cases q6:ye=0
       · rw [if_neg (fun h=>h q6)] at hr
         subst hr
         (repeat' (first|refine ja ?_ ?_|intro _))<;>first|omega|exact jb|exact jc ‹False›|skip
         all_goals first|omega|rfl|contradiction|exact⟨rfl,⟨hfs,by simp only;omega⟩,by omega⟩|(simp only [uy];done)|exact hfs.1|(exact(hfs.2 _ ‹_›).1)|(exact(hfs.2 _ ‹_›).2)|(unfold zG;omega)|(simp only;omega)|trace_state
       · rw [if_pos q6] at hr
         subst hr
         (repeat' (first|refine ja ?_ ?_|intro _))<;>first|omega|exact jb|exact jc ‹False›|skip
         all_goals first|omega|rfl|contradiction|exact⟨rfl,⟨hfs,by simp only;omega⟩,by omega⟩|(simp only [uy];done)|exact hfs.1|(exact(hfs.2 _ ‹_›).1)|(exact(hfs.2 _ ‹_›).2)|(unfold zG;omega)|(simp only;omega)|trace_state
     | false=>
       rw [if_neg Bool.false_ne_true] at hr;subst hr
       (repeat' (first|refine ja ?_ ?_|intro _))<;>first|omega|exact jb|exact jc ‹False›|skip
       all_goals first|omega|rfl|contradiction|trace_state
   · rw [if_pos q5] at hr
     subst hr
     (repeat' (first|refine ja ?_ ?_|intro _))<;>first|omega|exact jb|exact jc ‹False›|skip
     all_goals first|omega|rfl|contradiction|(unfold zG;simp only;omega)|trace_state
 rw [if_neg q8] at hr;subst hr
 (repeat' (first|refine ja ?_ ?_|intro _))<;>first|omega|exact jb|exact jc ‹False›|skip
 all_goals first|omega|rfl|contradiction|trace_state
theorem zon (ln:Ln) (p:Int) (m tg:Str) (hm:Int) (hf:List Fld) (hl le:Int) (out:List Evt) (k:Int) (hneed:rqN ⟨ln,p,⟨m,tg,hm,hf,hl⟩,le,none,false,out⟩∧0≤k∧k≤255):Spc Tryz.prog 80 [.v (.one (.ptr 0 0)),.v (.one (.p (.int .u8 k)))] [.abs (.rq ⟨ln,p,⟨m,tg,hm,hf,hl⟩,le,none,false,out⟩)] (.ret (.tup [])) [.abs (.rq ((rqF ⟨ln,p,⟨m,tg,hm,hf,hl⟩,le,none,false,out⟩ (UInt8.ofNat k.toNat))))]:=by
 obtain⟨⟨i,hi,hI0⟩,hk0,hk1⟩:=hneed;obtain⟨g1,g2,g3,g4,g5,g6,g7,g8,g9,g10⟩:=hI0;simp only at g1 g2 g3 g4 g5 g6 g7 g8 g9 g10
 have hfs:FsOk hf:=⟨by omega,fun f hm=>by have:=g6 f hm;omega⟩
 have hll:=Yt ln (UInt8.ofNat k.toNat);generalize hr:rqF ⟨ln,p,⟨m,tg,hm,hf,hl⟩,le,none,false,out⟩ (UInt8.ofNat k.toNat)=r
 refine spcG zh mixed Tryz.func80 (by kernel_rfl) { cfgQ with fz:=[117],keep:=some [0,1,4,5,6,7,8,9,13,62]} [rP,rO,Ux,Uw,Q9,Q8,zY,zX,yj,yh,yF,yE,yN,yM,wO,wM,W9,WZ,Y4,Y3,WV,WU] (by kernel_rfl) ?_
 intro I X hI hX
 refine orcL ?_;go_invoke;refine orcS (by kernel_rfl) ?_
 simp only [zq,Nat.reduceAdd];subst hI;unfold rqF at hr;simp only at hr;simp only [nrmA,nrmB,nrlB,reduceCtorEq,HO.abs.injEq,Gh.rq.injEq,Rq.mk.injEq];generalize UInt8.ofNat k.toNat=c at *;have hz2:lnF ⟨ln.b,ln.cr,ln.code⟩ c=lnF ln c:=rfl;simp only [hz2];clear hz2 g2
 by_cases q1:p=2
 · rw [if_pos q1] at hr
   have h9:=g9 q1
   by_cases q2:le - 1=0
   · rw [if_pos q2] at hr
     subst hr
     have q3:le=1:=by omega
     subst q3
     (repeat' (first|refine ja ?_ ?_|intro _))<;>first|omega|exact jb|exact jc ‹False›|skip
     all_goals first|omega|rfl|(unfold zG;simp;omega)|(unfold zG;simp only;omega)|trace_state
   · rw [if_neg q2] at hr
     subst hr
     (repeat' (first|refine ja ?_ ?_|intro _))<;>first|omega|exact jb|exact jc ‹False›|skip
     all_goals first|omega|rfl|(unfold zG;simp;omega)|(unfold zG;simp only;omega)|trace_state
 rw [if_neg q1] at hr
 by_cases q4:p=3
 · exact absurd rfl (g3 q4)
 rw [if_neg q4] at hr
 by_cases q8:p=0∨p=1
 · exact absurd (g4 q8) (by simp)
 rw [if_neg q8] at hr;subst hr
 (repeat' (first|refine ja ?_ ?_|intro _))<;>first|omega|exact jb|exact jc ‹False›|skip
 all_goals first|omega|rfl|contradiction|trace_state
theorem zok (ln:Ln) (p:Int) (m tg:Str) (hm:Int) (hf:List Fld) (hl le:Int) (ch:Ch) (out:List Evt) (k:Int) (hneed:rqN ⟨ln,p,⟨m,tg,hm,hf,hl⟩,le,some ch,true,out⟩∧0≤k∧k≤255):Spc Tryz.prog 80 [.v (.one (.ptr 0 0)),.v (.one (.p (.int .u8 k)))] [.abs (.rq ⟨ln,p,⟨m,tg,hm,hf,hl⟩,le,some ch,true,out⟩)] (.ret (.tup [])) [.abs (.rq ((rqF ⟨ln,p,⟨m,tg,hm,hf,hl⟩,le,some ch,true,out⟩ (UInt8.ofNat k.toNat))))]:=by
 obtain⟨⟨i,hi,hI0⟩,hk0,hk1⟩:=hneed;obtain⟨g1,g2,g3,g4,g5,g6,g7,g8,g9,g10⟩:=hI0;simp only at g1 g2 g3 g4 g5 g6 g7 g8 g9 g10
 have hfs:FsOk hf:=⟨by omega,fun f hm=>by have:=g6 f hm;omega⟩
 have hll:=Yt ln (UInt8.ofNat k.toNat);generalize hr:rqF ⟨ln,p,⟨m,tg,hm,hf,hl⟩,le,some ch,true,out⟩ (UInt8.ofNat k.toNat)=r
 refine spcG zh mixed Tryz.func80 (by kernel_rfl) { cfgQ with fz:=[117],keep:=some [0,1,4,5,6,7,8,9,13,62]} [rP,rO,Ux,Uw,Q9,Q8,zY,zX,yj,yh,yF,yE,yN,yM,wO,wM,W9,WZ,Y4,Y3,WV,WU] (by kernel_rfl) ?_
 intro I X hI hX
 refine orcL ?_;go_invoke;refine orcS (by kernel_rfl) ?_
 simp only [zq,Nat.reduceAdd];subst hI;unfold rqF at hr;simp only at hr;simp only [nrmA,nrmB,nrlB,reduceCtorEq,HO.abs.injEq,Gh.rq.injEq,Rq.mk.injEq];generalize UInt8.ofNat k.toNat=c at *;have hni:=zlA (g2 ch rfl) hi;have hz:chF ⟨⟨ch.ln.b,ch.ln.cr,ch.ln.code⟩,ch.pos,ch.left,ch.all,ch.tails,ch.code⟩ c=chF ch c:=rfl;have hck:ckOf ⟨ln,p,⟨m,tg,hm,hf,hl⟩,le,some ch,true,out⟩=ch:=rfl;simp only [hz];rw [hck] at hr;clear hz hck;have hz2:lnF ⟨ln.b,ln.cr,ln.code⟩ c=lnF ln c:=rfl;simp only [hz2];clear hz2 g2
 by_cases q1:p=2
 · rw [if_pos q1] at hr
   have h9:=g9 q1
   by_cases q2:le - 1=0
   · rw [if_pos q2] at hr
     subst hr
     have q3:le=1:=by omega
     subst q3
     (repeat' (first|refine ja ?_ ?_|intro _))<;>first|omega|exact jb|exact jc ‹False›|skip
     all_goals first|omega|rfl|(unfold zG;simp;omega)|(unfold zG;simp only;omega)|trace_state
   · rw [if_neg q2] at hr
     subst hr
     (repeat' (first|refine ja ?_ ?_|intro _))<;>first|omega|exact jb|exact jc ‹False›|skip
     all_goals first|omega|rfl|(unfold zG;simp;omega)|(unfold zG;simp only;omega)|trace_state
 rw [if_neg q1] at hr
 by_cases q4:p=3
 · rw [if_pos q4] at hr
   generalize chF ch c=z at *;obtain⟨⟨⟨zb,zc,zo⟩,z1,z2,z3,z4,z5⟩,d,ov,e⟩:=z;simp only at hr ⊢;have hd0:d.length=0↔d=[]:=List.length_eq_zero_iff
   by_cases q5:e=0
   · rw [if_neg (fun h=>h q5)] at hr
     cases ov with
     | true=>
       rw [if_pos rfl] at hr
       by_cases q6:d=[]
       · rw [if_neg (fun h=>h q6)] at hr
         have q7:=hd0.2 q6;subst hr
         (repeat' (first|refine ja ?_ ?_|intro _))<;>first|omega|exact jb|exact jc ‹False›|skip
         all_goals first|omega|rfl|(unfold zG;simp;omega)|(unfold zG;simp only;omega)|contradiction|exact⟨⟨hk0,hk1⟩,hni⟩|trace_state
       · rw [if_pos q6] at hr
         have q7: ¬ d.length=0:=fun h=>q6 (hd0.1 h);subst hr
         (repeat' (first|refine ja ?_ ?_|intro _))<;>first|omega|exact jb|exact jc ‹False›|skip
         all_goals first|omega|rfl|(unfold zG;simp;omega)|(unfold zG;simp only;omega)|contradiction|exact⟨⟨hk0,hk1⟩,hni⟩|trace_state
     | false=>
       rw [if_neg Bool.false_ne_true] at hr
       by_cases q6:d=[]
       · rw [if_neg (fun h=>h q6)] at hr
         have q7:=hd0.2 q6;subst hr
         (repeat' (first|refine ja ?_ ?_|intro _))<;>first|omega|exact jb|exact jc ‹False›|skip
         all_goals first|omega|rfl|(unfold zG;simp;omega)|(unfold zG;simp only;omega)|contradiction|exact⟨⟨hk0,hk1⟩,hni⟩|trace_state
       · rw [if_pos q6] at hr
         have q7: ¬ d.length=0:=fun h=>q6 (hd0.1 h);subst hr
         (repeat' (first|refine ja ?_ ?_|intro _))<;>first|omega|exact jb|exact jc ‹False›|skip
         all_goals first|omega|rfl|(unfold zG;simp;omega)|(unfold zG;simp only;omega)|contradiction|exact⟨⟨hk0,hk1⟩,hni⟩|trace_state
   · rw [if_pos q5] at hr
     subst hr
     (repeat' (first|refine ja ?_ ?_|intro _))<;>first|omega|exact jb|exact jc ‹False›|skip
     all_goals first|omega|rfl|(unfold zG;simp;omega)|(unfold zG;simp only;omega)|contradiction|exact⟨⟨hk0,hk1⟩,hni⟩|trace_state
 rw [if_neg q4] at hr
 by_cases q8:p=0∨p=1
 · rw [if_pos q8] at hr
   have hl: ∀ (l:Ln) (s:Str),zW ⟨⟨l.b,l.cr,l.code⟩,p,⟨m,tg,hm,hf,hl⟩,le,some ch,true,out⟩ s=zW ⟨l,p,⟨m,tg,hm,hf,hl⟩,le,some ch,true,out⟩ s:=fun l s=>rfl;simp only [hl];clear hl;generalize lnF ln c=z at *;obtain⟨l2,s,is,e⟩:=z;simp only at hr hll ⊢;have hlo:(zW ⟨l2,p,⟨m,tg,hm,hf,hl⟩,le,some ch,true,out⟩ s).1.out.length≤out.length+2:=zco _ _;generalize zW ⟨l2,p,⟨m,tg,hm,hf,hl⟩,le,some ch,true,out⟩ s=y at *;obtain⟨y,ye⟩:=y;simp only at hr hlo ⊢
   by_cases q5:e=0
   · rw [if_neg (fun h=>h q5)] at hr
     cases is with
     | true=>
       rw [if_pos rfl] at hr
       by_cases q6:ye=0
       · rw [if_neg (fun h=>h q6)] at hr
         subst hr
         (repeat' (first|refine ja ?_ ?_|intro _))<;>first|omega|exact jb|exact jc ‹False›|skip
         all_goals first|omega|rfl|contradiction|exact⟨rfl,⟨hfs,by simp only;omega⟩,by omega⟩|(simp only [uy];done)|exact hfs.1|(exact(hfs.2 _ ‹_›).1)|(exact(hfs.2 _ ‹_›).2)|(unfold zG;omega)|(simp only;omega)|trace_state
       · rw [if_pos q6] at hr
         subst hr
         (repeat' (first|refine ja ?_ ?_|intro _))<;>first|omega|exact jb|exact jc ‹False›|skip
         all_goals first|omega|rfl|contradiction|exact⟨rfl,⟨hfs,by simp only;omega⟩,by omega⟩|(simp only [uy];done)|exact hfs.1|(exact(hfs.2 _ ‹_›).1)|(exact(hfs.2 _ ‹_›).2)|(unfold zG;omega)|(simp only;omega)|trace_state
     | false=>
       rw [if_neg Bool.false_ne_true] at hr;subst hr
       (repeat' (first|refine ja ?_ ?_|intro _))<;>first|omega|exact jb|exact jc ‹False›|skip
       all_goals first|omega|rfl|contradiction|trace_state
   · rw [if_pos q5] at hr
     subst hr
     (repeat' (first|refine ja ?_ ?_|intro _))<;>first|omega|exact jb|exact jc ‹False›|skip
     all_goals first|omega|rfl|contradiction|(unfold zG;simp only;omega)|trace_state
 rw [if_neg q8] at hr;subst hr
 (repeat' (first|refine ja ?_ ?_|intro _))<;>first|omega|exact jb|exact jc ‹False›|skip
 all_goals first|omega|rfl|contradiction|trace_state
theorem zol (ln:Ln) (p:Int) (m tg:Str) (hm:Int) (hf:List Fld) (hl le:Int) (ch:Ch) (out:List Evt) (k:Int) (hneed:rqN ⟨ln,p,⟨m,tg,hm,hf,hl⟩,le,some ch,false,out⟩∧0≤k∧k≤255):Spc Tryz.prog 80 [.v (.one (.ptr 0 0)),.v (.one (.p (.int .u8 k)))] [.abs (.rq ⟨ln,p,⟨m,tg,hm,hf,hl⟩,le,some ch,false,out⟩)] (.ret (.tup [])) [.abs (.rq ((rqF ⟨ln,p,⟨m,tg,hm,hf,hl⟩,le,some ch,false,out⟩ (UInt8.ofNat k.toNat))))]:=by
 obtain⟨⟨i,hi,hI0⟩,hk0,hk1⟩:=hneed;obtain⟨g1,g2,g3,g4,g5,g6,g7,g8,g9,g10⟩:=hI0;simp only at g1 g2 g3 g4 g5 g6 g7 g8 g9 g10
 have hfs:FsOk hf:=⟨by omega,fun f hm=>by have:=g6 f hm;omega⟩
 have hll:=Yt ln (UInt8.ofNat k.toNat);generalize hr:rqF ⟨ln,p,⟨m,tg,hm,hf,hl⟩,le,some ch,false,out⟩ (UInt8.ofNat k.toNat)=r
 refine spcG zh mixed Tryz.func80 (by kernel_rfl) { cfgQ with fz:=[117],keep:=some [0,1,4,5,6,7,8,9,13,62]} [rP,rO,Ux,Uw,Q9,Q8,zY,zX,yj,yh,yF,yE,yN,yM,wO,wM,W9,WZ,Y4,Y3,WV,WU] (by kernel_rfl) ?_
 intro I X hI hX
 refine orcL ?_;go_invoke;refine orcS (by kernel_rfl) ?_
 simp only [zq,Nat.reduceAdd];subst hI;unfold rqF at hr;simp only at hr;simp only [nrmA,nrmB,nrlB,reduceCtorEq,HO.abs.injEq,Gh.rq.injEq,Rq.mk.injEq];generalize UInt8.ofNat k.toNat=c at *;have hni:=zlA (g2 ch rfl) hi;have hz:chF ⟨⟨ch.ln.b,ch.ln.cr,ch.ln.code⟩,ch.pos,ch.left,ch.all,ch.tails,ch.code⟩ c=chF ch c:=rfl;have hck:ckOf ⟨ln,p,⟨m,tg,hm,hf,hl⟩,le,some ch,false,out⟩=ch:=rfl;simp only [hz];rw [hck] at hr;clear hz hck;have hz2:lnF ⟨ln.b,ln.cr,ln.code⟩ c=lnF ln c:=rfl;simp only [hz2];clear hz2 g2
 by_cases q1:p=2
 · rw [if_pos q1] at hr
   have h9:=g9 q1
   by_cases q2:le - 1=0
   · rw [if_pos q2] at hr
     subst hr
     have q3:le=1:=by omega
     subst q3
     (repeat' (first|refine ja ?_ ?_|intro _))<;>first|omega|exact jb|exact jc ‹False›|skip
     all_goals first|omega|rfl|(unfold zG;simp;omega)|(unfold zG;simp only;omega)|trace_state
   · rw [if_neg q2] at hr
     subst hr
     (repeat' (first|refine ja ?_ ?_|intro _))<;>first|omega|exact jb|exact jc ‹False›|skip
     all_goals first|omega|rfl|(unfold zG;simp;omega)|(unfold zG;simp only;omega)|trace_state
 rw [if_neg q1] at hr
 by_cases q4:p=3
 · rw [if_pos q4] at hr
   generalize chF ch c=z at *;obtain⟨⟨⟨zb,zc,zo⟩,z1,z2,z3,z4,z5⟩,d,ov,e⟩:=z;simp only at hr ⊢;have hd0:d.length=0↔d=[]:=List.length_eq_zero_iff
   by_cases q5:e=0
   · rw [if_neg (fun h=>h q5)] at hr
     cases ov with
     | true=>
       rw [if_pos rfl] at hr
       by_cases q6:d=[]
       · rw [if_neg (fun h=>h q6)] at hr
         have q7:=hd0.2 q6;subst hr
         (repeat' (first|refine ja ?_ ?_|intro _))<;>first|omega|exact jb|exact jc ‹False›|skip
         all_goals first|omega|rfl|(unfold zG;simp;omega)|(unfold zG;simp only;omega)|contradiction|exact⟨⟨hk0,hk1⟩,hni⟩|trace_state
       · rw [if_pos q6] at hr
         have q7: ¬ d.length=0:=fun h=>q6 (hd0.1 h);subst hr
         (repeat' (first|refine ja ?_ ?_|intro _))<;>first|omega|exact jb|exact jc ‹False›|skip
         all_goals first|omega|rfl|(unfold zG;simp;omega)|(unfold zG;simp only;omega)|contradiction|exact⟨⟨hk0,hk1⟩,hni⟩|trace_state
     | false=>
       rw [if_neg Bool.false_ne_true] at hr
       by_cases q6:d=[]
       · rw [if_neg (fun h=>h q6)] at hr
         have q7:=hd0.2 q6;subst hr
         (repeat' (first|refine ja ?_ ?_|intro _))<;>first|omega|exact jb|exact jc ‹False›|skip
         all_goals first|omega|rfl|(unfold zG;simp;omega)|(unfold zG;simp only;omega)|contradiction|exact⟨⟨hk0,hk1⟩,hni⟩|trace_state
       · rw [if_pos q6] at hr
         have q7: ¬ d.length=0:=fun h=>q6 (hd0.1 h);subst hr
         (repeat' (first|refine ja ?_ ?_|intro _))<;>first|omega|exact jb|exact jc ‹False›|skip
         all_goals first|omega|rfl|(unfold zG;simp;omega)|(unfold zG;simp only;omega)|contradiction|exact⟨⟨hk0,hk1⟩,hni⟩|trace_state
   · rw [if_pos q5] at hr
     subst hr
     (repeat' (first|refine ja ?_ ?_|intro _))<;>first|omega|exact jb|exact jc ‹False›|skip
     all_goals first|omega|rfl|(unfold zG;simp;omega)|(unfold zG;simp only;omega)|contradiction|exact⟨⟨hk0,hk1⟩,hni⟩|trace_state
 rw [if_neg q4] at hr
 by_cases q8:p=0∨p=1
 · exact absurd (g4 q8) (by simp)
 rw [if_neg q8] at hr;subst hr
 (repeat' (first|refine ja ?_ ?_|intro _))<;>first|omega|exact jb|exact jc ‹False›|skip
 all_goals first|omega|rfl|contradiction|trace_state
def Ve (I:Alg) (args:List D) (hp:List HO):Option CT:=match args,hp with
 |[.v (.one (.ptr 0 0)),.v (.one (.p (.int .u8 k)))],[.abs (.rq q)]=>(fun(q:Rq) (k:Int)=>(some (.one ⟨I.hid (rqN q∧0≤k∧k≤255),(.ret (.tup [])),[.abs (.rq (I.hid ((rqF q (UInt8.ofNat k.toNat)))))]⟩):Option CT)) q k
 |_,_=>none
theorem zfH:zx Tryz.prog 80 (Ve alg):=by
 intro args hp r h;unfold Ve at h;split at h<;>cases h
 rename_i k q;simp only [CT.Good,zi];intro hneed;obtain⟨ln,p,⟨m,tg,hm,hf,hl⟩,le,ck,own,out⟩:=q
 cases ck with
 | none=>cases own with
   |true=>exact zom ln p m tg hm hf hl le out k hneed
   |false=>exact zon ln p m tg hm hf hl le out k hneed
 | some ch=>cases own with
   |true=>exact zok ln p m tg hm hf hl le ch out k hneed
   |false=>exact zol ln p m tg hm hf hl le ch out k hneed
def uO:Know Tryz.prog:=⟨80,Ve,zfH⟩
def uN:Know Tryz.prog:=⟨80,fun I=>zy I (Ve I),zf zfH⟩
end Go.Proofs.YtkjepecoodjbmaaGreatDoor

namespace Go.Proofs.YtkjepecoodjbmaaGreatDoor
open Go Go.Sep Go.Ab
set_option maxRecDepth 100000
theorem zl9 (q:Rq):zI (yR q).1.out≤zI q.out:=by
 unfold yR qj
 repeat' split
 all_goals simp [zI,evH,evE]
theorem zl7 (q:Rq) (s:Str):zI (zW q s).1.out≤zI q.out:=by
 have hd:=zl9 q;unfold zW
 repeat' split
 all_goals first|exact hd|exact jL _
theorem zaJ (q:Rq) (c:UInt8):zI (rqF q c).out≤zI q.out+1:=by
 have hl:=zl7 { q with ln:=(lnF q.ln c).1} (lnF q.ln c).2.1
 have hd:=(zs4 (s:=ckOf q) (c:=c)).1;unfold rqF
 split
 · split
   · simp only [qj,yD,xG,evB,evE,jh,ji];omega
   · simp only [yD,xG,evB,jh,ji];omega
 split
 · split
   · simp only [vT,yD,xG,evF,ji];omega
   split
   · simp only [qj,yD,xG,evE,ji]
     split
     · simp only [yD,xG,evB];omega
     · omega
   · show zI (if(chF (ckOf q) c).2.1≠[] then q.out++[evB (chF (ckOf q) c).2.1] else q.out)≤_
     split
     · simp only [yD,xG,evB];omega
     · omega
 split
 · split
   · simp only [vT,yD,xG,evF,ji];omega
   split
   · split
     · simp only [vT,yD,xG,evF,ji];simp only at hl;omega
     · simp only at hl;omega
   · exact Nat.le_succ _
 · exact Nat.le_succ _
def rqAt (q:Rq) (b:Str) (n i:Nat):Prop:=RqI (qi { q with out:=[]} (b.take i)) (n+i)∧zI (qi { q with out:=[]} (b.take i)).out≤i
theorem zj4 {q:Rq} {n:Nat} (h:RqI { q with out:=[]} n) (b:Str):rqAt q b n 0:=⟨h,by simp [qi,zI]⟩
theorem zdW (q:Rq) (b:Str) {i:Nat} (h:i<b.length):qi q (b.take (i+1))=rqF (qi q (b.take i)) (b.getD i 0):=by
 rw [show b.getD i 0=b[i] by simp [h],jB h]
 unfold qi;rw [List.foldl_append];rfl
def rqN0 (q:Rq) (b:Str):Prop:=∃ n,RqI { q with out:=[]} n∧n+b.length≤1000000
theorem zn6 (ln:Ln) (p:Int) (m tg:Str) (hm:Int) (hf:List Fld) (hl le:Int) (out:List Evt) (b:Str) (hneed:rqN0 ⟨ln,p,⟨m,tg,hm,hf,hl⟩,le,none,true,out⟩ b):Spc Tryz.prog 45 [.v (.one (.ptr 0 0)),.v (.one (.p (.list .byte b)))] [.abs (.rq ⟨ln,p,⟨m,tg,hm,hf,hl⟩,le,none,true,out⟩)] (.ret (.v (.one (.row 1)))) [.abs (.rq ((zF ⟨ln,p,⟨m,tg,hm,hf,hl⟩,le,none,true,out⟩ b))),.row .evt 34 ((zZ (zF ⟨ln,p,⟨m,tg,hm,hf,hl⟩,le,none,true,out⟩ b).out))]:=by
 obtain⟨n,hI0,hnb⟩:=hneed;have hat:=zj4 hI0 b
 refine spcG zh mixed Tryz.func45 (by kernel_rfl) { cfgQ with fz:=[],keep:=some [0,1,4,6,10,11,12]} [uO,uN,wu,wo] (by kernel_rfl) ?_
 intro I X hI hX
 refine orcL ?_;go_invoke;refine orcS (by kernel_rfl) ?_
 simp only [zq,Nat.reduceAdd]
 have hr:({ (⟨ln,p,⟨m,tg,hm,hf,hl⟩,le,none,true,out⟩:Rq) with out:=[]}:Rq)=(⟨ln,p,⟨m,tg,hm,hf,hl⟩,le,none,true,[]⟩:Rq):=rfl
 unfold rqAt at hat;unfold zF;rw [hr] at hat ⊢
 refine zB hI zh mixed [uO,uN,wu,wo] hX [0,1,10,11,12] (fun(g:Nat × Rq)=>match g with|(i,r)=>i≤b.length∧r=qi (⟨ln,p,⟨m,tg,hm,hf,hl⟩,le,none,true,[]⟩:Rq) (b.take i)∧RqI r (n+i)∧zI r.out≤i) (fun(g:Nat × Rq)=>match g with|(i,r)=>⟨[(0,.v (.one (.ptr 0 0))),(1,.v (.one (.p (.list .byte b)))),(10,.v (.one (.p (.list .byte b)))),(11,.v (.one (.p (.int .i64 ((I.len (α:=UInt8) b)))))),(12,.v (.one (.p (.int .i64 i))))],[.abs (.rq r)],25,none⟩) (fun(g:Nat × Rq)=>match g with|(i,r)=>b.length - i) (0,(⟨ln,p,⟨m,tg,hm,hf,hl⟩,le,none,true,[]⟩:Rq)) (by kernel_rfl) (by kernel_rfl) ?_ ?_
 · exact⟨jM _,rfl,hat.1,hat.2⟩
 rintro⟨i,⟨ln2,p2,⟨m2,t2,hm2,hf2,hl2⟩,le2,ck2,own2,out2⟩⟩ ⟨h1,h2,h3,h4⟩ A hA;simp only at hA h1 h2 h3 h4
 have hrn:i<b.length→rqN _:=fun h=>⟨n+i,by omega,h3⟩
 have hgo:i<b.length→_:=fun h=>hA (i+1,rqF ⟨ln2,p2,⟨m2,t2,hm2,hf2,hl2⟩,le2,ck2,own2,out2⟩ (b.getD i 0)) ⟨by simp only;omega,by simp only;rw [zdW _ _ h,← h2],by simp only;exact zl8 h3 _,by simp only;have:=zaJ ⟨ln2,p2,⟨m2,t2,hm2,hf2,hl2⟩,le2,ck2,own2,out2⟩ (b.getD i 0);simp only at this;omega⟩ (by simp only;omega)
 have hend: ¬ i<b.length→_:=fun h=>h2.trans (by rw [jq (by omega)])
 rcases ck2 with _|ch2<;>rcases own2 with _|_
 · have h0:=h1
   refine orcL ?_;go_invoke;refine orcS (by kernel_rfl) ?_
   simp only [zq,Nat.reduceAdd];subst hI;simp only [nrmA,nrmB,nrlB,reduceCtorEq,HO.abs.injEq,Gh.rq.injEq,Rq.mk.injEq]
   by_cases hi:i<b.length
   · have hg:=hgo hi
     have hn:=hrn hi
     (repeat' (first|refine ja ?_ ?_|intro _))<;>first|omega|exact jb|exact jc ‹False›|skip
     all_goals first|omega|exact hg|exact hn|contradiction|(have:=(b.getD i 0).toNat_lt;omega)|trace_state
   · have hg:=hend hi
     rw [← hg];have hon:=h3.on;simp only at hon
     (repeat' (first|refine ja ?_ ?_|intro _))<;>first|omega|exact jb|exact jc ‹False›|skip
     all_goals first|omega|rfl|contradiction|exact⟨by omega,by omega⟩|trace_state
 · have h0:=h1
   refine orcL ?_;go_invoke;refine orcS (by kernel_rfl) ?_
   simp only [zq,Nat.reduceAdd];subst hI;simp only [nrmA,nrmB,nrlB,reduceCtorEq,HO.abs.injEq,Gh.rq.injEq,Rq.mk.injEq]
   by_cases hi:i<b.length
   · have hg:=hgo hi
     have hn:=hrn hi
     (repeat' (first|refine ja ?_ ?_|intro _))<;>first|omega|exact jb|exact jc ‹False›|skip
     all_goals first|omega|exact hg|exact hn|contradiction|(have:=(b.getD i 0).toNat_lt;omega)|trace_state
   · have hg:=hend hi
     rw [← hg];have hon:=h3.on;simp only at hon
     (repeat' (first|refine ja ?_ ?_|intro _))<;>first|omega|exact jb|exact jc ‹False›|skip
     all_goals first|omega|rfl|contradiction|exact⟨by omega,by omega⟩|trace_state
 · have h0:=h1
   refine orcL ?_;go_invoke;refine orcS (by kernel_rfl) ?_
   simp only [zq,Nat.reduceAdd];subst hI;simp only [nrmA,nrmB,nrlB,reduceCtorEq,HO.abs.injEq,Gh.rq.injEq,Rq.mk.injEq]
   by_cases hi:i<b.length
   · have hg:=hgo hi
     have hn:=hrn hi
     (repeat' (first|refine ja ?_ ?_|intro _))<;>first|omega|exact jb|exact jc ‹False›|skip
     all_goals first|omega|exact hg|exact hn|contradiction|(have:=(b.getD i 0).toNat_lt;omega)|trace_state
   · have hg:=hend hi
     rw [← hg];have hon:=h3.on;simp only at hon
     (repeat' (first|refine ja ?_ ?_|intro _))<;>first|omega|exact jb|exact jc ‹False›|skip
     all_goals first|omega|rfl|contradiction|exact⟨by omega,by omega⟩|trace_state
 · have h0:=h1
   refine orcL ?_;go_invoke;refine orcS (by kernel_rfl) ?_
   simp only [zq,Nat.reduceAdd];subst hI;simp only [nrmA,nrmB,nrlB,reduceCtorEq,HO.abs.injEq,Gh.rq.injEq,Rq.mk.injEq]
   by_cases hi:i<b.length
   · have hg:=hgo hi
     have hn:=hrn hi
     (repeat' (first|refine ja ?_ ?_|intro _))<;>first|omega|exact jb|exact jc ‹False›|skip
     all_goals first|omega|exact hg|exact hn|contradiction|(have:=(b.getD i 0).toNat_lt;omega)|trace_state
   · have hg:=hend hi
     rw [← hg];have hon:=h3.on;simp only at hon
     (repeat' (first|refine ja ?_ ?_|intro _))<;>first|omega|exact jb|exact jc ‹False›|skip
     all_goals first|omega|rfl|contradiction|exact⟨by omega,by omega⟩|trace_state
theorem zn7 (ln:Ln) (p:Int) (m tg:Str) (hm:Int) (hf:List Fld) (hl le:Int) (out:List Evt) (b:Str) (hneed:rqN0 ⟨ln,p,⟨m,tg,hm,hf,hl⟩,le,none,false,out⟩ b):Spc Tryz.prog 45 [.v (.one (.ptr 0 0)),.v (.one (.p (.list .byte b)))] [.abs (.rq ⟨ln,p,⟨m,tg,hm,hf,hl⟩,le,none,false,out⟩)] (.ret (.v (.one (.row 1)))) [.abs (.rq ((zF ⟨ln,p,⟨m,tg,hm,hf,hl⟩,le,none,false,out⟩ b))),.row .evt 34 ((zZ (zF ⟨ln,p,⟨m,tg,hm,hf,hl⟩,le,none,false,out⟩ b).out))]:=by
 obtain⟨n,hI0,hnb⟩:=hneed;have hat:=zj4 hI0 b
 refine spcG zh mixed Tryz.func45 (by kernel_rfl) { cfgQ with fz:=[],keep:=some [0,1,4,6,10,11,12]} [uO,uN,wu,wo] (by kernel_rfl) ?_
 intro I X hI hX
 refine orcL ?_;go_invoke;refine orcS (by kernel_rfl) ?_
 simp only [zq,Nat.reduceAdd]
 have hr:({ (⟨ln,p,⟨m,tg,hm,hf,hl⟩,le,none,false,out⟩:Rq) with out:=[]}:Rq)=(⟨ln,p,⟨m,tg,hm,hf,hl⟩,le,none,false,[]⟩:Rq):=rfl
 unfold rqAt at hat;unfold zF;rw [hr] at hat ⊢
 refine zB hI zh mixed [uO,uN,wu,wo] hX [0,1,10,11,12] (fun(g:Nat × Rq)=>match g with|(i,r)=>i≤b.length∧r=qi (⟨ln,p,⟨m,tg,hm,hf,hl⟩,le,none,false,[]⟩:Rq) (b.take i)∧RqI r (n+i)∧zI r.out≤i) (fun(g:Nat × Rq)=>match g with|(i,r)=>⟨[(0,.v (.one (.ptr 0 0))),(1,.v (.one (.p (.list .byte b)))),(10,.v (.one (.p (.list .byte b)))),(11,.v (.one (.p (.int .i64 ((I.len (α:=UInt8) b)))))),(12,.v (.one (.p (.int .i64 i))))],[.abs (.rq r)],25,none⟩) (fun(g:Nat × Rq)=>match g with|(i,r)=>b.length - i) (0,(⟨ln,p,⟨m,tg,hm,hf,hl⟩,le,none,false,[]⟩:Rq)) (by kernel_rfl) (by kernel_rfl) ?_ ?_
 · exact⟨jM _,rfl,hat.1,hat.2⟩
 rintro⟨i,⟨ln2,p2,⟨m2,t2,hm2,hf2,hl2⟩,le2,ck2,own2,out2⟩⟩ ⟨h1,h2,h3,h4⟩ A hA;simp only at hA h1 h2 h3 h4
 have hrn:i<b.length→rqN _:=fun h=>⟨n+i,by omega,h3⟩
 have hgo:i<b.length→_:=fun h=>hA (i+1,rqF ⟨ln2,p2,⟨m2,t2,hm2,hf2,hl2⟩,le2,ck2,own2,out2⟩ (b.getD i 0)) ⟨by simp only;omega,by simp only;rw [zdW _ _ h,← h2],by simp only;exact zl8 h3 _,by simp only;have:=zaJ ⟨ln2,p2,⟨m2,t2,hm2,hf2,hl2⟩,le2,ck2,own2,out2⟩ (b.getD i 0);simp only at this;omega⟩ (by simp only;omega)
 have hend: ¬ i<b.length→_:=fun h=>h2.trans (by rw [jq (by omega)])
 rcases ck2 with _|ch2<;>rcases own2 with _|_
 · have h0:=h1
   refine orcL ?_;go_invoke;refine orcS (by kernel_rfl) ?_
   simp only [zq,Nat.reduceAdd];subst hI;simp only [nrmA,nrmB,nrlB,reduceCtorEq,HO.abs.injEq,Gh.rq.injEq,Rq.mk.injEq]
   by_cases hi:i<b.length
   · have hg:=hgo hi
     have hn:=hrn hi
     (repeat' (first|refine ja ?_ ?_|intro _))<;>first|omega|exact jb|exact jc ‹False›|skip
     all_goals first|omega|exact hg|exact hn|contradiction|(have:=(b.getD i 0).toNat_lt;omega)|trace_state
   · have hg:=hend hi
     rw [← hg];have hon:=h3.on;simp only at hon
     (repeat' (first|refine ja ?_ ?_|intro _))<;>first|omega|exact jb|exact jc ‹False›|skip
     all_goals first|omega|rfl|contradiction|exact⟨by omega,by omega⟩|trace_state
 · have h0:=h1
   refine orcL ?_;go_invoke;refine orcS (by kernel_rfl) ?_
   simp only [zq,Nat.reduceAdd];subst hI;simp only [nrmA,nrmB,nrlB,reduceCtorEq,HO.abs.injEq,Gh.rq.injEq,Rq.mk.injEq]
   by_cases hi:i<b.length
   · have hg:=hgo hi
     have hn:=hrn hi
     (repeat' (first|refine ja ?_ ?_|intro _))<;>first|omega|exact jb|exact jc ‹False›|skip
     all_goals first|omega|exact hg|exact hn|contradiction|(have:=(b.getD i 0).toNat_lt;omega)|trace_state
   · have hg:=hend hi
     rw [← hg];have hon:=h3.on;simp only at hon
     (repeat' (first|refine ja ?_ ?_|intro _))<;>first|omega|exact jb|exact jc ‹False›|skip
     all_goals first|omega|rfl|contradiction|exact⟨by omega,by omega⟩|trace_state
 · have h0:=h1
   refine orcL ?_;go_invoke;refine orcS (by kernel_rfl) ?_
   simp only [zq,Nat.reduceAdd];subst hI;simp only [nrmA,nrmB,nrlB,reduceCtorEq,HO.abs.injEq,Gh.rq.injEq,Rq.mk.injEq]
   by_cases hi:i<b.length
   · have hg:=hgo hi
     have hn:=hrn hi
     (repeat' (first|refine ja ?_ ?_|intro _))<;>first|omega|exact jb|exact jc ‹False›|skip
     all_goals first|omega|exact hg|exact hn|contradiction|(have:=(b.getD i 0).toNat_lt;omega)|trace_state
   · have hg:=hend hi
     rw [← hg];have hon:=h3.on;simp only at hon
     (repeat' (first|refine ja ?_ ?_|intro _))<;>first|omega|exact jb|exact jc ‹False›|skip
     all_goals first|omega|rfl|contradiction|exact⟨by omega,by omega⟩|trace_state
 · have h0:=h1
   refine orcL ?_;go_invoke;refine orcS (by kernel_rfl) ?_
   simp only [zq,Nat.reduceAdd];subst hI;simp only [nrmA,nrmB,nrlB,reduceCtorEq,HO.abs.injEq,Gh.rq.injEq,Rq.mk.injEq]
   by_cases hi:i<b.length
   · have hg:=hgo hi
     have hn:=hrn hi
     (repeat' (first|refine ja ?_ ?_|intro _))<;>first|omega|exact jb|exact jc ‹False›|skip
     all_goals first|omega|exact hg|exact hn|contradiction|(have:=(b.getD i 0).toNat_lt;omega)|trace_state
   · have hg:=hend hi
     rw [← hg];have hon:=h3.on;simp only at hon
     (repeat' (first|refine ja ?_ ?_|intro _))<;>first|omega|exact jb|exact jc ‹False›|skip
     all_goals first|omega|rfl|contradiction|exact⟨by omega,by omega⟩|trace_state
theorem zn4 (ln:Ln) (p:Int) (m tg:Str) (hm:Int) (hf:List Fld) (hl le:Int) (ch:Ch) (out:List Evt) (b:Str) (hneed:rqN0 ⟨ln,p,⟨m,tg,hm,hf,hl⟩,le,some ch,true,out⟩ b):Spc Tryz.prog 45 [.v (.one (.ptr 0 0)),.v (.one (.p (.list .byte b)))] [.abs (.rq ⟨ln,p,⟨m,tg,hm,hf,hl⟩,le,some ch,true,out⟩)] (.ret (.v (.one (.row 1)))) [.abs (.rq ((zF ⟨ln,p,⟨m,tg,hm,hf,hl⟩,le,some ch,true,out⟩ b))),.row .evt 34 ((zZ (zF ⟨ln,p,⟨m,tg,hm,hf,hl⟩,le,some ch,true,out⟩ b).out))]:=by
 obtain⟨n,hI0,hnb⟩:=hneed;have hat:=zj4 hI0 b
 refine spcG zh mixed Tryz.func45 (by kernel_rfl) { cfgQ with fz:=[],keep:=some [0,1,4,6,10,11,12]} [uO,uN,wu,wo] (by kernel_rfl) ?_
 intro I X hI hX
 refine orcL ?_;go_invoke;refine orcS (by kernel_rfl) ?_
 simp only [zq,Nat.reduceAdd]
 have hr:({ (⟨ln,p,⟨m,tg,hm,hf,hl⟩,le,some ch,true,out⟩:Rq) with out:=[]}:Rq)=(⟨ln,p,⟨m,tg,hm,hf,hl⟩,le,some ch,true,[]⟩:Rq):=rfl
 unfold rqAt at hat;unfold zF;rw [hr] at hat ⊢
 refine zB hI zh mixed [uO,uN,wu,wo] hX [0,1,10,11,12] (fun(g:Nat × Rq)=>match g with|(i,r)=>i≤b.length∧r=qi (⟨ln,p,⟨m,tg,hm,hf,hl⟩,le,some ch,true,[]⟩:Rq) (b.take i)∧RqI r (n+i)∧zI r.out≤i) (fun(g:Nat × Rq)=>match g with|(i,r)=>⟨[(0,.v (.one (.ptr 0 0))),(1,.v (.one (.p (.list .byte b)))),(10,.v (.one (.p (.list .byte b)))),(11,.v (.one (.p (.int .i64 ((I.len (α:=UInt8) b)))))),(12,.v (.one (.p (.int .i64 i))))],[.abs (.rq r)],25,none⟩) (fun(g:Nat × Rq)=>match g with|(i,r)=>b.length - i) (0,(⟨ln,p,⟨m,tg,hm,hf,hl⟩,le,some ch,true,[]⟩:Rq)) (by kernel_rfl) (by kernel_rfl) ?_ ?_
 · exact⟨jM _,rfl,hat.1,hat.2⟩
 rintro⟨i,⟨ln2,p2,⟨m2,t2,hm2,hf2,hl2⟩,le2,ck2,own2,out2⟩⟩ ⟨h1,h2,h3,h4⟩ A hA;simp only at hA h1 h2 h3 h4
 have hrn:i<b.length→rqN _:=fun h=>⟨n+i,by omega,h3⟩
 have hgo:i<b.length→_:=fun h=>hA (i+1,rqF ⟨ln2,p2,⟨m2,t2,hm2,hf2,hl2⟩,le2,ck2,own2,out2⟩ (b.getD i 0)) ⟨by simp only;omega,by simp only;rw [zdW _ _ h,← h2],by simp only;exact zl8 h3 _,by simp only;have:=zaJ ⟨ln2,p2,⟨m2,t2,hm2,hf2,hl2⟩,le2,ck2,own2,out2⟩ (b.getD i 0);simp only at this;omega⟩ (by simp only;omega)
 have hend: ¬ i<b.length→_:=fun h=>h2.trans (by rw [jq (by omega)])
 rcases ck2 with _|ch2<;>rcases own2 with _|_
 · have h0:=h1
   refine orcL ?_;go_invoke;refine orcS (by kernel_rfl) ?_
   simp only [zq,Nat.reduceAdd];subst hI;simp only [nrmA,nrmB,nrlB,reduceCtorEq,HO.abs.injEq,Gh.rq.injEq,Rq.mk.injEq]
   by_cases hi:i<b.length
   · have hg:=hgo hi
     have hn:=hrn hi
     (repeat' (first|refine ja ?_ ?_|intro _))<;>first|omega|exact jb|exact jc ‹False›|skip
     all_goals first|omega|exact hg|exact hn|contradiction|(have:=(b.getD i 0).toNat_lt;omega)|trace_state
   · have hg:=hend hi
     rw [← hg];have hon:=h3.on;simp only at hon
     (repeat' (first|refine ja ?_ ?_|intro _))<;>first|omega|exact jb|exact jc ‹False›|skip
     all_goals first|omega|rfl|contradiction|exact⟨by omega,by omega⟩|trace_state
 · have h0:=h1
   refine orcL ?_;go_invoke;refine orcS (by kernel_rfl) ?_
   simp only [zq,Nat.reduceAdd];subst hI;simp only [nrmA,nrmB,nrlB,reduceCtorEq,HO.abs.injEq,Gh.rq.injEq,Rq.mk.injEq]
   by_cases hi:i<b.length
   · have hg:=hgo hi
     have hn:=hrn hi
     (repeat' (first|refine ja ?_ ?_|intro _))<;>first|omega|exact jb|exact jc ‹False›|skip
     all_goals first|omega|exact hg|exact hn|contradiction|(have:=(b.getD i 0).toNat_lt;omega)|trace_state
   · have hg:=hend hi
     rw [← hg];have hon:=h3.on;simp only at hon
     (repeat' (first|refine ja ?_ ?_|intro _))<;>first|omega|exact jb|exact jc ‹False›|skip
     all_goals first|omega|rfl|contradiction|exact⟨by omega,by omega⟩|trace_state
 · have h0:=h1
   refine orcL ?_;go_invoke;refine orcS (by kernel_rfl) ?_
   simp only [zq,Nat.reduceAdd];subst hI;simp only [nrmA,nrmB,nrlB,reduceCtorEq,HO.abs.injEq,Gh.rq.injEq,Rq.mk.injEq]
   by_cases hi:i<b.length
   · have hg:=hgo hi
     have hn:=hrn hi
     (repeat' (first|refine ja ?_ ?_|intro _))<;>first|omega|exact jb|exact jc ‹False›|skip
     all_goals first|omega|exact hg|exact hn|contradiction|(have:=(b.getD i 0).toNat_lt;omega)|trace_state
   · have hg:=hend hi
     rw [← hg];have hon:=h3.on;simp only at hon
     (repeat' (first|refine ja ?_ ?_|intro _))<;>first|omega|exact jb|exact jc ‹False›|skip
     all_goals first|omega|rfl|contradiction|exact⟨by omega,by omega⟩|trace_state
 · have h0:=h1
   refine orcL ?_;go_invoke;refine orcS (by kernel_rfl) ?_
   simp only [zq,Nat.reduceAdd];subst hI;simp only [nrmA,nrmB,nrlB,reduceCtorEq,HO.abs.injEq,Gh.rq.injEq,Rq.mk.injEq]
   by_cases hi:i<b.length
   · have hg:=hgo hi
     have hn:=hrn hi
     (repeat' (first|refine ja ?_ ?_|intro _))<;>first|omega|exact jb|exact jc ‹False›|skip
     all_goals first|omega|exact hg|exact hn|contradiction|(have:=(b.getD i 0).toNat_lt;omega)|trace_state
   · have hg:=hend hi
     rw [← hg];have hon:=h3.on;simp only at hon
     (repeat' (first|refine ja ?_ ?_|intro _))<;>first|omega|exact jb|exact jc ‹False›|skip
     all_goals first|omega|rfl|contradiction|exact⟨by omega,by omega⟩|trace_state
theorem zn5 (ln:Ln) (p:Int) (m tg:Str) (hm:Int) (hf:List Fld) (hl le:Int) (ch:Ch) (out:List Evt) (b:Str) (hneed:rqN0 ⟨ln,p,⟨m,tg,hm,hf,hl⟩,le,some ch,false,out⟩ b):Spc Tryz.prog 45 [.v (.one (.ptr 0 0)),.v (.one (.p (.list .byte b)))] [.abs (.rq ⟨ln,p,⟨m,tg,hm,hf,hl⟩,le,some ch,false,out⟩)] (.ret (.v (.one (.row 1)))) [.abs (.rq ((zF ⟨ln,p,⟨m,tg,hm,hf,hl⟩,le,some ch,false,out⟩ b))),.row .evt 34 ((zZ (zF ⟨ln,p,⟨m,tg,hm,hf,hl⟩,le,some ch,false,out⟩ b).out))]:=by
 obtain⟨n,hI0,hnb⟩:=hneed;have hat:=zj4 hI0 b
 refine spcG zh mixed Tryz.func45 (by kernel_rfl) { cfgQ with fz:=[],keep:=some [0,1,4,6,10,11,12]} [uO,uN,wu,wo] (by kernel_rfl) ?_
 intro I X hI hX
 refine orcL ?_;go_invoke;refine orcS (by kernel_rfl) ?_
 simp only [zq,Nat.reduceAdd]
 have hr:({ (⟨ln,p,⟨m,tg,hm,hf,hl⟩,le,some ch,false,out⟩:Rq) with out:=[]}:Rq)=(⟨ln,p,⟨m,tg,hm,hf,hl⟩,le,some ch,false,[]⟩:Rq):=rfl
 unfold rqAt at hat;unfold zF;rw [hr] at hat ⊢
 refine zB hI zh mixed [uO,uN,wu,wo] hX [0,1,10,11,12] (fun(g:Nat × Rq)=>match g with|(i,r)=>i≤b.length∧r=qi (⟨ln,p,⟨m,tg,hm,hf,hl⟩,le,some ch,false,[]⟩:Rq) (b.take i)∧RqI r (n+i)∧zI r.out≤i) (fun(g:Nat × Rq)=>match g with|(i,r)=>⟨[(0,.v (.one (.ptr 0 0))),(1,.v (.one (.p (.list .byte b)))),(10,.v (.one (.p (.list .byte b)))),(11,.v (.one (.p (.int .i64 ((I.len (α:=UInt8) b)))))),(12,.v (.one (.p (.int .i64 i))))],[.abs (.rq r)],25,none⟩) (fun(g:Nat × Rq)=>match g with|(i,r)=>b.length - i) (0,(⟨ln,p,⟨m,tg,hm,hf,hl⟩,le,some ch,false,[]⟩:Rq)) (by kernel_rfl) (by kernel_rfl) ?_ ?_
 · exact⟨jM _,rfl,hat.1,hat.2⟩
 rintro⟨i,⟨ln2,p2,⟨m2,t2,hm2,hf2,hl2⟩,le2,ck2,own2,out2⟩⟩ ⟨h1,h2,h3,h4⟩ A hA;simp only at hA h1 h2 h3 h4
 have hrn:i<b.length→rqN _:=fun h=>⟨n+i,by omega,h3⟩
 have hgo:i<b.length→_:=fun h=>hA (i+1,rqF ⟨ln2,p2,⟨m2,t2,hm2,hf2,hl2⟩,le2,ck2,own2,out2⟩ (b.getD i 0)) ⟨by simp only;omega,by simp only;rw [zdW _ _ h,← h2],by simp only;exact zl8 h3 _,by simp only;have:=zaJ ⟨ln2,p2,⟨m2,t2,hm2,hf2,hl2⟩,le2,ck2,own2,out2⟩ (b.getD i 0);simp only at this;omega⟩ (by simp only;omega)
 have hend: ¬ i<b.length→_:=fun h=>h2.trans (by rw [jq (by omega)])
 rcases ck2 with _|ch2<;>rcases own2 with _|_
 · have h0:=h1
   refine orcL ?_;go_invoke;refine orcS (by kernel_rfl) ?_
   simp only [zq,Nat.reduceAdd];subst hI;simp only [nrmA,nrmB,nrlB,reduceCtorEq,HO.abs.injEq,Gh.rq.injEq,Rq.mk.injEq]
   by_cases hi:i<b.length
   · have hg:=hgo hi
     have hn:=hrn hi
     (repeat' (first|refine ja ?_ ?_|intro _))<;>first|omega|exact jb|exact jc ‹False›|skip
     all_goals first|omega|exact hg|exact hn|contradiction|(have:=(b.getD i 0).toNat_lt;omega)|trace_state
   · have hg:=hend hi
     rw [← hg];have hon:=h3.on;simp only at hon
     (repeat' (first|refine ja ?_ ?_|intro _))<;>first|omega|exact jb|exact jc ‹False›|skip
     all_goals first|omega|rfl|contradiction|exact⟨by omega,by omega⟩|trace_state
 · have h0:=h1
   refine orcL ?_;go_invoke;refine orcS (by kernel_rfl) ?_
   simp only [zq,Nat.reduceAdd];subst hI;simp only [nrmA,nrmB,nrlB,reduceCtorEq,HO.abs.injEq,Gh.rq.injEq,Rq.mk.injEq]
   by_cases hi:i<b.length
   · have hg:=hgo hi
     have hn:=hrn hi
     (repeat' (first|refine ja ?_ ?_|intro _))<;>first|omega|exact jb|exact jc ‹False›|skip
     all_goals first|omega|exact hg|exact hn|contradiction|(have:=(b.getD i 0).toNat_lt;omega)|trace_state
   · have hg:=hend hi
     rw [← hg];have hon:=h3.on;simp only at hon
     (repeat' (first|refine ja ?_ ?_|intro _))<;>first|omega|exact jb|exact jc ‹False›|skip
     all_goals first|omega|rfl|contradiction|exact⟨by omega,by omega⟩|trace_state
 · have h0:=h1
   refine orcL ?_;go_invoke;refine orcS (by kernel_rfl) ?_
   simp only [zq,Nat.reduceAdd];subst hI;simp only [nrmA,nrmB,nrlB,reduceCtorEq,HO.abs.injEq,Gh.rq.injEq,Rq.mk.injEq]
   by_cases hi:i<b.length
   · have hg:=hgo hi
     have hn:=hrn hi
     (repeat' (first|refine ja ?_ ?_|intro _))<;>first|omega|exact jb|exact jc ‹False›|skip
     all_goals first|omega|exact hg|exact hn|contradiction|(have:=(b.getD i 0).toNat_lt;omega)|trace_state
   · have hg:=hend hi
     rw [← hg];have hon:=h3.on;simp only at hon
     (repeat' (first|refine ja ?_ ?_|intro _))<;>first|omega|exact jb|exact jc ‹False›|skip
     all_goals first|omega|rfl|contradiction|exact⟨by omega,by omega⟩|trace_state
 · have h0:=h1
   refine orcL ?_;go_invoke;refine orcS (by kernel_rfl) ?_
   simp only [zq,Nat.reduceAdd];subst hI;simp only [nrmA,nrmB,nrlB,reduceCtorEq,HO.abs.injEq,Gh.rq.injEq,Rq.mk.injEq]
   by_cases hi:i<b.length
   · have hg:=hgo hi
     have hn:=hrn hi
     (repeat' (first|refine ja ?_ ?_|intro _))<;>first|omega|exact jb|exact jc ‹False›|skip
     all_goals first|omega|exact hg|exact hn|contradiction|(have:=(b.getD i 0).toNat_lt;omega)|trace_state
   · have hg:=hend hi
     rw [← hg];have hon:=h3.on;simp only at hon
     (repeat' (first|refine ja ?_ ?_|intro _))<;>first|omega|exact jb|exact jc ‹False›|skip
     all_goals first|omega|rfl|contradiction|exact⟨by omega,by omega⟩|trace_state
def WY (I:Alg) (args:List D) (hp:List HO):Option CT:=match args,hp with
 |[.v (.one (.ptr 0 0)),.v (.one (.p (.list .byte b)))],[.abs (.rq q)]=>(fun(q:Rq) (b:Str)=>(some (.one ⟨I.hid (rqN0 q b),(.ret (.v (.one (.row 1)))),[.abs (.rq (I.hid ((zF q b)))),.row .evt 34 (I.hid ((zZ (zF q b).out)))]⟩):Option CT)) q b
 |_,_=>none
theorem zfB:zx Tryz.prog 45 (WY alg):=by
 intro args hp r h;unfold WY at h;split at h<;>cases h
 rename_i b q;simp only [CT.Good,zi];intro hneed;obtain⟨ln,p,⟨m,tg,hm,hf,hl⟩,le,ck,own,out⟩:=q
 cases ck with
 | none=>cases own with
   |true=>exact zn6 ln p m tg hm hf hl le out b hneed
   |false=>exact zn7 ln p m tg hm hf hl le out b hneed
 | some ch=>cases own with
   |true=>exact zn4 ln p m tg hm hf hl le ch out b hneed
   |false=>exact zn5 ln p m tg hm hf hl le ch out b hneed
def xP:Know Tryz.prog:=⟨45,WY,zfB⟩
def xO:Know Tryz.prog:=⟨45,fun I=>zy I (WY I),zf zfB⟩
end Go.Proofs.YtkjepecoodjbmaaGreatDoor
namespace Go.Proofs.YtkjepecoodjbmaaGreatDoor
open Go Go.Sep Go.Ab
set_option maxRecDepth 100000
def EvO (l:List Evt):Prop:=∀ e ∈ l,FsOk e.head.fields
theorem TB {a b:List Evt} (h:EvO a) (k:EvO b):EvO (a++b):=fun e m=>(List.mem_append.1 m).elim (h e) (k e)
theorem QK:FsOk []:=⟨by decide,fun f h=>by cases h⟩
theorem zby {e:Evt} (h:FsOk e.head.fields):EvO [e]:=fun x m=>by rw [List.mem_singleton.1 m];exact h
theorem zp8 {o:List Evt} {e:Evt} (h:EvO (o++[e])):EvO (uS o e):=by
 rcases List.eq_nil_or_concat o with rfl|⟨z,x,rfl⟩
 · exact h
 · rw [List.concat_eq_append] at h ⊢
   rw [xU]
   split
   · exact TB (fun y m=>h y (by simp [m])) (zby QK)
   · exact h
theorem zlf: ∀ (l o:List Evt),EvO (o++l)→EvO (l.foldl uS o)
 |[],o,h=>by rw [List.append_nil] at h;exact h
 | e::l,o,h=>by
   rw [List.foldl_cons];refine zlf l _ ?_
   rw [show o++e::l=(o++[e])++l by simp] at h
   exact TB (zp8 fun y m=>h y (List.mem_append_left _ m)) (fun y m=>h y (List.mem_append_right _ m))
theorem zrI {q:Rq} (h:EvO q.out) (k:FsOk q.h.fields):EvO (yR q).1.out:=by
 unfold yR qj
 repeat' split
 all_goals first
  |exact h
  |exact TB (TB h (zby k)) (zby QK)
  |exact TB h (zby k)
theorem zrC {q:Rq} (h:EvO q.out) (k:FsOk q.h.fields) (s:Str):EvO (zW q s).1.out:=by
 have hd:=zrI h k;unfold zW
 repeat' split
 all_goals first|exact hd|exact h
theorem zxj {q:Rq} (h:EvO q.out) (k:FsOk q.h.fields) (c:UInt8):EvO (rqF q c).out:=by
 have hl:=zrC (q:= { q with ln:=(lnF q.ln c).1}) h k (lnF q.ln c).2.1
 have h1: ∀ (o:List Evt) (e:Evt),EvO o→e.head=hd0→EvO (o++[e]):=fun o e a b=>TB a (zby (by rw [b];exact QK))
 have hd:EvO (if(chF (ckOf q) c).2.1≠[] then q.out++[evB (chF (ckOf q) c).2.1] else q.out):=by
  split
  · exact h1 _ _ h rfl
  · exact h
 unfold rqF
 split
 · split
   · exact h1 _ _ (h1 _ _ h rfl) rfl
   · exact h1 _ _ h rfl
 split
 · split
   · exact h1 _ _ h rfl
   split
   · exact h1 _ _ hd rfl
   · exact hd
 split
 · split
   · exact h1 _ _ h rfl
   split
   · split
     · exact h1 _ _ hl rfl
     · exact hl
   · exact h
 · exact h
theorem znX: ∀ (b:Str) (q:Rq) (i:Nat),RqI q i→i+b.length≤1000000→EvO q.out→EvO (qi q b).out
 |[],q,i,_,_,h=>h
 | c::b,q,i,hi,hb,h=>by
   rw [jh] at hb
   exact znX b _ (i+1) (zl8 hi c) (by omega) (zxj h ⟨by have:=hi.fl;omega,fun f m=>by have:=hi.ff f m;omega⟩ c)
end Go.Proofs.YtkjepecoodjbmaaGreatDoor
namespace Go.Proofs.YtkjepecoodjbmaaGreatDoor
open Go Go.Sep Go.Ab
set_option maxRecDepth 100000
theorem zh1: ∀ (b:Str) (q:Rq) (i:Nat),RqI q i→RqI (qi q b) (i+b.length)
 |[],q,i,h=>h
 | c::b,q,i,h=>by
   have:=zh1 b _ _ (zl8 h c)
   rw [jh,show i+(b.length+1)=i+1+b.length by omega];exact this
theorem zfy: ∀ (b:Str) (q:Rq),zI (qi q b).out≤zI q.out+b.length
 |[],q=>jL _
 | c::b,q=>by
   have h1:=zfy b (rqF q c);have h2:=zaJ q c;rw [jh];have:qi q (c::b)=qi (rqF q c) b:=rfl;rw [this];omega
end Go.Proofs.YtkjepecoodjbmaaGreatDoor
namespace Go.Proofs.YtkjepecoodjbmaaGreatDoor
open Go Go.Sep Go.Ab
set_option maxRecDepth 100000
end Go.Proofs.YtkjepecoodjbmaaGreatDoor
namespace Go.Proofs.YtkjepecoodjbmaaGreatDoor
open Go Go.Sep Go.Ab
set_option maxRecDepth 100000
end Go.Proofs.YtkjepecoodjbmaaGreatDoor
namespace Go.Proofs.YtkjepecoodjbmaaGreatDoor
open Go Go.Sep Go.Ab
set_option maxRecDepth 100000
end Go.Proofs.YtkjepecoodjbmaaGreatDoor
namespace Go.Proofs.YtkjepecoodjbmaaGreatDoor
open Go Go.Sep Go.Ab
def SOk (q:Sto) (m:Int):Prop:=zK q.l q.n∧q.b.length≤100000∧q.n≤m∧0≤q.s∧q.s≤q.b.length
theorem xC {q:Sto} {m m':Int} (h:SOk q m) (k:m≤m'):SOk q m':=⟨h.1,h.2.1,by have:=h.2.2.1;omega,h.2.2.2⟩
theorem ztX (l:List Upl) (n:Int) (b:Str) (e:Ent):b.length≤(wrtB l n b e).length:=by unfold wrtB;split<;>simp
theorem zfk {q:Sto} {m:Int} (h:SOk q m) (e:Ent):SOk (wsS q e) (m+1):=by
 obtain⟨h1,h2,h3,h4,h5⟩:=h;have:=ztw q e;have hb:=ztX q.l q.n q.b e
 exact⟨zah h1 _ _,Zm _ h2,by omega,h4,by show q.s≤((wrtB q.l q.n q.b e).length:Int);omega⟩
theorem Yg {q:Sto} {m:Int} (h:SOk q m) {e:Ent} (he:e.kind≠1):SOk (wsS q e) m:=by
 have h1:=zfk h e;have:(wsS q e).n=q.n:=Zc he
 exact⟨h1.1,h1.2.1,by rw [this];exact h.2.2.1,h1.2.2.2⟩
theorem TR {q:Sto} {m:Int} (h:SOk q m):SOk (syS q) m:=⟨h.1,h.2.1,h.2.2.1,Int.natCast_nonneg _,Int.le_refl _⟩
theorem zjB {m:Int} {c:Prop} [Decidable c] {a b:TA} (ha:SOk a.q m) (hb:SOk b.q m):SOk (if c then a else b).q m:=by split<;>assumption
theorem zfl {q:Sto} {k:Int} (h:SOk q k) (m t:Str) (f:List Fld) (body:Str):SOk (yC q m t f body).q (k+1):=by
 have h0:SOk q (k+1):=xC h (by omega)
 have hc:SOk (xX q f).q (k+1):=by
  unfold xX
  repeat' with_reducible refine zjB ?_ ?_
  all_goals first|exact h0|exact TR (zfk h _)
 have hd: ∀ u,SOk (Um q u).q (k+1):=fun u=>by
  unfold Um
  exact zjB h0 (TR (Yg h0 (by simp)))
 have hp: ∀ u,SOk (vG q u f body).q (k+1):=fun u=>by
  unfold vG
  have h1:SOk (wsS q (apE u.id body)) (k+1):=Yg h0 (by simp [apE])
  have h2: ∀ z,SOk (wsS (wsS q (apE u.id body)) ⟨3,u.id,z,[]⟩) (k+1):=fun z=>Yg h1 (by simp)
  repeat' with_reducible refine zjB ?_ ?_
  all_goals first|exact h0|exact h1|exact TR h1|exact TR (h2 _)|exact h2 _
 unfold yC
 repeat' with_reducible refine zjB ?_ ?_
 all_goals first|exact h0|exact hc|exact hd _|exact hp _
theorem zjC {q:Sto} {m:Int} (h:SOk q m) (p:Prt):SOk (sO q p) (m+1):=by
 have hap: ∀ {x:Sto} {k:Int},SOk x k→SOk (apQ x (q.n+1) 0 p.bytes) k:=fun h=>by
  unfold apQ
  split
  · exact h
  · exact Yg h (show(2:Int)≠1 by decide)
 unfold sO
 split
 · exact zfk h _
 · split
   · exact Yg (hap (zfk h _)) (show(4:Int)≠1 by decide)
   · exact hap (zfk h _)
theorem zfm: ∀ (ids:List Int) {q:Sto} {m:Int},SOk q m→SOk (XL q ids) m
 |[],_,_,h=>h
 |k::r,_,_,h=>zfm r (Yg h (show(4:Int)≠1 by decide))
theorem zaB: ∀ (ps:List Prt) {q:Sto} {m:Int} (ids:List Int) (t:Str),SOk q m→SOk (ul q ids t ps).q (m+ps.length)
 |[],q,m,ids,t,h=>xC (TR h) (by simp)
 | p ::r,q,m,ids,t,h=>by
   unfold ul
   split
   · exact xC (zaB r ids t h) (by simp;omega)
   · split
     · exact xC (TR (zfm ids (zjC h p))) (by simp;omega)
     · exact xC (zaB r _ _ (zjC h p)) (by simp;omega)
theorem zuf {q:Sto} {k:Int} (h:SOk q k) (m t:Str) (f:List Fld) (body:Str):SOk (ansG q m t f body).q (k+12):=by
 have h0:SOk q (k+12):=xC h (by omega)
 have hp:=(Yo f body).1;unfold ansG
 split
 · exact xC (zfl h m t f body) (by omega)
 · split
   · exact h0
   · split
     · exact h0
     · unfold X8
       split
       · exact h0
       · split
         · exact h0
         · exact xC (zaB _ _ _ h) (by omega)
def k3 (e:Evt):Bool:=decide (e.kind=3)
def cnt3 (l:List Evt):Nat:=(l.filter k3).length
theorem ZN (a b:List Evt):cnt3 (a++b)=cnt3 a+cnt3 b:=by unfold cnt3;simp
theorem Ui (x:GE) (a b:List Evt):evsG x (a++b)=evsG (evsG x a) b:=List.foldl_append
def EOk (x:GE) (m:Int) (k:Nat):Prop:=SOk x.q m∧FsOk x.h.fields∧x.b.length≤k
theorem ztO {x:GE} {m:Int} {k:Nat} (h:EOk x m k) {e:Evt} (he:FsOk e.head.fields):EOk (evG x e) (m+12 * cnt3 [e]) (k+e.bytes.length):=by
 obtain⟨h1,h2,h3⟩:=h
 have hm:SOk x.q (m+12 * cnt3 [e]):=xC h1 (by omega)
 unfold evG
 split
 · exact⟨hm,he,jM _⟩
 · split
   · exact⟨hm,h2,by simp only [jk];omega⟩
   · split
     · rename_i hk
       have:cnt3 [e]=1:=by simp [cnt3,k3,hk]
       rw [this]
       exact⟨zuf h1 _ _ _ _,h2,by simp only;omega⟩
     · split
       · exact⟨hm,h2,by simp only;omega⟩
       · exact⟨hm,h2,by omega⟩
theorem ziG: ∀ (l:List Evt) {x:GE} {m:Int} {k:Nat},EOk x m k→EvO l→EOk (evsG x l) (m+12 * cnt3 l) (k+zI l)
 |[],x,m,k,h,_=>by show EOk x (m+12 * ((0:Nat):Int)) (k+0);simpa using h
 | e::l,x,m,k,h,ho=>by
   have h1:=ziG l (ztO h (ho e List.mem_cons_self)) fun y hy=>ho y (List.mem_cons_of_mem _ hy);have e1:cnt3 (e::l)=cnt3 [e]+cnt3 l:=ZN [e] l
   have e2:zI (e::l)=e.bytes.length+zI l:=by simp [zI]
   rw [e1,e2,show m+12 * ((cnt3 [e]+cnt3 l:Nat):Int)=m+12 * (cnt3 [e]:Int)+12 * (cnt3 l:Int) by omega,← Nat.add_assoc]
   exact h1
theorem zse (o:List Evt) (e:Evt):(uS o e).filter k3=o.filter k3++[e].filter k3:=by
 rcases List.eq_nil_or_concat o with rfl|⟨z,x,rfl⟩
 · rfl
 · rw [List.concat_eq_append,xU]
   split
   · rename_i h
     simp [k3,h.1,h.2,evB]
   · rw [List.filter_append]
theorem zkE: ∀ (l o:List Evt),(l.foldl uS o).filter k3=o.filter k3++l.filter k3
 |[],o=>by simp
 |e::l,o=>by rw [List.foldl_cons,zkE l,zse,jo,← List.filter_append];rfl
theorem zqs (l:List Evt):cnt3 (zZ l)=cnt3 l:=congrArg List.length (zkE l [])
theorem zeO (e:Evt) (h:e.kind≠3):cnt3 [e]=0:=by simp [cnt3,k3,h]
theorem zxk (q:Rq) (c:UInt8):cnt3 (rqF q c).out≤cnt3 q.out+1:=by
 have hb: ∀ (o:List Evt) (s:Str),cnt3 (o++[evB s])=cnt3 o:=fun o s=>by rw [ZN,zeO _ (show(2:Int)≠3 by decide)];rfl
 have hh: ∀ (o:List Evt) (s:Hd),cnt3 (o++[evH s])=cnt3 o:=fun o s=>by rw [ZN,zeO _ (show(1:Int)≠3 by decide)];rfl
 have hf: ∀ (o:List Evt) (s:Int),cnt3 (o++[evF s])=cnt3 o:=fun o s=>by rw [ZN,zeO _ (show(4:Int)≠3 by decide)];rfl
 have he: ∀ (o:List Evt),cnt3 (o++[evE])=cnt3 o+1:=fun o=>by rw [ZN];rfl
 have hd: ∀ q:Rq,cnt3 (yR q).1.out≤cnt3 q.out+1:=fun q=>by
  unfold yR qj
  repeat' split
  all_goals first|omega|(simp only [hb,hh,hf,he];omega)
 have hl: ∀ (q:Rq) (s:Str),cnt3 (zW q s).1.out≤cnt3 q.out+1:=fun q s=>by
  have:=hd q;unfold zW
  repeat' split
  all_goals first|exact this|(simp only;omega)
 have hL:=hl { q with ln:=(lnF q.ln c).1} (lnF q.ln c).2.1
 simp only at hL;unfold rqF qj vT
 repeat' split
 all_goals first|omega|(simp only [hb,hh,hf,he];omega)
theorem znY: ∀ (b:Str) (q:Rq),cnt3 (qi q b).out≤cnt3 q.out+b.length
 |[],q=>jL _
 | c::b,q=>by
   have h1:=znY b (rqF q c);have h2:=zxk q c;have:qi q (c::b)=qi (rqF q c) b:=rfl;rw [this,jh];omega
def mayW (w:Bool):List Evt→Prop
 |[]=>True
 |e::l=>(e.kind=2→w=true)∧mayW (if e.kind=1 then true else if e.kind=3 then false else w) l
def behW (w:Bool) (l:List Evt):Bool:=l.foldl (fun w e=>if e.kind=1 then true else if e.kind=3 then false else w) w
theorem UG (w:Bool) (a b:List Evt):behW w (a++b)=behW (behW w a) b:=List.foldl_append
theorem qF: ∀ (a b:List Evt) (w:Bool),mayW w (a++b)↔mayW w a∧mayW (behW w a) b
 |[],b,w=>by simp [mayW,behW]
 | e::a,b,w=>by
   simp only [List.cons_append,mayW,qF a b];exact and_assoc.symm
theorem ztM (x:GE) (l:List Evt):(evsG x l).w=behW x.w l:=by
 induction l generalizing x with
 |nil=>rfl
 | cons e l ih=>
   show(evsG (evG x e) l).w=_
   rw [ih]
   have:(evG x e).w=(if e.kind=1 then true else if e.kind=3 then false else x.w):=by
    unfold evG
    repeat' split
    all_goals first|rfl|(exfalso;omega)|simp_all
   rw [this];rfl
def MW (w:Bool) (q:Rq):Prop:=mayW w q.out∧(q.pos=2∨q.pos=3→behW w q.out=true)
theorem zkr {w:Bool} {o:List Evt} (h:mayW w o) {e:Evt} (he:e.kind≠2):mayW w (o++[e]):=(qF _ _ _).2 ⟨h,fun k=>absurd k he,jb⟩
theorem zo0 {w:Bool} {o:List Evt} (h:mayW w o) (k:behW w o=true) (s:Str):mayW w (o++[evB s])∧behW w (o++[evB s])=true:=⟨(qF _ _ _).2 ⟨h,fun _=>k,jb⟩,by rw [UG,k];rfl⟩
theorem zlH (w:Bool) (o:List Evt) (h:Hd):behW w (o++[evH h])=true:=by rw [UG];rfl
theorem zuE {w:Bool} {q:Rq} (h:mayW w q.out) (hp:q.pos=0∨q.pos=1):MW w (yR q).1:=by
 have hh: ∀ d,mayW w (q.out++[evH d]):=fun d=>zkr h (show(1:Int)≠2 by decide)
 have h0: ¬ (q.pos=2∨q.pos=3):=by omega
 unfold yR qj
 repeat' split
 · exact⟨h,fun k=>absurd k h0⟩
 · exact⟨h,fun k=>absurd k h0⟩
 · exact⟨zkr (hh _) (show(3:Int)≠2 by decide),fun k=>absurd (show(0:Int)=2∨(0:Int)=3 from k) (by decide)⟩
 · exact⟨hh _,fun _=>zlH _ _ _⟩
 · exact⟨hh _,fun _=>zlH _ _ _⟩
theorem zuD {w:Bool} {q:Rq} (h:mayW w q.out) (hp:q.pos=0∨q.pos=1) (s:Str):MW w (zW q s).1:=by
 have h0: ¬ (q.pos=2∨q.pos=3):=by omega
 unfold zW
 split
 · split
   · exact⟨h,fun k=>absurd k h0⟩
   · split
     · exact⟨h,fun k=>absurd (show(1:Int)=2∨(1:Int)=3 from k) (by decide)⟩
     · split
       · exact⟨h,fun k=>absurd k h0⟩
       · exact⟨h,fun k=>absurd k h0⟩
 · split
   · exact zuE h hp
   · split
     · exact⟨h,fun k=>absurd k h0⟩
     · exact⟨h,fun k=>absurd k h0⟩
theorem zib {w:Bool} {q:Rq} (h:mayW w q.out) (c:Int):MW w (vT q c):=⟨zkr h (show(4:Int)≠2 by decide),fun k=>absurd (show(4:Int)=2∨(4:Int)=3 from k) (by decide)⟩
theorem ztu {w:Bool} {q:Rq} (h:mayW w q.out):MW w (qj q):=⟨zkr h (show(3:Int)≠2 by decide),fun k=>absurd (show(0:Int)=2∨(0:Int)=3 from k) (by decide)⟩
theorem mw_f {w:Bool} {q:Rq} (h:MW w q) (c:UInt8):MW w (rqF q c):=by
 unfold rqF
 split
 · rename_i hp
   have hb:=zo0 h.1 (h.2 (.inl hp)) [c]
   split
   · exact ztu hb.1
   · exact⟨hb.1,fun _=>hb.2⟩
 · split
   · rename_i hp
     have hk:=h.2 (.inr hp);have hb:=zo0 h.1 hk (chF (ckOf q) c).2.1
     have hd:mayW w (if(chF (ckOf q) c).2.1≠[] then q.out++[evB (chF (ckOf q) c).2.1] else q.out)∧behW w (if(chF (ckOf q) c).2.1≠[] then q.out++[evB (chF (ckOf q) c).2.1] else q.out)=true:=by
      split
      · exact hb
      · exact⟨h.1,hk⟩
     split
     · exact zib h.1 _
     · split
       · exact ztu hd.1
       · exact⟨hd.1,fun _=>hd.2⟩
   · split
     · rename_i hp
       split
       · exact zib h.1 _
       · split
         · have hl:=zuD (q:= { q with ln:=(lnF q.ln c).1}) h.1 hp (lnF q.ln c).2.1
           split
           · exact zib hl.1 _
           · exact hl
         · exact h
     · exact h
theorem ztt {w:Bool}: ∀ (b:Str) {q:Rq},MW w q→MW w (qi q b)
 |[],_,h=>h
 |c::b,_,h=>ztt b (mw_f h c)
theorem zr7 {w:Bool} {o:List Evt} {e:Evt} (h:mayW w (o++[e])):mayW w (uS o e)∧behW w (uS o e)=behW w (o++[e]):=by
 rcases List.eq_nil_or_concat o with rfl|⟨z,x,rfl⟩
 · exact⟨h,rfl⟩
 · rw [List.concat_eq_append] at h ⊢
   rw [xU]
   split
   · rename_i hk
     have h1:=(qF _ _ _).1 h;have h2:=(qF _ _ _).1 h1.1;refine⟨(qF _ _ _).2 ⟨h2.1,fun _=>h2.2.1 hk.2,jb⟩,?_⟩;simp only [UG]
     simp [behW,evB,hk.1,hk.2]
   · exact⟨h,rfl⟩
theorem zks {w:Bool}: ∀ (l o:List Evt),mayW w (o++l)→mayW w (l.foldl uS o)∧behW w (l.foldl uS o)=behW w (o++l)
 |[],o,h=>by rw [List.append_nil] at h ⊢;exact⟨h,rfl⟩
 | e::l,o,h=>by
   have e1:o++e::l=(o++[e])++l:=by simp
   rw [e1] at h ⊢;have h1:=(qF _ _ _).1 h;have h2:=zr7 h1.1
   have h3:=zks l (uS o e) ((qF _ _ _).2 ⟨h2.1,by rw [h2.2];exact h1.2⟩)
   exact⟨h3.1,by rw [List.foldl_cons,h3.2,UG,h2.2,← UG]⟩
theorem zo3: ∀ {l:List Evt} {w:Bool} (_:mayW w l) {i:Nat} (hi:i<l.length),l[i].kind=2→behW w (l.take i)=true
 |e::l,w,h,0,_,k=>h.1 k
 |e::l,w,h,i+1,hi,k=>zo3 (l:=l) h.2 (by simpa using hi) k
def CnI (c:Cn) (k:Nat):Prop:=RqI { c.q with out:=[]} k∧FsOk c.h.fields∧c.body.length≤k∧(c.q.pos=2∨c.q.pos=3→c.own=true)
theorem zbY:CnI cn0 0:=⟨zxi,QK,jL _,fun _=>rfl⟩
theorem uh {c:Cn} {k k':Nat} (h:CnI c k) (hk:k≤k'):CnI c k':=⟨zjZ h.1 hk,h.2.1,Nat.le_trans h.2.2.1 hk,h.2.2.2⟩
theorem zpU {c:Cn} {k:Nat} (h:CnI c k) {b:Str} (hb:k+b.length≤1000000):EvO (zZ (zF c.q b).out)∧zI (zZ (zF c.q b).out)≤b.length∧cnt3 (zZ (zF c.q b).out)≤b.length∧(zZ (zF c.q b).out).length≤4 * (k+b.length):=by
 have h1:EvO (zF c.q b).out:=znX b _ k h.1 hb (fun e m=>by cases m)
 have h2:zI (zF c.q b).out≤0+b.length:=zfy b _;have h3:=za4 (zF c.q b).out;have h4:cnt3 (zF c.q b).out≤0+b.length:=znY b _;have h5:(zF c.q b).out.length≤4 * (k+b.length):=(zh1 b _ k h.1).on;have h6:=za5 (zF c.q b).out
 exact⟨zlf _ [] h1,by omega,by rw [zqs];omega,by omega⟩
theorem ztK {c:Cn} {k:Nat} (h:CnI c k) (b:Str):mayW c.own (zZ (zF c.q b).out)∧((zF c.q b).pos=2∨(zF c.q b).pos=3→behW c.own (zZ (zF c.q b).out)=true):=by
 have h1:MW c.own (zF c.q b):=ztt b ⟨jb,h.2.2.2⟩;have h2:=zks (zF c.q b).out [] h1.1;exact⟨h2.1,fun k=>h2.2.trans (h1.2 k)⟩
theorem zwF {q:Sto} {m:Int} {c:Cn} {k:Nat} (hq:SOk q m) (h:CnI c k) {b:Str} (hb:k+b.length≤1000000):SOk (fedE q c b).q (m+12 * b.length)∧CnI (fedC q c b) (k+b.length):=by
 obtain⟨h1,h2,h3,h4⟩:=zpU h hb;have h5:=ziG _ (x:=⟨q,c.h,c.body,c.live,c.own,[]⟩) ⟨hq,h.2.1,h.2.2.1⟩ h1
 refine⟨xC h5.1 (by omega),zn3 (zh1 b _ k h.1) (by simp),h5.2.1,?_,fun kp=> ?_⟩
 · have:=h5.2.2
   show(fedE q c b).b.length≤_
   unfold fedE;omega
 · exact(ztM _ _).trans ((ztK h b).2 kp)
end Go.Proofs.YtkjepecoodjbmaaGreatDoor
namespace Go.Proofs.YtkjepecoodjbmaaGreatDoor
open Go Go.Sep Go.Ab
set_option maxRecDepth 100000
def V4 (I:Alg) (args:List D) (hp:List HO):Option CT:=match args,hp with
 |[.v (.agg [(.p (.int .i64 st)),(.p (.list .fld fs)),(.p (.list .byte b))])],[]=>(fun(st:Int) (fs:List Fld) (b:Str)=>(some (.one ⟨I.hid ((fs.length≤100∧∀ f ∈ fs,f.name.length≤1000000∧f.value.length≤1000000)∧b.length≤9000),(.ret (.v (.one (.p (.list .byte (I.hid ((writeT st fs b)))))))),[]⟩):Option CT)) st fs b
 |_,_=>none
theorem zgF:zx Tryz.prog 82 (V4 alg):=by
 intro args hp r h;unfold V4 at h;split at h<;>cases h
 rename_i st fs b
 revert fs;intro(fs:List Fld)
 simp only [CT.Good,zi];intro hneed
 refine spcG zh mixed Tryz.func82 (by kernel_rfl) { cfgG with rl:=[0],keep:=some [0,1,2,3]} [zow,zov] (by kernel_rfl) ?_
 intro I X hI hX
 refine orcL ?_;go_invoke;refine orcS (by kernel_rfl) ?_
 simp only [zq,Nat.reduceAdd];subst hI;simp only [nrmA,nrmB,nrlB,reduceCtorEq,V0.agg.injEq];exact hneed
def V3:Know Tryz.prog:=⟨82,V4,zgF⟩
def VZ:Know Tryz.prog:=⟨82,fun I=>zy I (V4 I),zf zgF⟩
def QF (I:Alg) (args:List D) (hp:List HO):Option CT:=match args,hp with
 |[.v (.one (.p (.str t)))],[]=>(fun(t:Str)=>(some (.one ⟨I.hid (True),(.ret (.v (.one (.p (.bool (I.hid ((zec t)))))))),[]⟩):Option CT)) t
 |_,_=>none
theorem zkN:zx Tryz.prog 124 (QF alg):=by
 intro args hp r h;unfold QF at h;split at h<;>cases h
 rename_i t;simp only [CT.Good,zi];intro _;generalize hr:zec t=r;unfold zec at hr
 refine spcG zh mixed Tryz.func124 (by kernel_rfl) { cfgT with keep:=some [0,2]} [yL,yK,zq7,zq6] (by kernel_rfl) ?_
 intro I X hI hX
 refine orcL ?_;go_invoke;refine orcS (by kernel_rfl) ?_
 simp only [zq,Nat.reduceAdd];subst hI;rw [show([47,102,105,108,101,115]:Str)=rX from rfl]
 try rw [show([47,102,105,108,101,115,47]:Str)=xh from rfl]
 simp only [nrmA,nrmB,nrlB,reduceCtorEq,V0.agg.injEq]
 by_cases h1:t=rX
 · rw [decide_eq_true h1,Bool.true_or] at hr
   subst hr;simp only [nrmA,nrmB,nrlB,reduceCtorEq,h1];exact⟨fun _=>jb,fun h=>h.elim⟩
 · rw [decide_eq_false h1,Bool.false_or] at hr
   simp only [nrmA,nrmB,nrlB,reduceCtorEq,h1]
   exact⟨fun h=>h.elim,fun _=>by simpa using hr⟩
def zsp:Know Tryz.prog:=⟨124,QF,zkN⟩
def zso:Know Tryz.prog:=⟨124,fun I=>zy I (QF I),zf zkN⟩
theorem zdg: ∀ (ps:List Prt) (q:Sto) (ids:List Int) (t:Str),(∀ p ∈ ps,p.file.length≤40)→(ul q ids t ps).r.body.length≤t.length+60 * ps.length
 |[],_,_,_,_=>Nat.le_add_right _ _
 | p :: r,q,ids,t,h=>by
   have h1:=fun q ids t=>zdg r q ids t fun x hx=>h x (List.mem_cons_of_mem _ hx);have h2:=h p List.mem_cons_self;have h3:=vz (q.n+1);unfold ul
   split
   · have:=h1 q ids t;simp only [jh];omega
   · split
     · simp [sV]
     · have:=h1 (sO q p) (ids++[q.n+1]) (zlS t (q.n+1) p)
       have e:(zlS t (q.n+1) p).length≤t.length+60:=by
        unfold zlS;simp only [jk,jh,ji];omega
       simp only [jh];omega
def FF (l:List Fld):Prop:=∀ x ∈ l,x.name.length≤1000000∧x.value.length≤1000000
theorem zsG {c:Prop} [Decidable c] {a b:TA} (ha:FF a.fs) (hb:FF b.fs):FF (if c then a else b).fs:=by split<;>assumption
theorem Zl:FF []:=fun x h=>by cases h
theorem uJ {a b:Str} {l:List Fld} (h1:a.length≤1000000) (h2:b.length≤1000000) (h:FF l):FF (⟨a,b⟩::l):=fun y hy=>by
 rcases List.mem_cons.1 hy with rfl|hy
 · exact⟨h1,h2⟩
 · exact h y hy
theorem zeH (n:Int):(decS n).length≤1000000:=by have:=vz n;omega
theorem znF {q:Sto} (h:zK q.l q.n) (m t:Str) (f:List Fld) (body:Str):FF (yC q m t f body).fs:=by
 have hc:FF (xX q f).fs:=by
  unfold xX
  repeat' with_reducible refine zsG ?_ ?_
  all_goals first
   |exact Zl
   |exact uJ (by decide) (by have:=vz (q.n+1);simp only [jk,xh,jh,ji];omega) Zl
 have hd: ∀ u,FF (Um q u).fs:=fun u=>by
  unfold Um;exact zsG Zl Zl
 have hp: ∀ u,FF (vG q u f body).fs:=fun u=>by
  unfold vG
  repeat' with_reducible refine zsG ?_ ?_
  all_goals first
   |exact Zl
   |exact uJ (by decide) (zeH _) Zl
 have ht: ∀ u:Upl,u.note.length≤1000000→FF (zbN u):=fun u hu=>by
  unfold zbN lenF
  refine uJ (by decide) (zeH _) ?_
  split
  · refine uJ (by decide) (by decide) (uJ (by decide) (by decide) ?_)
    split
    · exact Zl
    · exact uJ (by decide) hu Zl
  · refine uJ (by decide) (zeH _) (uJ (by decide) (by decide) ?_)
    split
    · exact Zl
    · exact uJ (by decide) hu Zl
 have hg: ∀ id,(getU q.l id).note.length≤1000000:=fun id=>by
  unfold getU
  split
  · rename_i hk
    have:=(h.each _ (vF hk)).nl;unfold yx at this
    exact Nat.le_trans this (by decide)
  · exact jM _
 unfold yC
 repeat' with_reducible refine zsG ?_ ?_
 all_goals first
  |exact Zl
  |exact hc
  |exact hd _
  |exact hp _
  |exact ht _ (hg _)
  |exact uJ (by decide) (by decide) Zl
  |exact uJ (by decide) (by decide) (uJ (by decide) (zeH _) (uJ (by decide) (by decide) Zl))
def ROk (r:Rpl):Prop:=(r.fields.length≤100∧∀ f ∈ r.fields,f.name.length≤1000000∧f.value.length≤1000000)∧r.body.length≤9000
theorem zj7 (st:Int) (b:Str) (h:b.length≤9000):ROk ⟨st,[],b⟩:=⟨⟨jM _,fun f h=>by cases h⟩,h⟩
theorem zbH {q:Sto} (h:zK q.l q.n) {m t:Str} {f:List Fld} (hf:FOk f) (body:Str):ROk (ansG q m t f body).r:=by
 have h0: ∀ st,ROk (sV st):=fun st=>zj7 st [] (by decide)
 have hs:=Yo f body;unfold ansG
 split
 · refine⟨⟨?_,fun x hx=> ?_⟩,jM _⟩
   · show(resT::(yC q m t f body).fs).length≤100
     have:=zce q m t f body;simp only [jh];omega
   · rcases List.mem_cons.1 (show x ∈ resT::(yC q m t f body).fs from hx) with rfl|hx
     · exact⟨by decide,by decide⟩
     · exact znF h m t f body x hx
 · split
   · exact h0 _
   · split
     · exact h0 _
     · unfold X8
       split
       · exact h0 _
       · split
         · exact h0 _
         · have:=zdg (qE f body).1 q [] [] hs.2.1
           refine⟨⟨by rw [Ue];decide,fun x hx=>by rw [Ue] at hx;cases hx⟩,?_⟩
           simp only [ji] at this;omega
def Xq (I:Alg) (args:List D) (hp:List HO):Option CT:=match args,hp with
 |[.v (.one (.ptr 0 0)),.v (.agg [(.p (.str m)),(.p (.str t)),(.p (.int .i64 mi)),(.p (.list .fld f)),(.p (.int .i64 le))]),.v (.one (.p (.list .byte body)))],[.obj 50 [(.ptr 1 0),(.ptr 2 0),(.ptr 3 0),(.ptr 4 0),(.ptr 5 0)],.pack [.obj 54 [(.ptr 1 0),(.ptr 2 0)],.pack [.obj 124 [(.row 1),(.p (.int .i64 n))],.row .upl 81 l],.pack [.obj 156 [(.row 1),(.p (.int .i64 s))],.row .byte 5 b]],.abs (.cn c0),.abs (.cn c1),.abs (.cn c2),.abs (.cn c3)]=>(fun(l:List Upl) (n:Int) (b:Str) (s:Int) (c0 c1 c2 c3:Cn) (m t:Str) (mi:Int) (f:List Fld) (le:Int) (body:Str)=>(some (.one ⟨I.hid (FOk f∧zK l n∧n≤200000 - 20∧b.length≤100000∧body.length≤30000),(.ret (.v (.agg [(.p (.int .i64 (I.hid ((ansG ⟨l,n,b,s⟩ m t f body).r.status)))),(.p (.list .fld (I.hid ((ansG ⟨l,n,b,s⟩ m t f body).r.fields)))),(.p (.list .byte (I.hid ((ansG ⟨l,n,b,s⟩ m t f body).r.body))))]))),[.obj 50 [(.ptr 1 0),(.ptr 2 0),(.ptr 3 0),(.ptr 4 0),(.ptr 5 0)],.pack [.obj 54 [(.ptr 1 0),(.ptr 2 0)],.pack [.obj 124 [(.row 1),(.p (.int .i64 (I.hid ((ansG ⟨l,n,b,s⟩ m t f body).q.n))))],.row .upl 81 (I.hid ((ansG ⟨l,n,b,s⟩ m t f body).q.l))],.pack [.obj 156 [(.row 1),(.p (.int .i64 (I.hid ((ansG ⟨l,n,b,s⟩ m t f body).q.s))))],.row .byte 5 (I.hid ((ansG ⟨l,n,b,s⟩ m t f body).q.b))]],.abs (.cn c0),.abs (.cn c1),.abs (.cn c2),.abs (.cn c3)]⟩):Option CT)) l n b s c0 c1 c2 c3 m t mi f le body
 |_,_=>none
set_option maxHeartbeats 1000000 in
theorem zcV:zx Tryz.prog 83 (Xq alg):=by
 intro args hp r h;unfold Xq at h;split at h<;>cases h
 rename_i m t mi f le body n l s b c0 c1 c2 c3
 revert f l;intro(f:List Fld) (l:List Upl)
 simp only [CT.Good,zi];intro hneed;obtain⟨hf,hs,hn,hb,hbo⟩:=hneed;generalize hr:ansG ⟨l,n,b,s⟩ m t f body=r;obtain⟨⟨st,fs,bd⟩,⟨l',n',b',s'⟩⟩:=r
 have hff:(X8 ⟨l,n,b,s⟩ f body).r.fields=[]:=by
  unfold X8
  split
  · rfl
  · split
    · rfl
    · exact Ue _ _ _ _
 unfold ansG rplT sV at hr
 refine spcG zh mixed Tryz.func83 (by kernel_rfl) { cfgG with keep:=some [0,1,2,4,6]} [zb5,zb4,zsp,zso,vY,vX,zsr,zsq] (by kernel_rfl) ?_
 intro I X hI hX
 refine orcL ?_;go_invoke;refine orcS (by kernel_rfl) ?_
 simp only [zq,Nat.reduceAdd];rw [show([47,102,111,114,109]:Str)=zu8 from rfl,show([80,79,83,84]:Str)=zbS from rfl]
 have hh: ∀ {α:Type} (y:α),I.hid y=y:=fun y=>by subst hI;rfl
 simp only [hh];generalize zec t=o at *;generalize yC ⟨l,n,b,s⟩ m t f body=x at *;generalize X8 ⟨l,n,b,s⟩ f body=y at *;obtain⟨x1,x2,⟨x3,x4,x5,x6⟩⟩:=x;obtain⟨⟨y1,y2,y3⟩,⟨y4,y5,y6,y7⟩⟩:=y;subst hI;dsimp only at hff hr ⊢;subst hff;simp only [nrmA,nrmB,nrlB,reduceCtorEq,V0.agg.injEq,HO.pack.injEq,HO.obj.injEq]
 (repeat' (first|refine ja ?_ ?_|intro _))<;>first|omega|exact jb|exact jc ‹False›|skip
 all_goals first
  |omega
  |with_reducible assumption
  |exact jM _
  |exact hf.1
  |(exact(hf.2 _ ‹_›).1)
  |(exact(hf.2 _ ‹_›).2)
  |(((repeat(first|rewrite [if_pos (by first|omega|assumption|(simp only [*,or_self,or_true,true_or,or_false,false_or,jf,jg,jd,je,and_self,and_true,true_and];done)|(simp only [*];omega)|(simp [*];done)|(simp [*];omega))] at hr|rewrite [if_neg (by first|omega|assumption|(simp only [*,or_self,or_true,true_or,or_false,false_or,jf,jg,jd,je,and_self,and_true,true_and];done)|(simp only [*];omega)|(simp [*];done)|(simp [*];omega))] at hr)));simp only [GA.mk.injEq,Rpl.mk.injEq,Sto.mk.injEq] at hr;obtain⟨⟨rfl,rfl,rfl⟩,rfl,rfl,rfl,rfl⟩:=hr;rfl)
def Xp:Know Tryz.prog:=⟨83,Xq,zcV⟩
def Xo:Know Tryz.prog:=⟨83,fun I=>zy I (Xq I),zf zcV⟩
end Go.Proofs.YtkjepecoodjbmaaGreatDoor
namespace Go.Proofs.YtkjepecoodjbmaaGreatDoor
open Go Go.Sep Go.Ab
set_option maxRecDepth 100000
def Xn (I:Alg) (args:List D) (hp:List HO):Option CT:=match args,hp with
 |[.v (.one (.ptr 0 0)),.v (.one (.ptr 2 0)),.v (.agg [(.p (.int .i64 ek)),(.p (.str em)),(.p (.str et)),(.p (.int .i64 ei)),(.p (.list .fld ef)),(.p (.int .i64 en)),(.p (.list .byte eb)),(.p (.str ex)),(.p (.str ey)),(.p (.str ez)),(.p (.nl ew)),(.p (.int .i64 ec))])],[.obj 50 [(.ptr 1 0),(.ptr 2 0),(.ptr 3 0),(.ptr 4 0),(.ptr 5 0)],.pack [.obj 54 [(.ptr 1 0),(.ptr 2 0)],.pack [.obj 124 [(.row 1),(.p (.int .i64 n))],.row .upl 81 l],.pack [.obj 156 [(.row 1),(.p (.int .i64 s))],.row .byte 5 b]],.abs (.cn c0),.abs (.cn c1),.abs (.cn c2),.abs (.cn c3)]=>(fun(l:List Upl) (n:Int) (b:Str) (s:Int) (c0 c1 c2 c3:Cn) (ek:Int) (em et:Str) (ei:Int) (ef:List Fld) (en:Int) (eb ex ey ez ew:Str) (ec:Int)=>(some (.one ⟨I.hid (zK l n∧n≤200000 - 20∧b.length≤100000∧FOk c0.h.fields∧c0.body.length≤30000∧eb.length≤1000000∧(ek=2→c0.own=true)),(.ret (.v (.one (.p (.list .byte (I.hid ((evG ⟨⟨l,n,b,s⟩,c0.h,c0.body,c0.live,c0.own,[]⟩ ⟨ek,⟨em,et,ei,ef,en⟩,eb,⟨ex,ey,ez,ew⟩,ec⟩).o))))))),[.obj 50 [(.ptr 1 0),(.ptr 2 0),(.ptr 3 0),(.ptr 4 0),(.ptr 5 0)],.pack [.obj 54 [(.ptr 1 0),(.ptr 2 0)],.pack [.obj 124 [(.row 1),(.p (.int .i64 (I.hid ((evG ⟨⟨l,n,b,s⟩,c0.h,c0.body,c0.live,c0.own,[]⟩ ⟨ek,⟨em,et,ei,ef,en⟩,eb,⟨ex,ey,ez,ew⟩,ec⟩).q.n))))],.row .upl 81 (I.hid ((evG ⟨⟨l,n,b,s⟩,c0.h,c0.body,c0.live,c0.own,[]⟩ ⟨ek,⟨em,et,ei,ef,en⟩,eb,⟨ex,ey,ez,ew⟩,ec⟩).q.l))],.pack [.obj 156 [(.row 1),(.p (.int .i64 (I.hid ((evG ⟨⟨l,n,b,s⟩,c0.h,c0.body,c0.live,c0.own,[]⟩ ⟨ek,⟨em,et,ei,ef,en⟩,eb,⟨ex,ey,ez,ew⟩,ec⟩).q.s))))],.row .byte 5 (I.hid ((evG ⟨⟨l,n,b,s⟩,c0.h,c0.body,c0.live,c0.own,[]⟩ ⟨ek,⟨em,et,ei,ef,en⟩,eb,⟨ex,ey,ez,ew⟩,ec⟩).q.b))]],.abs (.cn ⟨c0.q,(I.hid ((evG ⟨⟨l,n,b,s⟩,c0.h,c0.body,c0.live,c0.own,[]⟩ ⟨ek,⟨em,et,ei,ef,en⟩,eb,⟨ex,ey,ez,ew⟩,ec⟩).h)),(I.hid ((evG ⟨⟨l,n,b,s⟩,c0.h,c0.body,c0.live,c0.own,[]⟩ ⟨ek,⟨em,et,ei,ef,en⟩,eb,⟨ex,ey,ez,ew⟩,ec⟩).b)),(I.hid ((evG ⟨⟨l,n,b,s⟩,c0.h,c0.body,c0.live,c0.own,[]⟩ ⟨ek,⟨em,et,ei,ef,en⟩,eb,⟨ex,ey,ez,ew⟩,ec⟩).i)),(I.hid ((evG ⟨⟨l,n,b,s⟩,c0.h,c0.body,c0.live,c0.own,[]⟩ ⟨ek,⟨em,et,ei,ef,en⟩,eb,⟨ex,ey,ez,ew⟩,ec⟩).w))⟩),.abs (.cn c1),.abs (.cn c2),.abs (.cn c3)]⟩):Option CT)) l n b s c0 c1 c2 c3 ek em et ei ef en eb ex ey ez ew ec
 |_,_=>none
set_option maxHeartbeats 1000000 in
theorem zcU:zx Tryz.prog 46 (Xn alg):=by
 intro args hp r h;unfold Xn at h;split at h<;>cases h
 rename_i ek em et ei ef en eb ex ey ez ew ec n l s b c0 c1 c2 c3
 revert ef l;intro(ef:List Fld) (l:List Upl)
 simp only [CT.Good,zi];intro hneed;obtain⟨hs,hn,hb,hf,hbo,heb,hw⟩:=hneed;obtain⟨q,⟨m,t,mi,f,le⟩,cb,li,w⟩:=c0;dsimp only at hf hbo hw ⊢;have ha:=zbH (q:=⟨l,n,b,s⟩) hs (m:=m) (t:=t) hf cb;generalize hr:evG ⟨⟨l,n,b,s⟩,⟨m,t,mi,f,le⟩,cb,li,w,[]⟩ ⟨ek,⟨em,et,ei,ef,en⟩,eb,⟨ex,ey,ez,ew⟩,ec⟩=r;obtain⟨⟨l',n',b',s'⟩,⟨m',t',mi',f',le'⟩,cb',li',w',o'⟩:=r;unfold evG zpX sV qP at hr
 refine spcG zh mixed Tryz.func46 (by kernel_rfl) { cfgG with rl:=[0],fz:=[83],keep:=some [0,1,2,5,6,8]} [vY,vX,V3,VZ,Xp,Xo] (by kernel_rfl) ?_
 intro I X hI hX;cases w
 all_goals
  refine orcL ?_;go_invoke;refine orcS (by kernel_rfl) ?_
  simp only [zq,Nat.reduceAdd]
  have hh: ∀ {α:Type} (y:α),I.hid y=y:=fun y=>by subst hI;rfl
  simp only [hh];generalize ansG ⟨l,n,b,s⟩ m t f cb=y at *;obtain⟨⟨y1,y2,y3⟩,⟨y4,y5,y6,y7⟩⟩:=y;subst hI;dsimp only at hr ha ⊢;simp only [nrmA,nrmB,nrlB,reduceCtorEq,V0.agg.injEq,HO.pack.injEq,HO.obj.injEq,HO.abs.injEq,Gh.cn.injEq,Cn.mk.injEq,Hd.mk.injEq]
  (repeat' (first|refine ja ?_ ?_|intro _))<;>first|omega|exact jb|exact jc ‹False›|skip
  all_goals first
   |omega
   |with_reducible assumption
   |exact jM _
   |exact ha.1.1
   |(exact(ha.1.2 _ ‹_›).1)
   |(exact(ha.1.2 _ ‹_›).2)
   |exact ha.2
   |exact hf.1
   |(exact(hf.2 _ ‹_›).1)
   |(exact(hf.2 _ ‹_›).2)
   |(exact(List.not_mem_nil ‹_›).elim)
   |(exact absurd (hw (by with_reducible assumption)) (by decide))
   |(((repeat(first|rewrite [if_pos (by first|omega|assumption|(simp only [*,or_self,or_true,true_or,or_false,false_or,jf,jg,jd,je,and_self,and_true,true_and];done)|(simp only [*];omega)|(simp [*];done)|(simp [*];omega))] at hr|rewrite [if_neg (by first|omega|assumption|(simp only [*,or_self,or_true,true_or,or_false,false_or,jf,jg,jd,je,and_self,and_true,true_and];done)|(simp only [*];omega)|(simp [*];done)|(simp [*];omega))] at hr)));simp only [GE.mk.injEq,Hd.mk.injEq,Sto.mk.injEq,List.nil_append] at hr;obtain⟨⟨rfl,rfl,rfl,rfl⟩,⟨rfl,rfl,rfl,rfl,rfl⟩,rfl,rfl,rfl,rfl⟩:=hr;rfl)
def yw:Know Tryz.prog:=⟨46,Xn,zcU⟩
def yu:Know Tryz.prog:=⟨46,fun I=>zy I (Xn I),zf zcU⟩
def Xm (I:Alg) (args:List D) (hp:List HO):Option CT:=match args,hp with
 |[.v (.one (.ptr 0 0)),.v (.one (.ptr 3 0)),.v (.agg [(.p (.int .i64 ek)),(.p (.str em)),(.p (.str et)),(.p (.int .i64 ei)),(.p (.list .fld ef)),(.p (.int .i64 en)),(.p (.list .byte eb)),(.p (.str ex)),(.p (.str ey)),(.p (.str ez)),(.p (.nl ew)),(.p (.int .i64 ec))])],[.obj 50 [(.ptr 1 0),(.ptr 2 0),(.ptr 3 0),(.ptr 4 0),(.ptr 5 0)],.pack [.obj 54 [(.ptr 1 0),(.ptr 2 0)],.pack [.obj 124 [(.row 1),(.p (.int .i64 n))],.row .upl 81 l],.pack [.obj 156 [(.row 1),(.p (.int .i64 s))],.row .byte 5 b]],.abs (.cn c0),.abs (.cn c1),.abs (.cn c2),.abs (.cn c3)]=>(fun(l:List Upl) (n:Int) (b:Str) (s:Int) (c0 c1 c2 c3:Cn) (ek:Int) (em et:Str) (ei:Int) (ef:List Fld) (en:Int) (eb ex ey ez ew:Str) (ec:Int)=>(some (.one ⟨I.hid (zK l n∧n≤200000 - 20∧b.length≤100000∧FOk c1.h.fields∧c1.body.length≤30000∧eb.length≤1000000∧(ek=2→c1.own=true)),(.ret (.v (.one (.p (.list .byte (I.hid ((evG ⟨⟨l,n,b,s⟩,c1.h,c1.body,c1.live,c1.own,[]⟩ ⟨ek,⟨em,et,ei,ef,en⟩,eb,⟨ex,ey,ez,ew⟩,ec⟩).o))))))),[.obj 50 [(.ptr 1 0),(.ptr 2 0),(.ptr 3 0),(.ptr 4 0),(.ptr 5 0)],.pack [.obj 54 [(.ptr 1 0),(.ptr 2 0)],.pack [.obj 124 [(.row 1),(.p (.int .i64 (I.hid ((evG ⟨⟨l,n,b,s⟩,c1.h,c1.body,c1.live,c1.own,[]⟩ ⟨ek,⟨em,et,ei,ef,en⟩,eb,⟨ex,ey,ez,ew⟩,ec⟩).q.n))))],.row .upl 81 (I.hid ((evG ⟨⟨l,n,b,s⟩,c1.h,c1.body,c1.live,c1.own,[]⟩ ⟨ek,⟨em,et,ei,ef,en⟩,eb,⟨ex,ey,ez,ew⟩,ec⟩).q.l))],.pack [.obj 156 [(.row 1),(.p (.int .i64 (I.hid ((evG ⟨⟨l,n,b,s⟩,c1.h,c1.body,c1.live,c1.own,[]⟩ ⟨ek,⟨em,et,ei,ef,en⟩,eb,⟨ex,ey,ez,ew⟩,ec⟩).q.s))))],.row .byte 5 (I.hid ((evG ⟨⟨l,n,b,s⟩,c1.h,c1.body,c1.live,c1.own,[]⟩ ⟨ek,⟨em,et,ei,ef,en⟩,eb,⟨ex,ey,ez,ew⟩,ec⟩).q.b))]],.abs (.cn c0),.abs (.cn ⟨c1.q,(I.hid ((evG ⟨⟨l,n,b,s⟩,c1.h,c1.body,c1.live,c1.own,[]⟩ ⟨ek,⟨em,et,ei,ef,en⟩,eb,⟨ex,ey,ez,ew⟩,ec⟩).h)),(I.hid ((evG ⟨⟨l,n,b,s⟩,c1.h,c1.body,c1.live,c1.own,[]⟩ ⟨ek,⟨em,et,ei,ef,en⟩,eb,⟨ex,ey,ez,ew⟩,ec⟩).b)),(I.hid ((evG ⟨⟨l,n,b,s⟩,c1.h,c1.body,c1.live,c1.own,[]⟩ ⟨ek,⟨em,et,ei,ef,en⟩,eb,⟨ex,ey,ez,ew⟩,ec⟩).i)),(I.hid ((evG ⟨⟨l,n,b,s⟩,c1.h,c1.body,c1.live,c1.own,[]⟩ ⟨ek,⟨em,et,ei,ef,en⟩,eb,⟨ex,ey,ez,ew⟩,ec⟩).w))⟩),.abs (.cn c2),.abs (.cn c3)]⟩):Option CT)) l n b s c0 c1 c2 c3 ek em et ei ef en eb ex ey ez ew ec
 |_,_=>none
set_option maxHeartbeats 1000000 in
theorem zcT:zx Tryz.prog 46 (Xm alg):=by
 intro args hp r h;unfold Xm at h;split at h<;>cases h
 rename_i ek em et ei ef en eb ex ey ez ew ec n l s b c0 c1 c2 c3
 revert ef l;intro(ef:List Fld) (l:List Upl)
 simp only [CT.Good,zi];intro hneed;obtain⟨hs,hn,hb,hf,hbo,heb,hw⟩:=hneed;obtain⟨q,⟨m,t,mi,f,le⟩,cb,li,w⟩:=c1;dsimp only at hf hbo hw ⊢;have ha:=zbH (q:=⟨l,n,b,s⟩) hs (m:=m) (t:=t) hf cb;generalize hr:evG ⟨⟨l,n,b,s⟩,⟨m,t,mi,f,le⟩,cb,li,w,[]⟩ ⟨ek,⟨em,et,ei,ef,en⟩,eb,⟨ex,ey,ez,ew⟩,ec⟩=r;obtain⟨⟨l',n',b',s'⟩,⟨m',t',mi',f',le'⟩,cb',li',w',o'⟩:=r;unfold evG zpX sV qP at hr
 refine spcG zh mixed Tryz.func46 (by kernel_rfl) { cfgG with rl:=[0],fz:=[83],keep:=some [0,1,2,5,6,8]} [vY,vX,V3,VZ,Xp,Xo,yw,yu] (by kernel_rfl) ?_
 intro I X hI hX;cases w
 all_goals
  refine orcL ?_;go_invoke;refine orcS (by kernel_rfl) ?_
  simp only [zq,Nat.reduceAdd]
  have hh: ∀ {α:Type} (y:α),I.hid y=y:=fun y=>by subst hI;rfl
  simp only [hh];generalize ansG ⟨l,n,b,s⟩ m t f cb=y at *;obtain⟨⟨y1,y2,y3⟩,⟨y4,y5,y6,y7⟩⟩:=y;subst hI;dsimp only at hr ha ⊢;simp only [nrmA,nrmB,nrlB,reduceCtorEq,V0.agg.injEq,HO.pack.injEq,HO.obj.injEq,HO.abs.injEq,Gh.cn.injEq,Cn.mk.injEq,Hd.mk.injEq]
  (repeat' (first|refine ja ?_ ?_|intro _))<;>first|omega|exact jb|exact jc ‹False›|skip
  all_goals first
   |omega
   |with_reducible assumption
   |exact jM _
   |exact ha.1.1
   |(exact(ha.1.2 _ ‹_›).1)
   |(exact(ha.1.2 _ ‹_›).2)
   |exact ha.2
   |exact hf.1
   |(exact(hf.2 _ ‹_›).1)
   |(exact(hf.2 _ ‹_›).2)
   |(exact(List.not_mem_nil ‹_›).elim)
   |(exact absurd (hw (by with_reducible assumption)) (by decide))
   |(((repeat(first|rewrite [if_pos (by first|omega|assumption|(simp only [*,or_self,or_true,true_or,or_false,false_or,jf,jg,jd,je,and_self,and_true,true_and];done)|(simp only [*];omega)|(simp [*];done)|(simp [*];omega))] at hr|rewrite [if_neg (by first|omega|assumption|(simp only [*,or_self,or_true,true_or,or_false,false_or,jf,jg,jd,je,and_self,and_true,true_and];done)|(simp only [*];omega)|(simp [*];done)|(simp [*];omega))] at hr)));simp only [GE.mk.injEq,Hd.mk.injEq,Sto.mk.injEq,List.nil_append] at hr;obtain⟨⟨rfl,rfl,rfl,rfl⟩,⟨rfl,rfl,rfl,rfl,rfl⟩,rfl,rfl,rfl,rfl⟩:=hr;rfl)
def yH:Know Tryz.prog:=⟨46,Xm,zcT⟩
def yG:Know Tryz.prog:=⟨46,fun I=>zy I (Xm I),zf zcT⟩
def Xl (I:Alg) (args:List D) (hp:List HO):Option CT:=match args,hp with
 |[.v (.one (.ptr 0 0)),.v (.one (.ptr 4 0)),.v (.agg [(.p (.int .i64 ek)),(.p (.str em)),(.p (.str et)),(.p (.int .i64 ei)),(.p (.list .fld ef)),(.p (.int .i64 en)),(.p (.list .byte eb)),(.p (.str ex)),(.p (.str ey)),(.p (.str ez)),(.p (.nl ew)),(.p (.int .i64 ec))])],[.obj 50 [(.ptr 1 0),(.ptr 2 0),(.ptr 3 0),(.ptr 4 0),(.ptr 5 0)],.pack [.obj 54 [(.ptr 1 0),(.ptr 2 0)],.pack [.obj 124 [(.row 1),(.p (.int .i64 n))],.row .upl 81 l],.pack [.obj 156 [(.row 1),(.p (.int .i64 s))],.row .byte 5 b]],.abs (.cn c0),.abs (.cn c1),.abs (.cn c2),.abs (.cn c3)]=>(fun(l:List Upl) (n:Int) (b:Str) (s:Int) (c0 c1 c2 c3:Cn) (ek:Int) (em et:Str) (ei:Int) (ef:List Fld) (en:Int) (eb ex ey ez ew:Str) (ec:Int)=>(some (.one ⟨I.hid (zK l n∧n≤200000 - 20∧b.length≤100000∧FOk c2.h.fields∧c2.body.length≤30000∧eb.length≤1000000∧(ek=2→c2.own=true)),(.ret (.v (.one (.p (.list .byte (I.hid ((evG ⟨⟨l,n,b,s⟩,c2.h,c2.body,c2.live,c2.own,[]⟩ ⟨ek,⟨em,et,ei,ef,en⟩,eb,⟨ex,ey,ez,ew⟩,ec⟩).o))))))),[.obj 50 [(.ptr 1 0),(.ptr 2 0),(.ptr 3 0),(.ptr 4 0),(.ptr 5 0)],.pack [.obj 54 [(.ptr 1 0),(.ptr 2 0)],.pack [.obj 124 [(.row 1),(.p (.int .i64 (I.hid ((evG ⟨⟨l,n,b,s⟩,c2.h,c2.body,c2.live,c2.own,[]⟩ ⟨ek,⟨em,et,ei,ef,en⟩,eb,⟨ex,ey,ez,ew⟩,ec⟩).q.n))))],.row .upl 81 (I.hid ((evG ⟨⟨l,n,b,s⟩,c2.h,c2.body,c2.live,c2.own,[]⟩ ⟨ek,⟨em,et,ei,ef,en⟩,eb,⟨ex,ey,ez,ew⟩,ec⟩).q.l))],.pack [.obj 156 [(.row 1),(.p (.int .i64 (I.hid ((evG ⟨⟨l,n,b,s⟩,c2.h,c2.body,c2.live,c2.own,[]⟩ ⟨ek,⟨em,et,ei,ef,en⟩,eb,⟨ex,ey,ez,ew⟩,ec⟩).q.s))))],.row .byte 5 (I.hid ((evG ⟨⟨l,n,b,s⟩,c2.h,c2.body,c2.live,c2.own,[]⟩ ⟨ek,⟨em,et,ei,ef,en⟩,eb,⟨ex,ey,ez,ew⟩,ec⟩).q.b))]],.abs (.cn c0),.abs (.cn c1),.abs (.cn ⟨c2.q,(I.hid ((evG ⟨⟨l,n,b,s⟩,c2.h,c2.body,c2.live,c2.own,[]⟩ ⟨ek,⟨em,et,ei,ef,en⟩,eb,⟨ex,ey,ez,ew⟩,ec⟩).h)),(I.hid ((evG ⟨⟨l,n,b,s⟩,c2.h,c2.body,c2.live,c2.own,[]⟩ ⟨ek,⟨em,et,ei,ef,en⟩,eb,⟨ex,ey,ez,ew⟩,ec⟩).b)),(I.hid ((evG ⟨⟨l,n,b,s⟩,c2.h,c2.body,c2.live,c2.own,[]⟩ ⟨ek,⟨em,et,ei,ef,en⟩,eb,⟨ex,ey,ez,ew⟩,ec⟩).i)),(I.hid ((evG ⟨⟨l,n,b,s⟩,c2.h,c2.body,c2.live,c2.own,[]⟩ ⟨ek,⟨em,et,ei,ef,en⟩,eb,⟨ex,ey,ez,ew⟩,ec⟩).w))⟩),.abs (.cn c3)]⟩):Option CT)) l n b s c0 c1 c2 c3 ek em et ei ef en eb ex ey ez ew ec
 |_,_=>none
set_option maxHeartbeats 1000000 in
theorem zcS:zx Tryz.prog 46 (Xl alg):=by
 intro args hp r h;unfold Xl at h;split at h<;>cases h
 rename_i ek em et ei ef en eb ex ey ez ew ec n l s b c0 c1 c2 c3
 revert ef l;intro(ef:List Fld) (l:List Upl)
 simp only [CT.Good,zi];intro hneed;obtain⟨hs,hn,hb,hf,hbo,heb,hw⟩:=hneed;obtain⟨q,⟨m,t,mi,f,le⟩,cb,li,w⟩:=c2;dsimp only at hf hbo hw ⊢;have ha:=zbH (q:=⟨l,n,b,s⟩) hs (m:=m) (t:=t) hf cb;generalize hr:evG ⟨⟨l,n,b,s⟩,⟨m,t,mi,f,le⟩,cb,li,w,[]⟩ ⟨ek,⟨em,et,ei,ef,en⟩,eb,⟨ex,ey,ez,ew⟩,ec⟩=r;obtain⟨⟨l',n',b',s'⟩,⟨m',t',mi',f',le'⟩,cb',li',w',o'⟩:=r;unfold evG zpX sV qP at hr
 refine spcG zh mixed Tryz.func46 (by kernel_rfl) { cfgG with rl:=[0],fz:=[83],keep:=some [0,1,2,5,6,8]} [vY,vX,V3,VZ,Xp,Xo,yw,yu,yH,yG] (by kernel_rfl) ?_
 intro I X hI hX;cases w
 all_goals
  refine orcL ?_;go_invoke;refine orcS (by kernel_rfl) ?_
  simp only [zq,Nat.reduceAdd]
  have hh: ∀ {α:Type} (y:α),I.hid y=y:=fun y=>by subst hI;rfl
  simp only [hh];generalize ansG ⟨l,n,b,s⟩ m t f cb=y at *;obtain⟨⟨y1,y2,y3⟩,⟨y4,y5,y6,y7⟩⟩:=y;subst hI;dsimp only at hr ha ⊢;simp only [nrmA,nrmB,nrlB,reduceCtorEq,V0.agg.injEq,HO.pack.injEq,HO.obj.injEq,HO.abs.injEq,Gh.cn.injEq,Cn.mk.injEq,Hd.mk.injEq]
  (repeat' (first|refine ja ?_ ?_|intro _))<;>first|omega|exact jb|exact jc ‹False›|skip
  all_goals first
   |omega
   |with_reducible assumption
   |exact jM _
   |exact ha.1.1
   |(exact(ha.1.2 _ ‹_›).1)
   |(exact(ha.1.2 _ ‹_›).2)
   |exact ha.2
   |exact hf.1
   |(exact(hf.2 _ ‹_›).1)
   |(exact(hf.2 _ ‹_›).2)
   |(exact(List.not_mem_nil ‹_›).elim)
   |(exact absurd (hw (by with_reducible assumption)) (by decide))
   |(((repeat(first|rewrite [if_pos (by first|omega|assumption|(simp only [*,or_self,or_true,true_or,or_false,false_or,jf,jg,jd,je,and_self,and_true,true_and];done)|(simp only [*];omega)|(simp [*];done)|(simp [*];omega))] at hr|rewrite [if_neg (by first|omega|assumption|(simp only [*,or_self,or_true,true_or,or_false,false_or,jf,jg,jd,je,and_self,and_true,true_and];done)|(simp only [*];omega)|(simp [*];done)|(simp [*];omega))] at hr)));simp only [GE.mk.injEq,Hd.mk.injEq,Sto.mk.injEq,List.nil_append] at hr;obtain⟨⟨rfl,rfl,rfl,rfl⟩,⟨rfl,rfl,rfl,rfl,rfl⟩,rfl,rfl,rfl,rfl⟩:=hr;rfl)
def yP:Know Tryz.prog:=⟨46,Xl,zcS⟩
def yO:Know Tryz.prog:=⟨46,fun I=>zy I (Xl I),zf zcS⟩
def Xk (I:Alg) (args:List D) (hp:List HO):Option CT:=match args,hp with
 |[.v (.one (.ptr 0 0)),.v (.one (.ptr 5 0)),.v (.agg [(.p (.int .i64 ek)),(.p (.str em)),(.p (.str et)),(.p (.int .i64 ei)),(.p (.list .fld ef)),(.p (.int .i64 en)),(.p (.list .byte eb)),(.p (.str ex)),(.p (.str ey)),(.p (.str ez)),(.p (.nl ew)),(.p (.int .i64 ec))])],[.obj 50 [(.ptr 1 0),(.ptr 2 0),(.ptr 3 0),(.ptr 4 0),(.ptr 5 0)],.pack [.obj 54 [(.ptr 1 0),(.ptr 2 0)],.pack [.obj 124 [(.row 1),(.p (.int .i64 n))],.row .upl 81 l],.pack [.obj 156 [(.row 1),(.p (.int .i64 s))],.row .byte 5 b]],.abs (.cn c0),.abs (.cn c1),.abs (.cn c2),.abs (.cn c3)]=>(fun(l:List Upl) (n:Int) (b:Str) (s:Int) (c0 c1 c2 c3:Cn) (ek:Int) (em et:Str) (ei:Int) (ef:List Fld) (en:Int) (eb ex ey ez ew:Str) (ec:Int)=>(some (.one ⟨I.hid (zK l n∧n≤200000 - 20∧b.length≤100000∧FOk c3.h.fields∧c3.body.length≤30000∧eb.length≤1000000∧(ek=2→c3.own=true)),(.ret (.v (.one (.p (.list .byte (I.hid ((evG ⟨⟨l,n,b,s⟩,c3.h,c3.body,c3.live,c3.own,[]⟩ ⟨ek,⟨em,et,ei,ef,en⟩,eb,⟨ex,ey,ez,ew⟩,ec⟩).o))))))),[.obj 50 [(.ptr 1 0),(.ptr 2 0),(.ptr 3 0),(.ptr 4 0),(.ptr 5 0)],.pack [.obj 54 [(.ptr 1 0),(.ptr 2 0)],.pack [.obj 124 [(.row 1),(.p (.int .i64 (I.hid ((evG ⟨⟨l,n,b,s⟩,c3.h,c3.body,c3.live,c3.own,[]⟩ ⟨ek,⟨em,et,ei,ef,en⟩,eb,⟨ex,ey,ez,ew⟩,ec⟩).q.n))))],.row .upl 81 (I.hid ((evG ⟨⟨l,n,b,s⟩,c3.h,c3.body,c3.live,c3.own,[]⟩ ⟨ek,⟨em,et,ei,ef,en⟩,eb,⟨ex,ey,ez,ew⟩,ec⟩).q.l))],.pack [.obj 156 [(.row 1),(.p (.int .i64 (I.hid ((evG ⟨⟨l,n,b,s⟩,c3.h,c3.body,c3.live,c3.own,[]⟩ ⟨ek,⟨em,et,ei,ef,en⟩,eb,⟨ex,ey,ez,ew⟩,ec⟩).q.s))))],.row .byte 5 (I.hid ((evG ⟨⟨l,n,b,s⟩,c3.h,c3.body,c3.live,c3.own,[]⟩ ⟨ek,⟨em,et,ei,ef,en⟩,eb,⟨ex,ey,ez,ew⟩,ec⟩).q.b))]],.abs (.cn c0),.abs (.cn c1),.abs (.cn c2),.abs (.cn ⟨c3.q,(I.hid ((evG ⟨⟨l,n,b,s⟩,c3.h,c3.body,c3.live,c3.own,[]⟩ ⟨ek,⟨em,et,ei,ef,en⟩,eb,⟨ex,ey,ez,ew⟩,ec⟩).h)),(I.hid ((evG ⟨⟨l,n,b,s⟩,c3.h,c3.body,c3.live,c3.own,[]⟩ ⟨ek,⟨em,et,ei,ef,en⟩,eb,⟨ex,ey,ez,ew⟩,ec⟩).b)),(I.hid ((evG ⟨⟨l,n,b,s⟩,c3.h,c3.body,c3.live,c3.own,[]⟩ ⟨ek,⟨em,et,ei,ef,en⟩,eb,⟨ex,ey,ez,ew⟩,ec⟩).i)),(I.hid ((evG ⟨⟨l,n,b,s⟩,c3.h,c3.body,c3.live,c3.own,[]⟩ ⟨ek,⟨em,et,ei,ef,en⟩,eb,⟨ex,ey,ez,ew⟩,ec⟩).w))⟩)]⟩):Option CT)) l n b s c0 c1 c2 c3 ek em et ei ef en eb ex ey ez ew ec
 |_,_=>none
set_option maxHeartbeats 1000000 in
theorem zcR:zx Tryz.prog 46 (Xk alg):=by
 intro args hp r h;unfold Xk at h;split at h<;>cases h
 rename_i ek em et ei ef en eb ex ey ez ew ec n l s b c0 c1 c2 c3
 revert ef l;intro(ef:List Fld) (l:List Upl)
 simp only [CT.Good,zi];intro hneed;obtain⟨hs,hn,hb,hf,hbo,heb,hw⟩:=hneed;obtain⟨q,⟨m,t,mi,f,le⟩,cb,li,w⟩:=c3;dsimp only at hf hbo hw ⊢;have ha:=zbH (q:=⟨l,n,b,s⟩) hs (m:=m) (t:=t) hf cb;generalize hr:evG ⟨⟨l,n,b,s⟩,⟨m,t,mi,f,le⟩,cb,li,w,[]⟩ ⟨ek,⟨em,et,ei,ef,en⟩,eb,⟨ex,ey,ez,ew⟩,ec⟩=r;obtain⟨⟨l',n',b',s'⟩,⟨m',t',mi',f',le'⟩,cb',li',w',o'⟩:=r;unfold evG zpX sV qP at hr
 refine spcG zh mixed Tryz.func46 (by kernel_rfl) { cfgG with rl:=[0],fz:=[83],keep:=some [0,1,2,5,6,8]} [vY,vX,V3,VZ,Xp,Xo,yw,yu,yH,yG,yP,yO] (by kernel_rfl) ?_
 intro I X hI hX;cases w
 all_goals
  refine orcL ?_;go_invoke;refine orcS (by kernel_rfl) ?_
  simp only [zq,Nat.reduceAdd]
  have hh: ∀ {α:Type} (y:α),I.hid y=y:=fun y=>by subst hI;rfl
  simp only [hh];generalize ansG ⟨l,n,b,s⟩ m t f cb=y at *;obtain⟨⟨y1,y2,y3⟩,⟨y4,y5,y6,y7⟩⟩:=y;subst hI;dsimp only at hr ha ⊢;simp only [nrmA,nrmB,nrlB,reduceCtorEq,V0.agg.injEq,HO.pack.injEq,HO.obj.injEq,HO.abs.injEq,Gh.cn.injEq,Cn.mk.injEq,Hd.mk.injEq]
  (repeat' (first|refine ja ?_ ?_|intro _))<;>first|omega|exact jb|exact jc ‹False›|skip
  all_goals first
   |omega
   |with_reducible assumption
   |exact jM _
   |exact ha.1.1
   |(exact(ha.1.2 _ ‹_›).1)
   |(exact(ha.1.2 _ ‹_›).2)
   |exact ha.2
   |exact hf.1
   |(exact(hf.2 _ ‹_›).1)
   |(exact(hf.2 _ ‹_›).2)
   |(exact(List.not_mem_nil ‹_›).elim)
   |(exact absurd (hw (by with_reducible assumption)) (by decide))
   |(((repeat(first|rewrite [if_pos (by first|omega|assumption|(simp only [*,or_self,or_true,true_or,or_false,false_or,jf,jg,jd,je,and_self,and_true,true_and];done)|(simp only [*];omega)|(simp [*];done)|(simp [*];omega))] at hr|rewrite [if_neg (by first|omega|assumption|(simp only [*,or_self,or_true,true_or,or_false,false_or,jf,jg,jd,je,and_self,and_true,true_and];done)|(simp only [*];omega)|(simp [*];done)|(simp [*];omega))] at hr)));simp only [GE.mk.injEq,Hd.mk.injEq,Sto.mk.injEq,List.nil_append] at hr;obtain⟨⟨rfl,rfl,rfl,rfl⟩,⟨rfl,rfl,rfl,rfl,rfl⟩,rfl,rfl,rfl,rfl⟩:=hr;rfl)
def yY:Know Tryz.prog:=⟨46,Xk,zcR⟩
def yX:Know Tryz.prog:=⟨46,fun I=>zy I (Xk I),zf zcR⟩
end Go.Proofs.YtkjepecoodjbmaaGreatDoor
namespace Go.Proofs.YtkjepecoodjbmaaGreatDoor
open Go Go.Sep Go.Ab
theorem ze9 {r:Rpl} (h:ROk r):(qP r).length≤30000:=by
 unfold qP writeT
 split
 · rename_i hc
   have hw:UN r.status≠[]:=fun e=>by unfold zb1 at hc;rw [if_pos e] at hc;exact absurd hc (by decide)
   have h1:=(zak hw).2.2;have h2:=vz r.status;have h3:=vz (r.body.length:Int);have h4:=Ud r.fields;have h5:=h.1.1;have h6:=h.2;simp only [zir,zhJ,jk,jh,ji];omega
 · exact jM _
theorem zvl (x:GE) (e:Evt):evG x e=⟨(evG ⟨x.q,x.h,x.b,x.i,x.w,[]⟩ e).q,(evG ⟨x.q,x.h,x.b,x.i,x.w,[]⟩ e).h,(evG ⟨x.q,x.h,x.b,x.i,x.w,[]⟩ e).b,(evG ⟨x.q,x.h,x.b,x.i,x.w,[]⟩ e).i,(evG ⟨x.q,x.h,x.b,x.i,x.w,[]⟩ e).w,x.o++(evG ⟨x.q,x.h,x.b,x.i,x.w,[]⟩ e).o⟩:=by
 unfold evG
 repeat' split
 all_goals simp
theorem zwI {x:GE} (h1:zK x.q.l x.q.n) (h2:FsOk x.h.fields) (e:Evt):(evG ⟨x.q,x.h,x.b,x.i,x.w,[]⟩ e).o.length≤30000:=by
 unfold evG
 repeat' split
 · exact jM _
 · exact jM _
 · exact ze9 (zbH h1 h2 _)
 · exact ze9 (zj7 _ _ (jM _))
 · exact jM _
def fdK (c:Cn):Int:=if c.q.pos=4 then 18 else 0
def fdO (q:Sto) (c:Cn) (x:Str):Str:=if c.q.pos=4 then [] else(fedE q c x).o
def fdQ (q:Sto) (c:Cn) (x:Str):Sto:=if c.q.pos=4 then q else(fedE q c x).q
def fdC (q:Sto) (c:Cn) (x:Str):Cn:=if c.q.pos=4 then c else fedC q c x
def FdN (q:Sto) (c:Cn) (x:Str):Prop:=∃ (N:Nat) (m:Int),SOk q m∧CnI c N∧N+x.length≤30000∧m+12 * x.length≤199980
structure FdA (x0:GE) (J:List Evt) (i:Nat) (l:List Upl) (n:Int) (b:Str) (s:Int) (c:Cn) (o:Str) (q1:Rq):Prop where
 le:i≤J.length
 ev:(⟨⟨l,n,b,s⟩,c.h,c.body,c.live,c.own,o⟩:GE)=evsG x0 (J.take i)
 cq:c.q=q1
 ol:o.length≤30000 * i
structure FdJ (x0:GE) (J:List Evt):Prop where
 ok: ∃ (N:Nat) (m:Int),EOk x0 m N∧N+zI J≤30000∧m+12 * cnt3 J≤199980
 ob:EvO J
 mw:mayW x0.w J
 o0:x0.o=[]
 ln:J.length≤1000000
theorem ziF (J:List Evt) (i:Nat):zI (J.take i)≤zI J:=by
 have:J=J.take i++J.drop i:=(List.take_append_drop i J).symm;have h:=yD (J.take i) (J.drop i);rw [← this] at h;omega
theorem zqr (J:List Evt) (i:Nat):cnt3 (J.take i)≤cnt3 J:=by
 have h:=ZN (J.take i) (J.drop i);rw [List.take_append_drop] at h;omega
theorem zk5 {q:Sto} {c:Cn} {x:Str} (h:FdN q c x):FdJ ⟨q,c.h,c.body,c.live,c.own,[]⟩ (zZ (zF c.q x).out)∧rqN0 c.q x:=by
 obtain⟨N,m,h1,h2,h3,h4⟩:=h
 obtain⟨e1,e2,e3,e4⟩:=zpU h2 (b:=x) (by omega)
 exact⟨⟨⟨N,m,⟨h1,h2.2.1,h2.2.2.1⟩,by omega,by omega⟩,e1,(ztK h2 x).1,rfl,by omega⟩,N,h2.1,by omega⟩
theorem zsI {x0:GE} {J:List Evt} (h:FdJ x0 J) (q1:Rq) {l:List Upl} {n:Int} {b:Str} {s:Int} {hd:Hd} {bd:Str} {li w:Bool} (hx:x0=⟨⟨l,n,b,s⟩,hd,bd,li,w,[]⟩):FdA x0 J 0 l n b s ⟨q1,hd,bd,li,w⟩ [] q1:=⟨jM _,by subst hx;rfl,rfl,jM _⟩
theorem Ug {x0:GE} {J:List Evt} (hJ:FdJ x0 J) {i:Nat} {l:List Upl} {n:Int} {b:Str} {s:Int} {c:Cn} {o:Str} {q1:Rq} (h:FdA x0 J i l n b s c o q1):zK l n∧n≤200000 - 20∧b.length≤100000∧FOk c.h.fields∧c.body.length≤30000:=by
 obtain⟨N,m,h1,h2,h3⟩:=hJ.ok;have h4:=ziG (J.take i) h1 fun e he=>hJ.ob e (List.mem_of_mem_take he);rw [← h.ev] at h4;have h5:=ziF J i;have h6:=zqr J i;obtain⟨⟨g1,g2,g3,_⟩,g4,g5⟩:=h4
 exact⟨g1,by dsimp only at g3;omega,g2,g4,by dsimp only at g5;omega⟩
theorem zg8 {x0:GE} {J:List Evt} (hJ:FdJ x0 J) {i:Nat} {l:List Upl} {n:Int} {b:Str} {s:Int} {c:Cn} {o:Str} {q1:Rq} (h:FdA x0 J i l n b s c o q1) (hi:i<J.length) (d:Evt):
  ((J.getD i d).bytes.length≤1000000∧((J.getD i d).kind=2→c.own=true))∧∀ r,evG ⟨⟨l,n,b,s⟩,c.h,c.body,c.live,c.own,[]⟩ (J.getD i d)=r→r.o.length≤30000∧FdA x0 J (i+1) r.q.l r.q.n r.q.b r.q.s ⟨c.q,r.h,r.b,r.i,r.w⟩ (o++r.o) q1:=by
 have e:J.getD i d=J[i]:=by simp [hi]
 obtain⟨N,m,h1,h2,h3⟩:=hJ.ok;have ok:=Ug hJ h;rw [e];refine⟨⟨?_,fun k=> ?_⟩,fun r hr=>⟨?_,hi,?_,h.cq,?_⟩⟩
 · have:=Uk (List.getElem_mem hi)
   omega
 · have hw:=zo3 hJ.mw hi k
   rw [← ztM,← h.ev] at hw;exact hw
 · rw [← hr]
   exact zwI (x:=⟨⟨l,n,b,s⟩,c.h,c.body,c.live,c.own,[]⟩) ok.1 ok.2.2.2.1 _
 · rw [jB hi,Ui,← h.ev]
   show _=evG _ _
   rw [zvl];dsimp only;rw [hr]
 · have h7:r.o.length≤30000:=by
    rw [← hr];exact zwI (x:=⟨⟨l,n,b,s⟩,c.h,c.body,c.live,c.own,[]⟩) ok.1 ok.2.2.2.1 _
   have:=h.ol;rw [jk];omega
theorem zez {q:Sto} {c0:Cn} {x:Str} {l:List Upl} {n:Int} {b:Str} {s:Int} {c:Cn} {o:Str} {i:Nat} (h:FdA ⟨q,c0.h,c0.body,c0.live,c0.own,[]⟩ (zZ (zF c0.q x).out) i l n b s c o (zF c0.q x)) (hi: ¬ i<(zZ (zF c0.q x).out).length) (hp: ¬ c0.q.pos=4):(⟨l,n,b,s⟩:Sto)=fdQ q c0 x∧c=fdC q c0 x∧o=fdO q c0 x:=by
 have e:=h.ev
 rw [jq (by omega)] at e
 have e':(⟨⟨l,n,b,s⟩,c.h,c.body,c.live,c.own,o⟩:GE)=fedE q c0 x:=e;unfold fdQ fdC fdO fedC;rw [if_neg hp,if_neg hp,if_neg hp,← e'];refine⟨rfl,?_,rfl⟩;have:=h.cq;cases c;simp only at this;rw [this]
end Go.Proofs.YtkjepecoodjbmaaGreatDoor
namespace Go.Proofs.YtkjepecoodjbmaaGreatDoor
open Go Go.Sep Go.Ab
theorem zp9 (x:GE) (s t:Str):evG (evG x (evB s)) (evB t)=evG x (evB (s++t)):=by
 simp [evG,evB]
theorem zlg (x:GE) {e:Evt} (h:e.kind=2):evG x e=evG x (evB e.bytes):=by
 simp [evG,evB,h]
theorem zmN (x:GE) (o:List Evt) (e:Evt):evsG x (uS o e)=evsG x (o++[e]):=by
 rcases List.eq_nil_or_concat o with rfl|⟨z,y,rfl⟩
 · rfl
 · rw [List.concat_eq_append,xU]
   split
   · rename_i h
     rw [Ui,jo,Ui]
     show evG (evsG x z) (evB (y.bytes++e.bytes))=evG (evG (evsG x z) y) e
     rw [zlg _ h.1,zlg (evsG x z) h.2,zp9]
   · rfl
theorem zdh (x:GE): ∀ (l o:List Evt),evsG x (l.foldl uS o)=evsG x (o++l)
 |[],o=>by simp
 | e::l,o=>by
   rw [List.foldl_cons,zdh x l,Ui,zmN,← Ui];simp
theorem zp7 (x:GE) (l:List Evt):evsG x (zZ l)=evsG x l:=zdh x l []
theorem zfx: ∀ (b:Str) {q:Rq},q.pos=4→qi q b=q
 |[],_,_=>rfl
 | c ::b,q,h=>by
   have:rqF q c=q:=by
    unfold rqF
    rw [if_neg (by omega),if_neg (by omega),if_neg (by omega)]
   show qi (rqF q c) b=q
   rw [this];exact zfx b h
theorem zvf (q:Sto) (c:Cn) (b:Str):fedE q c b=evsG ⟨q,c.h,c.body,c.live,c.own,[]⟩ (zF c.q b).out:=zp7 _ _
theorem QT {q:Sto} {c:Cn} {b:Str} (h:c.q.pos=4):fedE q c b=⟨q,c.h,c.body,c.live,c.own,[]⟩∧zF c.q b= { c.q with out:=[]}:=by
 have:zF c.q b= { c.q with out:=[]}:=zfx b (q:= { c.q with out:=[]}) h
 rw [zvf,this];exact⟨rfl,rfl⟩
def zhn (c:Cn):Cn:= { c with q:=zoo c.q}
theorem zpV (q:Sto) (c:Cn) (b:Str):fdQ q c b=(fedE q c b).q:=by
 unfold fdQ
 split
 · rename_i h;rw [(QT h).1]
 · rfl
theorem zwG (q:Sto) (c:Cn) (b:Str):fdO q c b=(fedE q c b).o:=by
 unfold fdO
 split
 · rename_i h;rw [(QT h).1]
 · rfl
theorem zwH (q:Sto) (c:Cn) (b:Str):zhn (fdC q c b)=zhn (fedC q c b):=by
 unfold fdC
 split
 · rename_i h
   unfold fedC;rw [(QT (q:=q) h).1,(QT (q:=q) h).2];rfl
 · rfl
theorem zxc:SOk ⟨[],0,[],0⟩ 0:=⟨zdM,by decide,by decide,by decide,by decide⟩
theorem zsZ {c d:Cn} (h:zhn c=zhn d) {k:Nat} (hc:CnI c k):CnI d k:=by
 obtain⟨cq,ch,cb,ci,cw⟩:=c;obtain⟨dq,dh,db,di,dw⟩:=d;simp only [zhn,Cn.mk.injEq] at h;obtain⟨h1,rfl,rfl,rfl,rfl⟩:=h
 have hp:cq.pos=dq.pos:=by show(zoo cq).pos=(zoo dq).pos;rw [h1]
 refine⟨?_,hc.2.1,hc.2.2.1,fun k=>hc.2.2.2 (by rw [hp];exact k)⟩
 have:=hc.1
 have e:({ cq with out:=[]}:Rq)= { dq with out:=[]}:=h1
 rw [e] at this;exact this
theorem zxv {q:Sto} {m:Int} {c:Cn} {k:Nat} (hq:SOk q m) (h:CnI c k) {b:Str} (hb:k+b.length≤1000000):SOk (fdQ q c b) (m+12 * b.length)∧CnI (fdC q c b) (k+b.length):=by
 obtain⟨h1,h2⟩:=zwF hq h hb;rw [zpV];exact⟨h1,zsZ (zwH q c b).symm h2⟩
end Go.Proofs.YtkjepecoodjbmaaGreatDoor
namespace Go.Proofs.YtkjepecoodjbmaaGreatDoor
open Go Go.Sep Go.Ab
def rqHd (m t:Str):Str:=m++[32]++t++[32,72,84,84,80,47,49,46,49]
def rqwC (m t:Str) (fs:List Fld) (b:Str):Int:=
 if XH m=false then 6
 else if Lib.hasPrefix t [47]=false then 5
 else if Lib.containsAny t [32,9]=true then 5
 else if XR t=false then 5
 else if 200<(rqHd m t).length then 4
 else if 4000<b.length then 4
 else if 15<fs.length then 8
 else if 0<(valsF fs YH).length+(valsF fs zdB).length then 12
 else if(oneF (valsF fs Rf)).2≠0 then 13
 else badF fs
def rqwT (m t:Str) (fs:List Fld) (b:Str):Str:=
 if rqwC m t fs b=0 then rqHd m t++[13,10]++tN fs++zhJ b.length++b else []
end Go.Proofs.YtkjepecoodjbmaaGreatDoor
namespace Go.Proofs.YtkjepecoodjbmaaGreatDoor
open Go Go.Sep Go.Ab Go.Jrn
def CanE (e:Ent):Prop:=∃ n x,(0≤x.op∧x.op≤5)∧e=zxa n x
def st (W:List Ent):List Upl × Int:=replay ([],0) W
structure Hist (q:Sto) (W:List Ent) (k:Nat):Prop where
 may: ∀ e ∈ W,mayM e=true
 bytes:q.b=zJ W
 rep:st W=(q.l,q.n)
 acc: ∀ j (h:j<W.length),zfK (st (W.take j)).1 (st (W.take j)).2 W[j]=0∧CanE W[j]
 kle:k≤W.length
 sure:q.s=(zJ (W.take k)).length
 b:q.b.length≤100000
theorem zsV (e:Ent):1≤(encB e).length:=by
 have:=xJ ((enc3 e).length+1);unfold encB;rw [jk];omega
theorem zdl: ∀ W:List Ent,W.length≤(zJ W).length
 |[]=>jL _
 | e::W=>by
   have:=zdl W;have:=zsV e;simp only [zJ,jk,jh];omega
theorem ziH (W:List Ent) (k:Nat):(zJ (W.take k)).length≤(zJ W).length:=by
 have:=congrArg (fun l=>(zJ l).length) (List.take_append_drop k W);simp only [ZL,jk] at this;omega
theorem zuQ {q:Sto} {W:List Ent} {k:Nat} (h:Hist q W k):zxF q:=by
 have h1:=Vg W ([],0) zdM;have h2:=Qn W ([],0);have h3:=h.rep;unfold st at h3;rw [h3] at h1 h2;have h4:=zdl W;have h5:=h.b;rw [h.bytes] at h5;have h6:=ziH W k;refine⟨h1,?_,h.b,?_,?_⟩
 · simp only at h2;omega
 · rw [h.sure];omega
 · rw [h.sure,h.bytes];omega
theorem zsk:Hist ⟨[],0,[],0⟩ [] 0:=⟨fun _ h=>(by cases h),rfl,rfl,fun j h=>absurd h (Nat.not_lt_zero _),jL _,rfl,by decide⟩
theorem zpo {q:Sto} {W:List Ent} {k:Nat} (h:Hist q W k):Hist ⟨q.l,q.n,q.b,(q.b.length:Int)⟩ W W.length:=
 ⟨h.may,h.bytes,h.rep,h.acc,jL _,by rw [List.take_length];show(q.b.length:Int)=_;rw [h.bytes],h.b⟩
theorem zmt {q:Sto} {W:List Ent} {k:Nat} (h:Hist q W k) {e:Ent} (hc:CanE e) (h0:wrtC q.l q.n q.b e=0):
  Hist ⟨wrtL q.l q.n q.b e,wrtN q.l q.n q.b e,wrtB q.l q.n q.b e,q.s⟩ (W++[e]) k:=by
 obtain⟨h1,h2,h3⟩:=zds h0;have hrep:=h.rep;refine⟨fun x hx=> ?_,?_,?_,fun j hj=> ?_,?_,?_,?_⟩
 · rcases List.mem_append.1 hx with hx|hx
   · exact h.may x hx
   · rw [List.mem_singleton.1 hx];exact h2
 · show wrtB q.l q.n q.b e=_
   unfold wrtB;rw [if_pos h0,h.bytes,ZL]
   simp [zJ]
 · show st (W++[e])=(wrtL q.l q.n q.b e,wrtN q.l q.n q.b e)
   unfold st at *;rw [UZ,hrep];unfold wrtL wrtN;rw [if_pos h0,if_pos h0];rfl
 · rw [jk] at hj
   rcases Nat.lt_or_ge j W.length with hl|hl
   · rw [List.take_append_of_le_length (by omega),List.getElem_append_left hl]
     exact h.acc j hl
   · have:j=W.length:=by simp at hj;omega
     subst this
     have e1:(W++[e]).take W.length=W:=by simp
     have e2:(W++[e])[W.length]'(by simp)=e:=by simp
     rw [e1,e2,hrep];exact⟨h1,hc⟩
 · rw [jk];have:=h.kle;omega
 · show q.s=_
   rw [List.take_append_of_le_length h.kle];exact h.sure
 · show(wrtB q.l q.n q.b e).length≤100000
   exact Zm e h.b
def S9 (q:Sto) (keep:Int):Nat:=(q.s+min (max keep 0) (q.b.length - q.s)).toNat
theorem zmu {q:Sto} {W:List Ent} {k:Nat} (h:Hist q W k) (keep:Int): ∃ j,k≤j∧j≤W.length∧(∀ i,i<W.length→((zJ (W.take (i+1))).length≤S9 q keep↔i<j))∧
  crsP q.b q.s keep=st (W.take j)∧crsB q.b q.s keep=zJ (W.take j)∧
  Hist ⟨(crsP q.b q.s keep).1,(crsP q.b q.s keep).2,crsB q.b q.s keep,((crsB q.b q.s keep).length:Int)⟩ (W.take j) j:=by
 have hs:=zuQ h;have hs0:=hs.s0;have hs1:=hs.s1;have hb:=h.bytes
 have hK:S9 q keep≤(zJ W).length:=by unfold S9;rw [hb] at *;omega
 have hK2:(zJ (W.take k)).length≤S9 q keep:=by have:=h.sure;unfold S9;omega
 obtain⟨j,h1,h2,h3,h4,h5⟩:=torn W (S9 q keep) h.may hK
 have hcr:crB q.b q.s keep=(zJ W).take (S9 q keep):=by unfold crB S9;rw [hb]
 have hkj:k≤j:=by
  rcases Nat.lt_or_ge j k with hlt|hge
  · exfalso
    have:=(h3 (k - 1) (by have:=h.kle;omega)).1 (by rw [show k - 1+1=k by omega];exact hK2)
    omega
  · exact hge
 have hP:crsP q.b q.s keep=st (W.take j):=by unfold crsP crsE;rw [hcr,h4];rfl
 have hlen:((zJ W).take (S9 q keep)).length=S9 q keep:=by rw [jv];omega
 have hu:zam ((zJ W).take (S9 q keep))=((zJ (W.take j)).length:Int):=by unfold zam;rw [hlen];omega
 have hpre:(zJ W).take (zJ (W.take j)).length=zJ (W.take j):=by
  have:zJ W=zJ (W.take j)++zJ (W.drop j):=by rw [← ZL,List.take_append_drop]
  rw [this];simp
 have hB:crsB q.b q.s keep=zJ (W.take j):=by
  unfold crsB cuB;rw [hcr,hu,hlen]
  split
  · rw [jJ,List.take_take,Nat.min_eq_left h2,hpre]
  · rw [show S9 q keep=(zJ (W.take j)).length by omega,hpre]
 refine⟨j,hkj,h1,h3,hP,hB,?_⟩
 have hjl:(W.take j).length=j:=by rw [jv];omega
 refine⟨fun e he=>h.may e ((List.take_sublist j W).subset he),hB,hP.symm,fun i hi=> ?_,by rw [hjl];exact jL _,?_,?_⟩
 · rw [List.take_take,List.getElem_take,Nat.min_eq_left (by omega)]
   exact h.acc i (by omega)
 · show((crsB q.b q.s keep).length:Int)=_
   rw [hB,List.take_take,Nat.min_self]
 · show(crsB q.b q.s keep).length≤100000
   have:=zlq q.b q.s keep;have:=h.b;omega
end Go.Proofs.YtkjepecoodjbmaaGreatDoor
namespace Go.Proofs.YtkjepecoodjbmaaGreatDoor
open Go Go.Sep Go.Ab Go.Jrn
structure PO where (c:Int) (b u:Str)
structure PS where (g:GS) (t:List Int)
def ps0:PS:=⟨gs0,[]⟩
def zne (id:Int):Str:=[47,116,97,107,101,47]++decS id
def zpn:Fld:=⟨[72,111,115,116],[105,110,108,97,110,100]⟩
def znH (x:Str):List Fld:=if x=[] then [zpn] else [zpn,⟨zlQ,x⟩]
def begE (id:Int):Ent:=⟨5,id,0,[]⟩
def endE (id:Int):Ent:=⟨6,id,0,[]⟩
def Zt (q:Sto) (id:Int):Sto:=if wsC q (begE id)≠0 then wsS q (begE id) else syS (wsS q (begE id))
def znI (q:Sto) (id:Int):Upl:=getU (Zt q id).l id
def zbP (q:Sto) (id:Int):PO:=
 if wsC q (begE id)≠0 then⟨wsC q (begE id),[],[]⟩
 else⟨rqwC zbS (zne id) (znH (znI q id).note) (znI q id).bytes,[],rqwT zbS (zne id) (znH (znI q id).note) (znI q id).bytes⟩
def zfq (q:Sto) (id:Int) (t:List Int):List Int:=if wsC q (begE id)≠0 then t else t++[id]
def zdx (q:Sto) (id:Int):Sto:=if wsC q (endE id)≠0 then wsS q (endE id) else syS (wsS q (endE id))
def crsQ (q:Sto) (k:Int):Sto:=⟨(crsP q.b q.s k).1,(crsP q.b q.s k).2,crsB q.b q.s k,((crsB q.b q.s k).length:Int)⟩
def GS.set (g:GS) (q:Sto):GS:= { g with q:=q}
def doG (g:GS) (x:Stp):GS:=
 if x.kind=1 then(if inG x.conn then g.put x.conn (fdC g.q (g.at x.conn) x.bytes) (fdQ g.q (g.at x.conn) x.bytes) else g)
 else if x.kind=2 then(if inG x.conn then g.put x.conn cn0 (vW g.q (g.at x.conn)) else g)
 else if x.kind=3 then g.set (Zt g.q x.n)
 else if x.kind=4 then g.set (zdx g.q x.n)
 else if x.kind=5 then⟨crsQ g.q x.n,cn0,cn0,cn0,cn0⟩
 else g
def doT (p:PS) (x:Stp):List Int:=if x.kind=3 then zfq p.g.q x.n p.t else p.t
def doO (g:GS) (x:Stp):PO:=
 if x.kind=1 then(if inG x.conn then⟨fdK (g.at x.conn),fdO g.q (g.at x.conn) x.bytes,[]⟩ else⟨1,[],[]⟩)
 else if x.kind=2 then⟨if inG x.conn then 0 else 1,[],[]⟩
 else if x.kind=3 then zbP g.q x.n
 else if x.kind=4 then⟨wsC g.q (endE x.n),[],[]⟩
 else if x.kind=5 then⟨0,[],[]⟩
 else⟨11,[],[]⟩
def doP (p:PS) (x:Stp):PS:=⟨doG p.g x,doT p x⟩
structure GsI (g:GS) (m:Int) (N:Nat):Prop where
 q:SOk g.q m
 c0:CnI g.c0 N
 c1:CnI g.c1 N
 c2:CnI g.c2 N
 c3:CnI g.c3 N
theorem gi_0:GsI gs0 0 0:=⟨zxc,zbY,zbY,zbY,zbY⟩
theorem zbc {g:GS} {m m':Int} {N N':Nat} (h:GsI g m N) (h1:m≤m') (h2:N≤N'):GsI g m' N':=
 ⟨xC h.q h1,uh h.c0 h2,uh h.c1 h2,uh h.c2 h2,uh h.c3 h2⟩
theorem zwx {g:GS} {m:Int} {N:Nat} (h:GsI g m N) (k:Int):CnI (g.at k) N:=by
 unfold GS.at
 repeat' split
 all_goals first|exact h.c0|exact h.c1|exact h.c2|exact h.c3
theorem ztC {g:GS} {m m':Int} {N N':Nat} (h:GsI g m N) (hN:N≤N') (k:Int) {c:Cn} {q:Sto} (hc:CnI c N') (hq:SOk q m'):GsI (g.put k c q) m' N':=by
 have hi: ∀ {p:Prop} [Decidable p] {d:Cn},CnI d N→CnI (if p then c else d) N':=fun hd=>by
  split
  · exact hc
  · exact uh hd hN
 exact⟨hq,hi h.c0,hi h.c1,hi h.c2,hi h.c3⟩
theorem ztB {g:GS} {m m':Int} {N:Nat} (h:GsI g m N) {q:Sto} (hq:SOk q m'):GsI (g.set q) m' N:=⟨hq,h.c0,h.c1,h.c2,h.c3⟩
theorem zli: ∀ W:List Ent,4 * W.length≤(zJ W).length
 |[]=>jL _
 | e ::W=>by
   have h1:=zli W;have h2:=xJ ((enc3 e).length+1);have h3:=xJ (e.kind+1).toNat;have h4:=xJ (e.id+1).toNat;have h5:=xJ (e.n+1).toNat
   have h6:4≤(encB e).length:=by
    unfold encB;rw [jk]
    have:3≤(enc3 e).length:=by unfold enc3;simp only [jk];omega
    omega
   simp only [zJ,jk,jh];omega
theorem zue {q:Sto} {m:Int} (h:SOk q m) (k:Int):SOk (crsQ q k) 25000:=by
 have h1:=zeM q.b q.s k;have h3:=Jrn.zeI _ (crB q.b q.s k) (jL _);have h4:=congrArg List.length h3.1;rw [jk] at h4;have h5:=zli (crsE q.b q.s k);have h6:=Qn (crsE q.b q.s k) ([],0);have h7:=zlq q.b q.s k;have h8:=h.2.1;unfold crsE at h5
 refine⟨Vg _ ([],0) zdM,by show(crsB q.b q.s k).length≤_;omega,?_,Int.natCast_nonneg _,Int.le_refl _⟩
 show(replay ([],0) (crsE q.b q.s k)).2≤_
 dsimp only at h6;unfold crsE at h6 ⊢;omega
theorem zrg {q:Sto} {m:Int} (h:SOk q m) (id:Int):SOk (Zt q id) m:=by
 have h1:SOk (wsS q (begE id)) m:=Yg h (by simp [begE])
 unfold Zt
 split
 · exact h1
 · exact TR h1
theorem zrf {q:Sto} {m:Int} (h:SOk q m) (id:Int):SOk (zdx q id) m:=by
 have h1:SOk (wsS q (endE id)) m:=Yg h (by simp [endE])
 unfold zdx
 split
 · exact h1
 · exact TR h1
theorem zrh {q:Sto} {m:Int} (h:SOk q m) (c:Cn):SOk (vW q c) (m+1):=by
 unfold vW
 split
 · exact zfl h _ _ _ _
 · exact xC h (by omega)
theorem zxu {g:GS} {m:Int} {N:Nat} (h:GsI g m N) (hm:25000≤m) (x:Stp) (hb:N+x.bytes.length≤1000000):GsI (doG g x) (m+12 * x.bytes.length+1) (N+x.bytes.length):=by
 have h0:GsI g (m+12 * x.bytes.length+1) (N+x.bytes.length):=zbc h (by omega) (by omega)
 unfold doG
 repeat' with_reducible split
 · have:=zxv h.q (zwx h x.conn) (b:=x.bytes) hb
   exact ztC h (by omega) _ this.2 (xC this.1 (by omega))
 · exact h0
 · exact ztC h (by omega) _ (uh zbY (by omega)) (xC (zrh h.q _) (by omega))
 · exact h0
 · exact ztB h0 (xC (zrg h.q _) (by omega))
 · exact ztB h0 (xC (zrf h.q _) (by omega))
 · have h1:CnI cn0 (N+x.bytes.length):=uh zbY (by omega)
   exact⟨xC (zue h.q _) (by omega),h1,h1,h1,h1⟩
 · exact h0
end Go.Proofs.YtkjepecoodjbmaaGreatDoor
namespace Go.Proofs.YtkjepecoodjbmaaGreatDoor
open Go Go.Sep Go.Ab Go.Jrn
theorem zmv {q:Sto} {W:List Ent} (h:Hist q W W.length) (keep:Int):(crsP q.b q.s keep)=(q.l,q.n)∧crsB q.b q.s keep=q.b∧q.s=(q.b.length:Int):=by
 obtain⟨j,h1,h2,h3,h4,h5,h6⟩:=zmu h keep
 have hj:j=W.length:=by omega
 subst hj;rw [List.take_length] at h4 h5
 refine⟨by rw [h4,h.rep],by rw [h5,h.bytes],?_⟩
 have:=h.sure;rw [List.take_length] at this;rw [this,h.bytes]
end Go.Proofs.YtkjepecoodjbmaaGreatDoor
namespace Go.Proofs.YtkjepecoodjbmaaGreatDoor
open Go Go.Sep Go.Ab Go.Jrn
theorem zvz {l:List Upl} {id:Int} {u:Upl} (h:atU l id<l.length) (hu:u.id=id):atU (l.set (atU l id) u) id=atU l id:=by
 have hlen:(l.set (atU l id) u).length=l.length:=List.length_set ..
 have h2: ∀ (l:List Upl) (i:Nat),i<l.length→(l.getD i upl0).id=u.id→(l.set i u).findIdx (fun x=>x.id == id)=l.findIdx (fun x=>x.id == id):=by
  intro l
  induction l with
  |nil=>intro i hi;simp at hi
  | cons a r ih=>
    intro i hi hid
    cases i with
    | zero=>
      simp only [List.getD_cons_zero] at hid
      simp [List.set,List.findIdx_cons,hid]
    | succ i=>
      simp only [jh] at hi;simp only [List.getD_cons_succ] at hid;simp only [List.set,List.findIdx_cons]
      rw [ih i (by omega) hid]
 have h3:=YP h;unfold yx at h3
 exact h2 l (atU l id) h (by rw [hu];exact h3)
theorem zhe (e:Ent) (hk:1≤e.kind∧e.kind≤6):(encM e).length≤31+e.text.length∧(e.n=0→(encM e).length≤22+e.text.length):=by
 unfold encM
 split
 · have h1:=xJ ((enc3 e).length+1)
   have h2:=xJ (e.id+1).toNat;have h3:=xJ (e.n+1).toNat
   have h4:(sev (e.kind+1).toNat).length=1:=by rw [Yi (by omega)];rfl
   unfold encB enc3;unfold enc3 at h1
   have h5:e.n=0→(sev (e.n+1).toNat).length=1:=fun h=>by rw [h];rfl
   simp only [jk] at *
   refine⟨by omega,fun h=> ?_⟩
   have:=h5 h;omega
 · exact⟨by simp,fun _=>by simp⟩
theorem zqi {q:Sto} {u:Upl} {body:Str} {nv sz:Int} (hb:getB q.l u.id=true) (hu:getU q.l u.id=u) (hnv:nv=(u.bytes.length:Int)) (hid:1≤u.id∧u.id≤200000)
  (h1:wsC q (apE u.id body)=0) (hz:0≤sz) (hz2:sz≤2000) (hz3:nv+(body.length:Int)≤sz) (hus:u.size<0) (hr:UY q.b ((body.length:Int)+60)=true):wsC (wsS q (apE u.id body)) ⟨3,u.id,sz,[]⟩=0:=by
 have hat:atU q.l u.id<q.l.length:=by unfold getB at hb;simpa using hb
 have hup:yx q.l u.id=u:=by unfold getU at hu;rwa [if_pos hat] at hu
 unfold UY at hr
 have hroom:0≤(body.length:Int)+60∧(body.length:Int)+60≤100000 - (q.b.length:Int):=by simpa using hr
 unfold wsC at h1 ⊢
 have hl:(wsS q (apE u.id body)).l=q.l.set (atU q.l u.id) { yx q.l u.id with bytes:=(yx q.l u.id).bytes++body}:=by
  show wrtL _ _ _ _=_
  unfold wrtL;rw [if_pos h1]
  have hap:appC q.l u.id (getU q.l u.id).bytes.length body=0:=by
   unfold wrtC at h1
   split at h1
   · contradiction
   · rename_i hc
     simp only [Decidable.not_not] at hc;exact hc
  show zaO _ _ _=_
  unfold zaO
  rw [if_neg (by simp [apE]),if_pos (by simp [apE])]
  show appL q.l u.id (getU q.l u.id).bytes.length body=_
  unfold appL;rw [if_pos hap]
 have hB:(wsS q (apE u.id body)).b=q.b++encB (apE u.id body):=by
  show wrtB _ _ _ _=_
  unfold wrtB;rw [if_pos h1]
 have hat2:atU (wsS q (apE u.id body)).l u.id=atU q.l u.id:=by rw [hl];exact zvz hat (by rw [hup])
 have hlen:(wsS q (apE u.id body)).l.length=q.l.length:=by rw [hl,List.length_set]
 have hup2:yx (wsS q (apE u.id body)).l u.id= { u with bytes:=u.bytes++body}:=by
  unfold yx;rw [hat2,hl]
  simp [jH,hat,hup]
 unfold wrtC
 have hp:zfK (wsS q (apE u.id body)).l (wsS q (apE u.id body)).n ⟨3,u.id,sz,[]⟩=0:=by
  show decC (wsS q (apE u.id body)).l u.id sz=0
  unfold decC
  rw [hat2,hlen,hup2,if_neg (by omega),if_neg (by simp only;omega),if_neg (by omega),if_neg (by simp only [jk];omega)]
 have hm:mayM (apE u.id body)=true:=by
  unfold wrtC at h1
  rw [if_neg (by intro hc;rw [if_pos hc] at h1;exact hc h1)] at h1
  unfold encC at h1
  cases hq:mayM (apE u.id body) with
  |true=>rfl
  |false=>rw [hq] at h1;simp at h1
 have he:encC ⟨3,u.id,sz,[]⟩=0:=by
  unfold encC
  rw [if_pos (by unfold mayM few;simp only [jK,decide_eq_true_eq,ji];omega)]
 rw [hp,he,if_neg (by simp),if_neg (by simp)]
 have e1:=(zhe (apE u.id body) (by simp [apE])).2 rfl
 have e2:=(zhe ⟨3,u.id,sz,[]⟩ (by simp)).1
 unfold wrC;rw [hB];rw [if_pos];unfold encM at e1;rw [if_pos hm] at e1;simp only [jk,ji] at *;simp only [apE] at *;omega
end Go.Proofs.YtkjepecoodjbmaaGreatDoor
namespace Go.Proofs.YtkjepecoodjbmaaGreatDoor
open Go Go.Sep Go.Ab Go.Jrn
def ze7 (q:Sto) (r:TA):Prop:=(400≤r.st→r.q=q)∧(r.st<400→r.q=q∨r.q.s=(r.q.b.length:Int))
theorem te3 {q:Sto} {c:Prop} [Decidable c] {a b:TA} (ha:c→ze7 q a) (hb: ¬ c→ze7 q b):ze7 q (if c then a else b):=by split<;>simp_all
theorem yU {q:Sto} {st:Int} {fs:List Fld}:ze7 q ⟨st,fs,q⟩:=⟨fun _=>rfl,fun _=>.inl rfl⟩
theorem RD {q q':Sto} {st:Int} {fs:List Fld} (h:st<400):ze7 q ⟨st,fs,syS q'⟩:=⟨fun h2=>by simp only at h2;omega,fun _=>.inr rfl⟩
theorem zhk (q:Sto) (f:List Fld):ze7 q (xX q f):=by
 unfold xX
 repeat' with_reducible refine te3 (fun _=> ?_) (fun _=> ?_)
 all_goals first|exact yU|exact RD (by decide)
theorem zmP (q:Sto) (u:Upl):ze7 q (Um q u):=by
 unfold Um
 exact te3 (fun _=>yU) (fun _=>RD (by decide))
theorem zh5 {q:Sto} {u:Upl} (f:List Fld) (body:Str) (hb:getB q.l u.id=true) (hu:getU q.l u.id=u) (hid:1≤u.id∧u.id≤200000):ze7 q (vG q u f body):=by
 unfold vG
 refine te3 (fun _=>yU) (fun _=>te3 (fun _=>yU) (fun _=>te3 (fun _=>yU) (fun _=>te3 (fun _=>yU) (fun h1=>te3 (fun _=>yU) (fun h2=>te3 (fun _=>yU) (fun _=>te3 (fun _=>yU) (fun h3=>te3 (fun _=>yU) (fun h4=>te3 (fun _=>yU) (fun h5=>te3 (fun _=>yU) (fun h6=>te3 (fun h7=>te3 (fun h8=> ?_) (fun _=>RD (by decide))) (fun _=>RD (by decide))))))))))))
 refine absurd (zqi (nv:=zS f qQ) (sz:=zS f yV) hb hu (by simpa using h2) hid ?_ h7.1 ?_ ?_ h7.2 (by simpa using h5)) h8
 · by_cases hg:apG q.l u.id (zS f qQ)=true
   · rw [if_pos hg] at h6;exact absurd (by decide) h6
   · rw [if_neg hg] at h6;simpa using h6
 · have h9: ¬ (2000<zS f yV∨zS f yV<zS f qQ+(body.length:Int)):=fun h=>h4 ⟨h7.1,h7.2,h⟩
   omega
 · have h9: ¬ (2000<zS f yV∨zS f yV<zS f qQ+(body.length:Int)):=fun h=>h4 ⟨h7.1,h7.2,h⟩
   omega
theorem zuW {l:List Upl} {id:Int} (h:getB l id=true):(getU l id).id=id∧getU l id ∈ l:=by
 have hat:atU l id<l.length:=by unfold getB at h;simpa using h
 unfold getU;rw [if_pos hat];exact⟨YP hat,vF hat⟩
theorem zhR {q:Sto} (hs:zK q.l q.n) (hn:q.n≤200000) (m t:Str) (f:List Fld) (body:Str):ze7 q (yC q m t f body):=by
 unfold yC;refine te3 (fun _=>yU) (fun _=>te3 (fun _=>yU) (fun _=>te3 (fun _=>yU) (fun _=>te3 (fun _=>te3 (fun _=>yU) (fun _=>zhk _ _)) (fun _=>te3 (fun _=>yU) (fun h1=>te3 (fun _=>yU) (fun _=>te3 (fun _=> ?_) (fun _=>te3 (fun _=>zmP _ _) (fun _=>yU))))))))
 have h2:getB q.l (idV t)=true:=by
  unfold uplB at h1;simp only [Bool.not_eq_false,jK] at h1;exact h1.2
 have h3:=zuW h2;have h4:=hs.ids _ h3.2
 exact zh5 f body (by rw [h3.1];exact h2) (by rw [h3.1]) (by omega)
end Go.Proofs.YtkjepecoodjbmaaGreatDoor
namespace Go.Proofs.YtkjepecoodjbmaaGreatDoor
open Go Go.Sep Go.Ab Go.Jrn
def Hs (q:Sto):Prop:=∃ W k,Hist q W k
def Full (q:Sto):Prop:=∃ W,Hist q W W.length
theorem zbf {q:Sto} (h:Full q):Hs q:=h.elim fun W h=>⟨W,_,h⟩
theorem zwy:Full ⟨[],0,[],0⟩:=⟨[],zsk⟩
theorem full_of {q:Sto} (h:Hs q) (e:q.s=(q.b.length:Int)):Full q:=by
 obtain⟨W,k,h⟩:=h
 exact⟨W,h.may,h.bytes,h.rep,h.acc,jL _,by rw [List.take_length,e,h.bytes],h.b⟩
theorem zsj {q:Sto} (h:Hs q):Full (syS q):=by
 obtain⟨W,k,h⟩:=h;exact⟨W,zpo h⟩
theorem ztW {q:Sto} {e:Ent} (h:wsC q e≠0):wsS q e=q:=by
 unfold wsC at h;unfold wsS wrtL wrtN wrtB;rw [if_neg h,if_neg h,if_neg h]
theorem zuO {q:Sto} (h:Hs q) {e:Ent} (hc:CanE e):Hs (wsS q e):=by
 by_cases h0:wsC q e=0
 · obtain⟨W,k,h⟩:=h
   exact⟨_,k,zmt h hc h0⟩
 · rw [ztW h0];exact h
theorem zqA (q:Sto) (n:Int) (t:Str):CanE (creE q n t):=⟨q.n,⟨0,0,n,t⟩,by simp,rfl⟩
theorem ztS (id:Int) (x:Str):CanE (apE id x):=⟨0,⟨1,id,0,x⟩,by simp,rfl⟩
theorem zvq (id n:Int):CanE ⟨3,id,n,[]⟩:=⟨0,⟨2,id,n,[]⟩,by simp,rfl⟩
theorem zeR (id:Int):CanE ⟨4,id,0,[]⟩:=⟨0,⟨3,id,0,[]⟩,by simp,rfl⟩
theorem zvr (id:Int):CanE (begE id):=⟨0,⟨4,id,0,[]⟩,by simp,rfl⟩
theorem zvp (id:Int):CanE (endE id):=⟨0,⟨5,id,0,[]⟩,by simp,rfl⟩
inductive Rch (a:Sto):Sto→Prop
 |nil:Rch a a
 |ws {q:Sto} {e:Ent}:Rch a q→CanE e→Rch a (wsS q e)
 |sy {q:Sto}:Rch a q→Rch a (syS q)
theorem Rch.hs {a q:Sto} (h:Rch a q) (k:Hs a):Hs q:=by
 induction h with
 |nil=>exact k
 |ws _ hc ih=>exact zuO ih hc
 |sy _ ih=>exact zbf (zsj ih)
theorem Rch.trans {a q r:Sto} (h:Rch a q) (k:Rch q r):Rch a r:=by
 induction k with
 |nil=>exact h
 |ws _ hc ih=>exact .ws ih hc
 |sy _ ih=>exact .sy ih
theorem zrQ {a0:Sto} {c:Prop} [Decidable c] {a b:TA} (ha:Rch a0 a.q) (hb:Rch a0 b.q):Rch a0 (if c then a else b).q:=by split<;>assumption
theorem zrR {a q:Sto} (h0:Rch a q) (m t:Str) (f:List Fld) (body:Str):Rch a (yC q m t f body).q:=by
 have hc:Rch a (xX q f).q:=by
  unfold xX
  repeat' with_reducible refine zrQ ?_ ?_
  all_goals first|exact h0|exact Rch.sy ((Rch.ws h0 (zqA _ _ _)))
 have hd: ∀ u,Rch a (Um q u).q:=fun u=>by
  unfold Um;exact zrQ h0 (Rch.sy ((Rch.ws h0 (zeR _))))
 have hp: ∀ u,Rch a (vG q u f body).q:=fun u=>by
  unfold vG;have h1:Rch a (wsS q (apE u.id body)):=Rch.ws h0 (ztS _ _);have h2: ∀ z,Rch a (wsS (wsS q (apE u.id body)) ⟨3,u.id,z,[]⟩):=fun z=>Rch.ws h1 (zvq _ _)
  repeat' with_reducible refine zrQ ?_ ?_
  all_goals first|exact h0|exact h1|exact Rch.sy h1|exact Rch.sy ((h2 _))|exact h2 _
 unfold yC
 repeat' with_reducible refine zrQ ?_ ?_
 all_goals first|exact h0|exact hc|exact hd _|exact hp _
theorem zcW {q:Sto} {k:Int} (hq:SOk q k) (hk:k≤200000) (h:Full q) (m t:Str) (f:List Fld) (body:Str):Full (yC q m t f body).q:=by
 have h1:=zhR hq.1 (by have:=hq.2.2.1;omega) m t f body
 by_cases h2:400≤(yC q m t f body).st
 · rw [h1.1 h2];exact h
 · rcases h1.2 (by omega) with e|e
   · rw [e];exact h
   · exact full_of ((zrR .nil m t f body).hs (zbf h)) e
theorem zvX {a q:Sto} (h:Rch a q) (id off:Int) (x:Str):Rch a (apQ q id off x):=by
 unfold apQ
 split
 · exact h
 · exact Rch.ws h (ztS _ _)
theorem zou {a q:Sto} (h:Rch a q) (p:Prt):Rch a (sO q p):=by
 have h1:Rch a (wsS q (tJ q p)):=Rch.ws h (zqA _ _ _);have h2:=zvX h1 (q.n+1) 0 p.bytes;unfold sO
 split
 · exact h1
 split
 · exact Rch.ws h2 (zeR _)
 · exact h2
theorem zj8 {a:Sto}: ∀ (ids:List Int) {q:Sto},Rch a q→Rch a (XL q ids)
 |[],_,h=>h
 |_::r,_,h=>zj8 r (Rch.ws h (zeR _))
theorem zex: ∀ (ps:List Prt) (q:Sto) (ids:List Int) (t:Str),∃ r,Rch q r∧(ul q ids t ps).q=syS r
 |[],q,ids,t=>⟨q,.nil,rfl⟩
 | p ::r,q,ids,t=>by
   unfold ul
   split
   · exact zex r q ids t
   split
   · exact⟨_,zj8 ids (zou .nil p),rfl⟩
   · obtain⟨x,h1,h2⟩:=zex r (sO q p) (ids++[q.n+1]) (zlS t (q.n+1) p)
     exact⟨x,(zou .nil p).trans h1,h2⟩
theorem zmA (ps:List Prt) {q:Sto} (ids:List Int) (t:Str) (h:Hs q):Full (ul q ids t ps).q:=by
 obtain⟨r,h1,h2⟩:=zex ps q ids t;rw [h2];exact zsj (h1.hs h)
theorem zss {q:Sto} {k:Int} (hq:SOk q k) (hk:k≤200000) (h:Full q) (m t:Str) (f:List Fld) (body:Str):Full (ansG q m t f body).q:=by
 unfold ansG
 split
 · exact zcW hq hk h m t f body
 split
 · exact h
 split
 · exact h
 unfold X8
 split
 · exact h
 split
 · exact h
 · exact zmA _ _ _ (zbf h)
theorem zu4 {x:GE} {m:Int} {k:Nat} (hx:EOk x m k) (hm:m≤200000) (h:Full x.q) (e:Evt):Full (evG x e).q:=by
 unfold evG
 repeat' split
 all_goals first|exact h|exact zss hx.1 hm h _ _ _ _
theorem zkQ: ∀ (l:List Evt) {x:GE} {m:Int} {k:Nat},EOk x m k→EvO l→m+12 * cnt3 l≤200000→Full x.q→Full (evsG x l).q
 |[],_,_,_,_,_,_,h=>h
 | e::l,x,m,k,hx,hl,hm,h=>by
   have e1:cnt3 (e::l)=cnt3 [e]+cnt3 l:=ZN [e] l;have h1:=ztO hx (hl e List.mem_cons_self)
   exact zkQ l h1 (fun y hy=>hl y (List.mem_cons_of_mem _ hy)) (by omega) (zu4 hx (by omega) h e)
theorem zu3 {q:Sto} {m:Int} {c:Cn} {k:Nat} (hq:SOk q m) (hc:CnI c k) {b:Str} (hb:k+b.length≤1000000) (hm:m+12 * b.length≤200000) (h:Full q):Full (fdQ q c b):=by
 obtain⟨h1,h2,h3,h4⟩:=zpU hc (b:=b) hb;rw [zpV]
 exact zkQ _ (x:=⟨q,c.h,c.body,c.live,c.own,[]⟩) ⟨hq,hc.2.1,hc.2.2.1⟩ h1 (by omega) h
theorem zpz {q:Sto} {m:Int} (hq:SOk q m) (hm:m≤200000) (h:Full q) (c:Cn):Full (vW q c):=by
 unfold vW
 split
 · exact zcW hq hm h _ _ _ _
 · exact h
theorem zpy {q:Sto} (h:Full q) (id:Int):Full (Zt q id):=by
 unfold Zt
 split
 · rename_i h1;rw [ztW h1];exact h
 · exact zsj (zuO (zbf h) (zvr id))
theorem zpx {q:Sto} (h:Full q) (id:Int):Full (zdx q id):=by
 unfold zdx
 split
 · rename_i h1;rw [ztW h1];exact h
 · exact zsj (zuO (zbf h) (zvp id))
theorem zkR {q:Sto} (h:Full q) (k:Int):crsQ q k=q:=by
 obtain⟨W,h⟩:=h;obtain⟨h1,h2,h3⟩:=zmv h k;unfold crsQ;rw [h1,h2,← h3]
theorem zu5 {g:GS} {m:Int} {N:Nat} (hg:GsI g m N) (x:Stp) (hb:N+x.bytes.length≤1000000) (hm:m+12 * x.bytes.length≤200000) (h:Full g.q):Full (doG g x).q:=by
 unfold doG
 repeat' with_reducible split
 · exact zu3 hg.q (zwx hg _) hb hm h
 · exact h
 · exact zpz hg.q (by omega) h _
 · exact h
 · exact zpy h _
 · exact zpx h _
 · show Full (crsQ g.q x.n)
   rw [zkR h];exact h
 · exact h
end Go.Proofs.YtkjepecoodjbmaaGreatDoor
namespace Go.Proofs.YtkjepecoodjbmaaGreatDoor
open Go Go.Sep Go.Ab Go.Jrn
theorem at_mem {l:List Upl} {id:Int} (h: ¬ l.length≤atU l id):yx l id ∈ l:=vF (by omega)
end Go.Proofs.YtkjepecoodjbmaaGreatDoor
namespace Go.Proofs.YtkjepecoodjbmaaGreatDoor
open Go Go.Sep Go.Ab Go.Jrn
theorem zrn {q:Sto} {id:Int} (h:wsC q (begE id)=0): ¬ q.l.length≤atU q.l id∧(yx q.l id).sent=0∧(yx q.l id).size=(yx q.l id).bytes.length∧(Zt q id).l=q.l.set (atU q.l id) { yx q.l id with sent:=1}:=by
 have h1:=(zds h).1;have h2:begC q.l id=0:=h1
 have h3:(Zt q id).l=begL q.l id:=by
  unfold Zt
  rw [if_neg (by omega)]
  exact if_pos h
 unfold begL at h3;rw [if_pos h2] at h3;unfold begC at h2
 by_cases k1:q.l.length≤atU q.l id
 · rw [if_pos k1] at h2;cases h2
 rw [if_neg k1] at h2
 by_cases k2:(yx q.l id).sent=0
 · rw [if_neg (by simpa using k2)] at h2
   by_cases k3:(yx q.l id).size=(yx q.l id).bytes.length
   · exact⟨k1,k2,k3,h3⟩
   · rw [if_pos k3] at h2;cases h2
 · rw [if_pos k2] at h2;cases h2
end Go.Proofs.YtkjepecoodjbmaaGreatDoor
namespace Go.Proofs.YtkjepecoodjbmaaGreatDoor
open Go Go.Sep Go.Ab
set_option maxRecDepth 100000
def VY (I:Alg) (args:List D) (hp:List HO):Option CT:=match args,hp with
 |[.v (.one (.ptr 0 0)),.v (.one (.p (.int .i64 0))),.v (.one (.p (.list .byte x)))],[.obj 50 [(.ptr 1 0),(.ptr 2 0),(.ptr 3 0),(.ptr 4 0),(.ptr 5 0)],.pack [.obj 54 [(.ptr 1 0),(.ptr 2 0)],.pack [.obj 124 [(.row 1),(.p (.int .i64 n))],.row .upl 81 l],.pack [.obj 156 [(.row 1),(.p (.int .i64 s))],.row .byte 5 b]],.abs (.cn c0),.abs (.cn c1),.abs (.cn c2),.abs (.cn c3)]=>(fun(l:List Upl) (n:Int) (b:Str) (s:Int) (c0 c1 c2 c3:Cn) (x:Str)=>(some (.one ⟨I.hid (FdN ⟨l,n,b,s⟩ c0 x),(.ret (.tup [(.one (.p (.list .byte (I.hid ((fdO ⟨l,n,b,s⟩ c0 x)))))),(.one (.p (.int .i64 (I.hid ((fdK c0))))))])),[.obj 50 [(.ptr 1 0),(.ptr 2 0),(.ptr 3 0),(.ptr 4 0),(.ptr 5 0)],.pack [.obj 54 [(.ptr 1 0),(.ptr 2 0)],.pack [.obj 124 [(.row 1),(.p (.int .i64 (I.hid ((fdQ ⟨l,n,b,s⟩ c0 x).n))))],.row .upl 81 (I.hid ((fdQ ⟨l,n,b,s⟩ c0 x).l))],.pack [.obj 156 [(.row 1),(.p (.int .i64 (I.hid ((fdQ ⟨l,n,b,s⟩ c0 x).s))))],.row .byte 5 (I.hid ((fdQ ⟨l,n,b,s⟩ c0 x).b))]],.abs (.cn (I.hid ((fdC ⟨l,n,b,s⟩ c0 x)))),.abs (.cn c1),.abs (.cn c2),.abs (.cn c3)]⟩):Option CT)) l n b s c0 c1 c2 c3 x
 |_,_=>none
set_option maxHeartbeats 2000000 in
theorem zgE:zx Tryz.prog 14 (VY alg):=by
 intro args hp r h;unfold VY at h;split at h<;>cases h
 rename_i x n l s b c0 c1 c2 c3
 revert l;intro(l:List Upl)
 simp only [CT.Good,zi];intro hneed;obtain⟨hJ,hN⟩:=zk5 hneed;have hend:=fun l1 n1 b1 s1 c o i h=>zez (q:=⟨l,n,b,s⟩) (c0:=c0) (x:=x) (l:=l1) (n:=n1) (b:=b1) (s:=s1) (c:=c) (o:=o) (i:=i) h;have hA0:=zsI hJ (zF c0.q x) (l:=l) (n:=n) (b:=b) (s:=s) rfl
 have hd4:c0.q.pos=4→fdK c0=18∧fdO ⟨l,n,b,s⟩ c0 x=[]∧fdQ ⟨l,n,b,s⟩ c0 x=⟨l,n,b,s⟩∧fdC ⟨l,n,b,s⟩ c0 x=c0:=fun h=>by unfold fdK fdO fdQ fdC;rw [if_pos h,if_pos h,if_pos h,if_pos h];exact⟨rfl,rfl,rfl,rfl⟩
 have hd5: ¬ c0.q.pos=4→fdK c0=0:=fun h=>by unfold fdK;rw [if_neg h]
 generalize fdK c0=rk at *;generalize fdO ⟨l,n,b,s⟩ c0 x=ro at *;generalize fdQ ⟨l,n,b,s⟩ c0 x=rq at *;generalize fdC ⟨l,n,b,s⟩ c0 x=rc at *;obtain⟨l',n',b',s'⟩:=rq;obtain⟨q,⟨m,t,mi,f,le⟩,cb,li,w⟩:=c0;dsimp only at *;generalize hx0:(⟨⟨l,n,b,s⟩,⟨m,t,mi,f,le⟩,cb,li,w,[]⟩:GE)=x0 at *
 refine spcG zh mixed Tryz.func14 (by kernel_rfl) { cfgG with rl:=[0],nr:=[8],keep:=some [0,1,2,6,7,8,10,37,38,39]} [xR,xQ,xP,xO,yw,yu,yH,yG,yP,yO,yY,yX] (by kernel_rfl) ?_
 intro I X hI hX;clear hneed;cases w
 · refine orcL ?_;go_invoke;refine orcS (by kernel_rfl) ?_
   simp only [zq,Nat.reduceAdd]
   have hh: ∀ {α:Type} (y:α),I.hid y=y:=fun y=>by subst hI;rfl
   simp only [hh];generalize zZ (zF q x).out=J at *
   (repeat' (first|refine ja ?_ ?_|intro _))
   all_goals try(subst hI;(simp only [nrmA,nrmB,nrlB,reduceCtorEq,V0.agg.injEq,HO.pack.injEq,HO.obj.injEq,HO.abs.injEq,Gh.cn.injEq] at *);first|done|omega|exact hN|(obtain⟨r1,r2,r3,r4⟩:=hd4 (by omega);simp only [Sto.mk.injEq] at r3;obtain⟨r5,r6,r7,r8⟩:=r3;simp [r1,r2,r4,r5,r6,r7,r8];done))
   have hp: ¬ q.pos=4:=by
    subst hI;simp only [nrmA,nrmB,nrlB,reduceCtorEq] at *;omega
   refine zB hI zh mixed [xR,xQ,xP,xO,yw,yu,yH,yG,yP,yO,yY,yX] hX [0,1,8,37,38,39] (fun(g:Nat × List Upl × Int × Str × Int × Cn × Str)=>match g with|(i,l1,n1,b1,s1,c,o)=>FdA x0 J i l1 n1 b1 s1 c o (zF q x)) (fun(g:Nat × List Upl × Int × Str × Int × Cn × Str)=>match g with|(i,l1,n1,b1,s1,c,o)=>⟨[(0,.v (.one (.ptr 0 0))),(1,.v (.one (.p (.int .i64 0)))),(8,.v (.one (.row 6))),(37,.v (.one (.row 7))),(38,.v (.one (.p (.int .i64 ((I.len (α:=Evt) J)))))),(39,.v (.one (.p (.int .i64 i))))],[.obj 50 [(.ptr 1 0),(.ptr 2 0),(.ptr 3 0),(.ptr 4 0),(.ptr 5 0)],.pack [.obj 54 [(.ptr 1 0),(.ptr 2 0)],.pack [.obj 124 [(.row 1),(.p (.int .i64 n1))],.row .upl 81 l1],.pack [.obj 156 [(.row 1),(.p (.int .i64 s1))],.row .byte 5 b1]],.abs (.cn c),.abs (.cn c1),.abs (.cn c2),.abs (.cn c3),.row .byte 5 o,.row .evt 34 J],56,none⟩) (fun(g:Nat × List Upl × Int × Str × Int × Cn × Str)=>match g with|(i,l1,n1,b1,s1,c,o)=>J.length - i) (0,l,n,b,s,⟨zF q x,⟨m,t,mi,f,le⟩,cb,li,false⟩,[]) (by kernel_rfl) (by kernel_rfl) ?_ ?_
   · exact hA0
   rintro⟨i,l1,n1,b1,s1,c,o⟩ h1 A hA;simp only at hA h1;have hok:=Ug hJ h1;have hol:=h1.ol;have hil:=h1.le;have hln:=hJ.ln;have hS:=fun h=>zg8 hJ h1 h ⟨0,⟨[],[],0,[],0⟩,[],⟨[],[],[],[]⟩,0⟩;have hend:=hend _ _ _ _ _ _ _ h1
   refine orcL ?_;go_invoke;refine orcS (by kernel_rfl) ?_
   simp only [zq,Nat.reduceAdd]
   have e1:I.get J ⟨0,⟨[],[],0,[],0⟩,[],⟨[],[],[],[]⟩,0⟩ (i:Int)=J.getD i ⟨0,⟨[],[],0,[],0⟩,[],⟨[],[],[],[]⟩,0⟩:=by subst hI;first|rfl|simp
   simp only [e1];generalize J.getD i ⟨0,⟨[],[],0,[],0⟩,[],⟨[],[],[],[]⟩,0⟩=E at *;have e0:(⟨E.kind,⟨E.head.method,E.head.target,E.head.minor,E.head.fields,E.head.length⟩,E.bytes,⟨E.part.name,E.part.file,E.part.type,E.part.bytes⟩,E.code⟩:Evt)=E:=rfl;simp only [e0,hh];generalize hr:evG ⟨⟨l1,n1,b1,s1⟩,c.h,c.body,c.live,c.own,[]⟩ E=r at *;have hd5:=hd5 hp;subst hI;simp only [nrmA,nrmB,nrlB,reduceCtorEq,V0.agg.injEq,HO.pack.injEq,HO.obj.injEq,HO.abs.injEq,Gh.cn.injEq]
   (repeat' (first|refine ja ?_ ?_|intro _))<;>first|omega|exact jb|exact jc ‹False›|skip
   all_goals first
    |omega
    |exact hok.1
    |exact hok.2.2.2.1.1
    |(exact(hok.2.2.2.1.2 _ ‹_›).1)
    |(exact(hok.2.2.2.1.2 _ ‹_›).2)
    |exact(hS (by omega)).1.1
    |exact(hS (by omega)).1.2
    |(exact(hS (by omega)).1.2 ‹_›)
    |(have:=((hS (by omega)).2 _ rfl).1;omega)
    |exact hA (i+1,r.q.l,r.q.n,r.q.b,r.q.s,⟨c.q,r.h,r.b,r.i,r.w⟩,o++r.o) ((hS (by omega)).2 _ rfl).2 (by dsimp only;omega)
    |(obtain⟨r3,r4,r5⟩:=hend (by omega) hp;simp only [Sto.mk.injEq] at r3;obtain⟨r6,r7,r8,r9⟩:=r3;simp [r4,r5,r6,r7,r8,r9,hd5];done)
 · refine orcL ?_;go_invoke;refine orcS (by kernel_rfl) ?_
   simp only [zq,Nat.reduceAdd]
   have hh: ∀ {α:Type} (y:α),I.hid y=y:=fun y=>by subst hI;rfl
   simp only [hh];generalize zZ (zF q x).out=J at *
   (repeat' (first|refine ja ?_ ?_|intro _))
   all_goals try(subst hI;(simp only [nrmA,nrmB,nrlB,reduceCtorEq,V0.agg.injEq,HO.pack.injEq,HO.obj.injEq,HO.abs.injEq,Gh.cn.injEq] at *);first|done|omega|exact hN|(obtain⟨r1,r2,r3,r4⟩:=hd4 (by omega);simp only [Sto.mk.injEq] at r3;obtain⟨r5,r6,r7,r8⟩:=r3;simp [r1,r2,r4,r5,r6,r7,r8];done))
   have hp: ¬ q.pos=4:=by
    subst hI;simp only [nrmA,nrmB,nrlB,reduceCtorEq] at *;omega
   refine zB hI zh mixed [xR,xQ,xP,xO,yw,yu,yH,yG,yP,yO,yY,yX] hX [0,1,8,37,38,39] (fun(g:Nat × List Upl × Int × Str × Int × Cn × Str)=>match g with|(i,l1,n1,b1,s1,c,o)=>FdA x0 J i l1 n1 b1 s1 c o (zF q x)) (fun(g:Nat × List Upl × Int × Str × Int × Cn × Str)=>match g with|(i,l1,n1,b1,s1,c,o)=>⟨[(0,.v (.one (.ptr 0 0))),(1,.v (.one (.p (.int .i64 0)))),(8,.v (.one (.row 6))),(37,.v (.one (.row 7))),(38,.v (.one (.p (.int .i64 ((I.len (α:=Evt) J)))))),(39,.v (.one (.p (.int .i64 i))))],[.obj 50 [(.ptr 1 0),(.ptr 2 0),(.ptr 3 0),(.ptr 4 0),(.ptr 5 0)],.pack [.obj 54 [(.ptr 1 0),(.ptr 2 0)],.pack [.obj 124 [(.row 1),(.p (.int .i64 n1))],.row .upl 81 l1],.pack [.obj 156 [(.row 1),(.p (.int .i64 s1))],.row .byte 5 b1]],.abs (.cn c),.abs (.cn c1),.abs (.cn c2),.abs (.cn c3),.row .byte 5 o,.row .evt 34 J],56,none⟩) (fun(g:Nat × List Upl × Int × Str × Int × Cn × Str)=>match g with|(i,l1,n1,b1,s1,c,o)=>J.length - i) (0,l,n,b,s,⟨zF q x,⟨m,t,mi,f,le⟩,cb,li,true⟩,[]) (by kernel_rfl) (by kernel_rfl) ?_ ?_
   · exact hA0
   rintro⟨i,l1,n1,b1,s1,c,o⟩ h1 A hA;simp only at hA h1;have hok:=Ug hJ h1;have hol:=h1.ol;have hil:=h1.le;have hln:=hJ.ln;have hS:=fun h=>zg8 hJ h1 h ⟨0,⟨[],[],0,[],0⟩,[],⟨[],[],[],[]⟩,0⟩;have hend:=hend _ _ _ _ _ _ _ h1
   refine orcL ?_;go_invoke;refine orcS (by kernel_rfl) ?_
   simp only [zq,Nat.reduceAdd]
   have e1:I.get J ⟨0,⟨[],[],0,[],0⟩,[],⟨[],[],[],[]⟩,0⟩ (i:Int)=J.getD i ⟨0,⟨[],[],0,[],0⟩,[],⟨[],[],[],[]⟩,0⟩:=by subst hI;first|rfl|simp
   simp only [e1];generalize J.getD i ⟨0,⟨[],[],0,[],0⟩,[],⟨[],[],[],[]⟩,0⟩=E at *;have e0:(⟨E.kind,⟨E.head.method,E.head.target,E.head.minor,E.head.fields,E.head.length⟩,E.bytes,⟨E.part.name,E.part.file,E.part.type,E.part.bytes⟩,E.code⟩:Evt)=E:=rfl;simp only [e0,hh];generalize hr:evG ⟨⟨l1,n1,b1,s1⟩,c.h,c.body,c.live,c.own,[]⟩ E=r at *;have hd5:=hd5 hp;subst hI;simp only [nrmA,nrmB,nrlB,reduceCtorEq,V0.agg.injEq,HO.pack.injEq,HO.obj.injEq,HO.abs.injEq,Gh.cn.injEq]
   (repeat' (first|refine ja ?_ ?_|intro _))<;>first|omega|exact jb|exact jc ‹False›|skip
   all_goals first
    |omega
    |exact hok.1
    |exact hok.2.2.2.1.1
    |(exact(hok.2.2.2.1.2 _ ‹_›).1)
    |(exact(hok.2.2.2.1.2 _ ‹_›).2)
    |exact(hS (by omega)).1.1
    |exact(hS (by omega)).1.2
    |(exact(hS (by omega)).1.2 ‹_›)
    |(have:=((hS (by omega)).2 _ rfl).1;omega)
    |exact hA (i+1,r.q.l,r.q.n,r.q.b,r.q.s,⟨c.q,r.h,r.b,r.i,r.w⟩,o++r.o) ((hS (by omega)).2 _ rfl).2 (by dsimp only;omega)
    |(obtain⟨r3,r4,r5⟩:=hend (by omega) hp;simp only [Sto.mk.injEq] at r3;obtain⟨r6,r7,r8,r9⟩:=r3;simp [r4,r5,r6,r7,r8,r9,hd5];done)
def wY:Know Tryz.prog:=⟨14,VY,zgE⟩
def wX:Know Tryz.prog:=⟨14,fun I=>zy I (VY I),zf zgE⟩
def VX (I:Alg) (args:List D) (hp:List HO):Option CT:=match args,hp with
 |[.v (.one (.ptr 0 0)),.v (.one (.p (.int .i64 1))),.v (.one (.p (.list .byte x)))],[.obj 50 [(.ptr 1 0),(.ptr 2 0),(.ptr 3 0),(.ptr 4 0),(.ptr 5 0)],.pack [.obj 54 [(.ptr 1 0),(.ptr 2 0)],.pack [.obj 124 [(.row 1),(.p (.int .i64 n))],.row .upl 81 l],.pack [.obj 156 [(.row 1),(.p (.int .i64 s))],.row .byte 5 b]],.abs (.cn c0),.abs (.cn c1),.abs (.cn c2),.abs (.cn c3)]=>(fun(l:List Upl) (n:Int) (b:Str) (s:Int) (c0 c1 c2 c3:Cn) (x:Str)=>(some (.one ⟨I.hid (FdN ⟨l,n,b,s⟩ c1 x),(.ret (.tup [(.one (.p (.list .byte (I.hid ((fdO ⟨l,n,b,s⟩ c1 x)))))),(.one (.p (.int .i64 (I.hid ((fdK c1))))))])),[.obj 50 [(.ptr 1 0),(.ptr 2 0),(.ptr 3 0),(.ptr 4 0),(.ptr 5 0)],.pack [.obj 54 [(.ptr 1 0),(.ptr 2 0)],.pack [.obj 124 [(.row 1),(.p (.int .i64 (I.hid ((fdQ ⟨l,n,b,s⟩ c1 x).n))))],.row .upl 81 (I.hid ((fdQ ⟨l,n,b,s⟩ c1 x).l))],.pack [.obj 156 [(.row 1),(.p (.int .i64 (I.hid ((fdQ ⟨l,n,b,s⟩ c1 x).s))))],.row .byte 5 (I.hid ((fdQ ⟨l,n,b,s⟩ c1 x).b))]],.abs (.cn c0),.abs (.cn (I.hid ((fdC ⟨l,n,b,s⟩ c1 x)))),.abs (.cn c2),.abs (.cn c3)]⟩):Option CT)) l n b s c0 c1 c2 c3 x
 |_,_=>none
set_option maxHeartbeats 2000000 in
theorem zgD:zx Tryz.prog 14 (VX alg):=by
 intro args hp r h;unfold VX at h;split at h<;>cases h
 rename_i x n l s b c0 c1 c2 c3
 revert l;intro(l:List Upl)
 simp only [CT.Good,zi];intro hneed;obtain⟨hJ,hN⟩:=zk5 hneed;have hend:=fun l1 n1 b1 s1 c o i h=>zez (q:=⟨l,n,b,s⟩) (c0:=c1) (x:=x) (l:=l1) (n:=n1) (b:=b1) (s:=s1) (c:=c) (o:=o) (i:=i) h;have hA0:=zsI hJ (zF c1.q x) (l:=l) (n:=n) (b:=b) (s:=s) rfl
 have hd4:c1.q.pos=4→fdK c1=18∧fdO ⟨l,n,b,s⟩ c1 x=[]∧fdQ ⟨l,n,b,s⟩ c1 x=⟨l,n,b,s⟩∧fdC ⟨l,n,b,s⟩ c1 x=c1:=fun h=>by unfold fdK fdO fdQ fdC;rw [if_pos h,if_pos h,if_pos h,if_pos h];exact⟨rfl,rfl,rfl,rfl⟩
 have hd5: ¬ c1.q.pos=4→fdK c1=0:=fun h=>by unfold fdK;rw [if_neg h]
 generalize fdK c1=rk at *;generalize fdO ⟨l,n,b,s⟩ c1 x=ro at *;generalize fdQ ⟨l,n,b,s⟩ c1 x=rq at *;generalize fdC ⟨l,n,b,s⟩ c1 x=rc at *;obtain⟨l',n',b',s'⟩:=rq;obtain⟨q,⟨m,t,mi,f,le⟩,cb,li,w⟩:=c1;dsimp only at *;generalize hx0:(⟨⟨l,n,b,s⟩,⟨m,t,mi,f,le⟩,cb,li,w,[]⟩:GE)=x0 at *
 refine spcG zh mixed Tryz.func14 (by kernel_rfl) { cfgG with rl:=[0],nr:=[8],keep:=some [0,1,2,6,7,8,10,37,38,39]} [xR,xQ,xP,xO,yw,yu,yH,yG,yP,yO,yY,yX,wY,wX] (by kernel_rfl) ?_
 intro I X hI hX;clear hneed;cases w
 · refine orcL ?_;go_invoke;refine orcS (by kernel_rfl) ?_
   simp only [zq,Nat.reduceAdd]
   have hh: ∀ {α:Type} (y:α),I.hid y=y:=fun y=>by subst hI;rfl
   simp only [hh];generalize zZ (zF q x).out=J at *
   (repeat' (first|refine ja ?_ ?_|intro _))
   all_goals try(subst hI;(simp only [nrmA,nrmB,nrlB,reduceCtorEq,V0.agg.injEq,HO.pack.injEq,HO.obj.injEq,HO.abs.injEq,Gh.cn.injEq] at *);first|done|omega|exact hN|(obtain⟨r1,r2,r3,r4⟩:=hd4 (by omega);simp only [Sto.mk.injEq] at r3;obtain⟨r5,r6,r7,r8⟩:=r3;simp [r1,r2,r4,r5,r6,r7,r8];done))
   have hp: ¬ q.pos=4:=by
    subst hI;simp only [nrmA,nrmB,nrlB,reduceCtorEq] at *;omega
   refine zB hI zh mixed [xR,xQ,xP,xO,yw,yu,yH,yG,yP,yO,yY,yX,wY,wX] hX [0,1,8,37,38,39] (fun(g:Nat × List Upl × Int × Str × Int × Cn × Str)=>match g with|(i,l1,n1,b1,s1,c,o)=>FdA x0 J i l1 n1 b1 s1 c o (zF q x)) (fun(g:Nat × List Upl × Int × Str × Int × Cn × Str)=>match g with|(i,l1,n1,b1,s1,c,o)=>⟨[(0,.v (.one (.ptr 0 0))),(1,.v (.one (.p (.int .i64 1)))),(8,.v (.one (.row 6))),(37,.v (.one (.row 7))),(38,.v (.one (.p (.int .i64 ((I.len (α:=Evt) J)))))),(39,.v (.one (.p (.int .i64 i))))],[.obj 50 [(.ptr 1 0),(.ptr 2 0),(.ptr 3 0),(.ptr 4 0),(.ptr 5 0)],.pack [.obj 54 [(.ptr 1 0),(.ptr 2 0)],.pack [.obj 124 [(.row 1),(.p (.int .i64 n1))],.row .upl 81 l1],.pack [.obj 156 [(.row 1),(.p (.int .i64 s1))],.row .byte 5 b1]],.abs (.cn c0),.abs (.cn c),.abs (.cn c2),.abs (.cn c3),.row .byte 5 o,.row .evt 34 J],56,none⟩) (fun(g:Nat × List Upl × Int × Str × Int × Cn × Str)=>match g with|(i,l1,n1,b1,s1,c,o)=>J.length - i) (0,l,n,b,s,⟨zF q x,⟨m,t,mi,f,le⟩,cb,li,false⟩,[]) (by kernel_rfl) (by kernel_rfl) ?_ ?_
   · exact hA0
   rintro⟨i,l1,n1,b1,s1,c,o⟩ h1 A hA;simp only at hA h1;have hok:=Ug hJ h1;have hol:=h1.ol;have hil:=h1.le;have hln:=hJ.ln;have hS:=fun h=>zg8 hJ h1 h ⟨0,⟨[],[],0,[],0⟩,[],⟨[],[],[],[]⟩,0⟩;have hend:=hend _ _ _ _ _ _ _ h1
   refine orcL ?_;go_invoke;refine orcS (by kernel_rfl) ?_
   simp only [zq,Nat.reduceAdd]
   have e1:I.get J ⟨0,⟨[],[],0,[],0⟩,[],⟨[],[],[],[]⟩,0⟩ (i:Int)=J.getD i ⟨0,⟨[],[],0,[],0⟩,[],⟨[],[],[],[]⟩,0⟩:=by subst hI;first|rfl|simp
   simp only [e1];generalize J.getD i ⟨0,⟨[],[],0,[],0⟩,[],⟨[],[],[],[]⟩,0⟩=E at *;have e0:(⟨E.kind,⟨E.head.method,E.head.target,E.head.minor,E.head.fields,E.head.length⟩,E.bytes,⟨E.part.name,E.part.file,E.part.type,E.part.bytes⟩,E.code⟩:Evt)=E:=rfl;simp only [e0,hh];generalize hr:evG ⟨⟨l1,n1,b1,s1⟩,c.h,c.body,c.live,c.own,[]⟩ E=r at *;have hd5:=hd5 hp;subst hI;simp only [nrmA,nrmB,nrlB,reduceCtorEq,V0.agg.injEq,HO.pack.injEq,HO.obj.injEq,HO.abs.injEq,Gh.cn.injEq]
   (repeat' (first|refine ja ?_ ?_|intro _))<;>first|omega|exact jb|exact jc ‹False›|skip
   all_goals first
    |omega
    |exact hok.1
    |exact hok.2.2.2.1.1
    |(exact(hok.2.2.2.1.2 _ ‹_›).1)
    |(exact(hok.2.2.2.1.2 _ ‹_›).2)
    |exact(hS (by omega)).1.1
    |exact(hS (by omega)).1.2
    |(exact(hS (by omega)).1.2 ‹_›)
    |(have:=((hS (by omega)).2 _ rfl).1;omega)
    |exact hA (i+1,r.q.l,r.q.n,r.q.b,r.q.s,⟨c.q,r.h,r.b,r.i,r.w⟩,o++r.o) ((hS (by omega)).2 _ rfl).2 (by dsimp only;omega)
    |(obtain⟨r3,r4,r5⟩:=hend (by omega) hp;simp only [Sto.mk.injEq] at r3;obtain⟨r6,r7,r8,r9⟩:=r3;simp [r4,r5,r6,r7,r8,r9,hd5];done)
 · refine orcL ?_;go_invoke;refine orcS (by kernel_rfl) ?_
   simp only [zq,Nat.reduceAdd]
   have hh: ∀ {α:Type} (y:α),I.hid y=y:=fun y=>by subst hI;rfl
   simp only [hh];generalize zZ (zF q x).out=J at *
   (repeat' (first|refine ja ?_ ?_|intro _))
   all_goals try(subst hI;(simp only [nrmA,nrmB,nrlB,reduceCtorEq,V0.agg.injEq,HO.pack.injEq,HO.obj.injEq,HO.abs.injEq,Gh.cn.injEq] at *);first|done|omega|exact hN|(obtain⟨r1,r2,r3,r4⟩:=hd4 (by omega);simp only [Sto.mk.injEq] at r3;obtain⟨r5,r6,r7,r8⟩:=r3;simp [r1,r2,r4,r5,r6,r7,r8];done))
   have hp: ¬ q.pos=4:=by
    subst hI;simp only [nrmA,nrmB,nrlB,reduceCtorEq] at *;omega
   refine zB hI zh mixed [xR,xQ,xP,xO,yw,yu,yH,yG,yP,yO,yY,yX,wY,wX] hX [0,1,8,37,38,39] (fun(g:Nat × List Upl × Int × Str × Int × Cn × Str)=>match g with|(i,l1,n1,b1,s1,c,o)=>FdA x0 J i l1 n1 b1 s1 c o (zF q x)) (fun(g:Nat × List Upl × Int × Str × Int × Cn × Str)=>match g with|(i,l1,n1,b1,s1,c,o)=>⟨[(0,.v (.one (.ptr 0 0))),(1,.v (.one (.p (.int .i64 1)))),(8,.v (.one (.row 6))),(37,.v (.one (.row 7))),(38,.v (.one (.p (.int .i64 ((I.len (α:=Evt) J)))))),(39,.v (.one (.p (.int .i64 i))))],[.obj 50 [(.ptr 1 0),(.ptr 2 0),(.ptr 3 0),(.ptr 4 0),(.ptr 5 0)],.pack [.obj 54 [(.ptr 1 0),(.ptr 2 0)],.pack [.obj 124 [(.row 1),(.p (.int .i64 n1))],.row .upl 81 l1],.pack [.obj 156 [(.row 1),(.p (.int .i64 s1))],.row .byte 5 b1]],.abs (.cn c0),.abs (.cn c),.abs (.cn c2),.abs (.cn c3),.row .byte 5 o,.row .evt 34 J],56,none⟩) (fun(g:Nat × List Upl × Int × Str × Int × Cn × Str)=>match g with|(i,l1,n1,b1,s1,c,o)=>J.length - i) (0,l,n,b,s,⟨zF q x,⟨m,t,mi,f,le⟩,cb,li,true⟩,[]) (by kernel_rfl) (by kernel_rfl) ?_ ?_
   · exact hA0
   rintro⟨i,l1,n1,b1,s1,c,o⟩ h1 A hA;simp only at hA h1;have hok:=Ug hJ h1;have hol:=h1.ol;have hil:=h1.le;have hln:=hJ.ln;have hS:=fun h=>zg8 hJ h1 h ⟨0,⟨[],[],0,[],0⟩,[],⟨[],[],[],[]⟩,0⟩;have hend:=hend _ _ _ _ _ _ _ h1
   refine orcL ?_;go_invoke;refine orcS (by kernel_rfl) ?_
   simp only [zq,Nat.reduceAdd]
   have e1:I.get J ⟨0,⟨[],[],0,[],0⟩,[],⟨[],[],[],[]⟩,0⟩ (i:Int)=J.getD i ⟨0,⟨[],[],0,[],0⟩,[],⟨[],[],[],[]⟩,0⟩:=by subst hI;first|rfl|simp
   simp only [e1];generalize J.getD i ⟨0,⟨[],[],0,[],0⟩,[],⟨[],[],[],[]⟩,0⟩=E at *;have e0:(⟨E.kind,⟨E.head.method,E.head.target,E.head.minor,E.head.fields,E.head.length⟩,E.bytes,⟨E.part.name,E.part.file,E.part.type,E.part.bytes⟩,E.code⟩:Evt)=E:=rfl;simp only [e0,hh];generalize hr:evG ⟨⟨l1,n1,b1,s1⟩,c.h,c.body,c.live,c.own,[]⟩ E=r at *;have hd5:=hd5 hp;subst hI;simp only [nrmA,nrmB,nrlB,reduceCtorEq,V0.agg.injEq,HO.pack.injEq,HO.obj.injEq,HO.abs.injEq,Gh.cn.injEq]
   (repeat' (first|refine ja ?_ ?_|intro _))<;>first|omega|exact jb|exact jc ‹False›|skip
   all_goals first
    |omega
    |exact hok.1
    |exact hok.2.2.2.1.1
    |(exact(hok.2.2.2.1.2 _ ‹_›).1)
    |(exact(hok.2.2.2.1.2 _ ‹_›).2)
    |exact(hS (by omega)).1.1
    |exact(hS (by omega)).1.2
    |(exact(hS (by omega)).1.2 ‹_›)
    |(have:=((hS (by omega)).2 _ rfl).1;omega)
    |exact hA (i+1,r.q.l,r.q.n,r.q.b,r.q.s,⟨c.q,r.h,r.b,r.i,r.w⟩,o++r.o) ((hS (by omega)).2 _ rfl).2 (by dsimp only;omega)
    |(obtain⟨r3,r4,r5⟩:=hend (by omega) hp;simp only [Sto.mk.injEq] at r3;obtain⟨r6,r7,r8,r9⟩:=r3;simp [r4,r5,r6,r7,r8,r9,hd5];done)
def uU:Know Tryz.prog:=⟨14,VX,zgD⟩
def uT:Know Tryz.prog:=⟨14,fun I=>zy I (VX I),zf zgD⟩
def VW (I:Alg) (args:List D) (hp:List HO):Option CT:=match args,hp with
 |[.v (.one (.ptr 0 0)),.v (.one (.p (.int .i64 2))),.v (.one (.p (.list .byte x)))],[.obj 50 [(.ptr 1 0),(.ptr 2 0),(.ptr 3 0),(.ptr 4 0),(.ptr 5 0)],.pack [.obj 54 [(.ptr 1 0),(.ptr 2 0)],.pack [.obj 124 [(.row 1),(.p (.int .i64 n))],.row .upl 81 l],.pack [.obj 156 [(.row 1),(.p (.int .i64 s))],.row .byte 5 b]],.abs (.cn c0),.abs (.cn c1),.abs (.cn c2),.abs (.cn c3)]=>(fun(l:List Upl) (n:Int) (b:Str) (s:Int) (c0 c1 c2 c3:Cn) (x:Str)=>(some (.one ⟨I.hid (FdN ⟨l,n,b,s⟩ c2 x),(.ret (.tup [(.one (.p (.list .byte (I.hid ((fdO ⟨l,n,b,s⟩ c2 x)))))),(.one (.p (.int .i64 (I.hid ((fdK c2))))))])),[.obj 50 [(.ptr 1 0),(.ptr 2 0),(.ptr 3 0),(.ptr 4 0),(.ptr 5 0)],.pack [.obj 54 [(.ptr 1 0),(.ptr 2 0)],.pack [.obj 124 [(.row 1),(.p (.int .i64 (I.hid ((fdQ ⟨l,n,b,s⟩ c2 x).n))))],.row .upl 81 (I.hid ((fdQ ⟨l,n,b,s⟩ c2 x).l))],.pack [.obj 156 [(.row 1),(.p (.int .i64 (I.hid ((fdQ ⟨l,n,b,s⟩ c2 x).s))))],.row .byte 5 (I.hid ((fdQ ⟨l,n,b,s⟩ c2 x).b))]],.abs (.cn c0),.abs (.cn c1),.abs (.cn (I.hid ((fdC ⟨l,n,b,s⟩ c2 x)))),.abs (.cn c3)]⟩):Option CT)) l n b s c0 c1 c2 c3 x
 |_,_=>none
set_option maxHeartbeats 2000000 in
theorem zgC:zx Tryz.prog 14 (VW alg):=by
 intro args hp r h;unfold VW at h;split at h<;>cases h
 rename_i x n l s b c0 c1 c2 c3
 revert l;intro(l:List Upl)
 simp only [CT.Good,zi];intro hneed;obtain⟨hJ,hN⟩:=zk5 hneed;have hend:=fun l1 n1 b1 s1 c o i h=>zez (q:=⟨l,n,b,s⟩) (c0:=c2) (x:=x) (l:=l1) (n:=n1) (b:=b1) (s:=s1) (c:=c) (o:=o) (i:=i) h;have hA0:=zsI hJ (zF c2.q x) (l:=l) (n:=n) (b:=b) (s:=s) rfl
 have hd4:c2.q.pos=4→fdK c2=18∧fdO ⟨l,n,b,s⟩ c2 x=[]∧fdQ ⟨l,n,b,s⟩ c2 x=⟨l,n,b,s⟩∧fdC ⟨l,n,b,s⟩ c2 x=c2:=fun h=>by unfold fdK fdO fdQ fdC;rw [if_pos h,if_pos h,if_pos h,if_pos h];exact⟨rfl,rfl,rfl,rfl⟩
 have hd5: ¬ c2.q.pos=4→fdK c2=0:=fun h=>by unfold fdK;rw [if_neg h]
 generalize fdK c2=rk at *;generalize fdO ⟨l,n,b,s⟩ c2 x=ro at *;generalize fdQ ⟨l,n,b,s⟩ c2 x=rq at *;generalize fdC ⟨l,n,b,s⟩ c2 x=rc at *;obtain⟨l',n',b',s'⟩:=rq;obtain⟨q,⟨m,t,mi,f,le⟩,cb,li,w⟩:=c2;dsimp only at *;generalize hx0:(⟨⟨l,n,b,s⟩,⟨m,t,mi,f,le⟩,cb,li,w,[]⟩:GE)=x0 at *
 refine spcG zh mixed Tryz.func14 (by kernel_rfl) { cfgG with rl:=[0],nr:=[8],keep:=some [0,1,2,6,7,8,10,37,38,39]} [xR,xQ,xP,xO,yw,yu,yH,yG,yP,yO,yY,yX,wY,wX,uU,uT] (by kernel_rfl) ?_
 intro I X hI hX;clear hneed;cases w
 · refine orcL ?_;go_invoke;refine orcS (by kernel_rfl) ?_
   simp only [zq,Nat.reduceAdd]
   have hh: ∀ {α:Type} (y:α),I.hid y=y:=fun y=>by subst hI;rfl
   simp only [hh];generalize zZ (zF q x).out=J at *
   (repeat' (first|refine ja ?_ ?_|intro _))
   all_goals try(subst hI;(simp only [nrmA,nrmB,nrlB,reduceCtorEq,V0.agg.injEq,HO.pack.injEq,HO.obj.injEq,HO.abs.injEq,Gh.cn.injEq] at *);first|done|omega|exact hN|(obtain⟨r1,r2,r3,r4⟩:=hd4 (by omega);simp only [Sto.mk.injEq] at r3;obtain⟨r5,r6,r7,r8⟩:=r3;simp [r1,r2,r4,r5,r6,r7,r8];done))
   have hp: ¬ q.pos=4:=by
    subst hI;simp only [nrmA,nrmB,nrlB,reduceCtorEq] at *;omega
   refine zB hI zh mixed [xR,xQ,xP,xO,yw,yu,yH,yG,yP,yO,yY,yX,wY,wX,uU,uT] hX [0,1,8,37,38,39] (fun(g:Nat × List Upl × Int × Str × Int × Cn × Str)=>match g with|(i,l1,n1,b1,s1,c,o)=>FdA x0 J i l1 n1 b1 s1 c o (zF q x)) (fun(g:Nat × List Upl × Int × Str × Int × Cn × Str)=>match g with|(i,l1,n1,b1,s1,c,o)=>⟨[(0,.v (.one (.ptr 0 0))),(1,.v (.one (.p (.int .i64 2)))),(8,.v (.one (.row 6))),(37,.v (.one (.row 7))),(38,.v (.one (.p (.int .i64 ((I.len (α:=Evt) J)))))),(39,.v (.one (.p (.int .i64 i))))],[.obj 50 [(.ptr 1 0),(.ptr 2 0),(.ptr 3 0),(.ptr 4 0),(.ptr 5 0)],.pack [.obj 54 [(.ptr 1 0),(.ptr 2 0)],.pack [.obj 124 [(.row 1),(.p (.int .i64 n1))],.row .upl 81 l1],.pack [.obj 156 [(.row 1),(.p (.int .i64 s1))],.row .byte 5 b1]],.abs (.cn c0),.abs (.cn c1),.abs (.cn c),.abs (.cn c3),.row .byte 5 o,.row .evt 34 J],56,none⟩) (fun(g:Nat × List Upl × Int × Str × Int × Cn × Str)=>match g with|(i,l1,n1,b1,s1,c,o)=>J.length - i) (0,l,n,b,s,⟨zF q x,⟨m,t,mi,f,le⟩,cb,li,false⟩,[]) (by kernel_rfl) (by kernel_rfl) ?_ ?_
   · exact hA0
   rintro⟨i,l1,n1,b1,s1,c,o⟩ h1 A hA;simp only at hA h1;have hok:=Ug hJ h1;have hol:=h1.ol;have hil:=h1.le;have hln:=hJ.ln;have hS:=fun h=>zg8 hJ h1 h ⟨0,⟨[],[],0,[],0⟩,[],⟨[],[],[],[]⟩,0⟩;have hend:=hend _ _ _ _ _ _ _ h1
   refine orcL ?_;go_invoke;refine orcS (by kernel_rfl) ?_
   simp only [zq,Nat.reduceAdd]
   have e1:I.get J ⟨0,⟨[],[],0,[],0⟩,[],⟨[],[],[],[]⟩,0⟩ (i:Int)=J.getD i ⟨0,⟨[],[],0,[],0⟩,[],⟨[],[],[],[]⟩,0⟩:=by subst hI;first|rfl|simp
   simp only [e1];generalize J.getD i ⟨0,⟨[],[],0,[],0⟩,[],⟨[],[],[],[]⟩,0⟩=E at *;have e0:(⟨E.kind,⟨E.head.method,E.head.target,E.head.minor,E.head.fields,E.head.length⟩,E.bytes,⟨E.part.name,E.part.file,E.part.type,E.part.bytes⟩,E.code⟩:Evt)=E:=rfl;simp only [e0,hh];generalize hr:evG ⟨⟨l1,n1,b1,s1⟩,c.h,c.body,c.live,c.own,[]⟩ E=r at *;have hd5:=hd5 hp;subst hI;simp only [nrmA,nrmB,nrlB,reduceCtorEq,V0.agg.injEq,HO.pack.injEq,HO.obj.injEq,HO.abs.injEq,Gh.cn.injEq]
   (repeat' (first|refine ja ?_ ?_|intro _))<;>first|omega|exact jb|exact jc ‹False›|skip
   all_goals first
    |omega
    |exact hok.1
    |exact hok.2.2.2.1.1
    |(exact(hok.2.2.2.1.2 _ ‹_›).1)
    |(exact(hok.2.2.2.1.2 _ ‹_›).2)
    |exact(hS (by omega)).1.1
    |exact(hS (by omega)).1.2
    |(exact(hS (by omega)).1.2 ‹_›)
    |(have:=((hS (by omega)).2 _ rfl).1;omega)
    |exact hA (i+1,r.q.l,r.q.n,r.q.b,r.q.s,⟨c.q,r.h,r.b,r.i,r.w⟩,o++r.o) ((hS (by omega)).2 _ rfl).2 (by dsimp only;omega)
    |(obtain⟨r3,r4,r5⟩:=hend (by omega) hp;simp only [Sto.mk.injEq] at r3;obtain⟨r6,r7,r8,r9⟩:=r3;simp [r4,r5,r6,r7,r8,r9,hd5];done)
 · refine orcL ?_;go_invoke;refine orcS (by kernel_rfl) ?_
   simp only [zq,Nat.reduceAdd]
   have hh: ∀ {α:Type} (y:α),I.hid y=y:=fun y=>by subst hI;rfl
   simp only [hh];generalize zZ (zF q x).out=J at *
   (repeat' (first|refine ja ?_ ?_|intro _))
   all_goals try(subst hI;(simp only [nrmA,nrmB,nrlB,reduceCtorEq,V0.agg.injEq,HO.pack.injEq,HO.obj.injEq,HO.abs.injEq,Gh.cn.injEq] at *);first|done|omega|exact hN|(obtain⟨r1,r2,r3,r4⟩:=hd4 (by omega);simp only [Sto.mk.injEq] at r3;obtain⟨r5,r6,r7,r8⟩:=r3;simp [r1,r2,r4,r5,r6,r7,r8];done))
   have hp: ¬ q.pos=4:=by
    subst hI;simp only [nrmA,nrmB,nrlB,reduceCtorEq] at *;omega
   refine zB hI zh mixed [xR,xQ,xP,xO,yw,yu,yH,yG,yP,yO,yY,yX,wY,wX,uU,uT] hX [0,1,8,37,38,39] (fun(g:Nat × List Upl × Int × Str × Int × Cn × Str)=>match g with|(i,l1,n1,b1,s1,c,o)=>FdA x0 J i l1 n1 b1 s1 c o (zF q x)) (fun(g:Nat × List Upl × Int × Str × Int × Cn × Str)=>match g with|(i,l1,n1,b1,s1,c,o)=>⟨[(0,.v (.one (.ptr 0 0))),(1,.v (.one (.p (.int .i64 2)))),(8,.v (.one (.row 6))),(37,.v (.one (.row 7))),(38,.v (.one (.p (.int .i64 ((I.len (α:=Evt) J)))))),(39,.v (.one (.p (.int .i64 i))))],[.obj 50 [(.ptr 1 0),(.ptr 2 0),(.ptr 3 0),(.ptr 4 0),(.ptr 5 0)],.pack [.obj 54 [(.ptr 1 0),(.ptr 2 0)],.pack [.obj 124 [(.row 1),(.p (.int .i64 n1))],.row .upl 81 l1],.pack [.obj 156 [(.row 1),(.p (.int .i64 s1))],.row .byte 5 b1]],.abs (.cn c0),.abs (.cn c1),.abs (.cn c),.abs (.cn c3),.row .byte 5 o,.row .evt 34 J],56,none⟩) (fun(g:Nat × List Upl × Int × Str × Int × Cn × Str)=>match g with|(i,l1,n1,b1,s1,c,o)=>J.length - i) (0,l,n,b,s,⟨zF q x,⟨m,t,mi,f,le⟩,cb,li,true⟩,[]) (by kernel_rfl) (by kernel_rfl) ?_ ?_
   · exact hA0
   rintro⟨i,l1,n1,b1,s1,c,o⟩ h1 A hA;simp only at hA h1;have hok:=Ug hJ h1;have hol:=h1.ol;have hil:=h1.le;have hln:=hJ.ln;have hS:=fun h=>zg8 hJ h1 h ⟨0,⟨[],[],0,[],0⟩,[],⟨[],[],[],[]⟩,0⟩;have hend:=hend _ _ _ _ _ _ _ h1
   refine orcL ?_;go_invoke;refine orcS (by kernel_rfl) ?_
   simp only [zq,Nat.reduceAdd]
   have e1:I.get J ⟨0,⟨[],[],0,[],0⟩,[],⟨[],[],[],[]⟩,0⟩ (i:Int)=J.getD i ⟨0,⟨[],[],0,[],0⟩,[],⟨[],[],[],[]⟩,0⟩:=by subst hI;first|rfl|simp
   simp only [e1];generalize J.getD i ⟨0,⟨[],[],0,[],0⟩,[],⟨[],[],[],[]⟩,0⟩=E at *;have e0:(⟨E.kind,⟨E.head.method,E.head.target,E.head.minor,E.head.fields,E.head.length⟩,E.bytes,⟨E.part.name,E.part.file,E.part.type,E.part.bytes⟩,E.code⟩:Evt)=E:=rfl;simp only [e0,hh];generalize hr:evG ⟨⟨l1,n1,b1,s1⟩,c.h,c.body,c.live,c.own,[]⟩ E=r at *;have hd5:=hd5 hp;subst hI;simp only [nrmA,nrmB,nrlB,reduceCtorEq,V0.agg.injEq,HO.pack.injEq,HO.obj.injEq,HO.abs.injEq,Gh.cn.injEq]
   (repeat' (first|refine ja ?_ ?_|intro _))<;>first|omega|exact jb|exact jc ‹False›|skip
   all_goals first
    |omega
    |exact hok.1
    |exact hok.2.2.2.1.1
    |(exact(hok.2.2.2.1.2 _ ‹_›).1)
    |(exact(hok.2.2.2.1.2 _ ‹_›).2)
    |exact(hS (by omega)).1.1
    |exact(hS (by omega)).1.2
    |(exact(hS (by omega)).1.2 ‹_›)
    |(have:=((hS (by omega)).2 _ rfl).1;omega)
    |exact hA (i+1,r.q.l,r.q.n,r.q.b,r.q.s,⟨c.q,r.h,r.b,r.i,r.w⟩,o++r.o) ((hS (by omega)).2 _ rfl).2 (by dsimp only;omega)
    |(obtain⟨r3,r4,r5⟩:=hend (by omega) hp;simp only [Sto.mk.injEq] at r3;obtain⟨r6,r7,r8,r9⟩:=r3;simp [r4,r5,r6,r7,r8,r9,hd5];done)
def YA:Know Tryz.prog:=⟨14,VW,zgC⟩
def Yz:Know Tryz.prog:=⟨14,fun I=>zy I (VW I),zf zgC⟩
def VU (I:Alg) (args:List D) (hp:List HO):Option CT:=match args,hp with
 |[.v (.one (.ptr 0 0)),.v (.one (.p (.int .i64 3))),.v (.one (.p (.list .byte x)))],[.obj 50 [(.ptr 1 0),(.ptr 2 0),(.ptr 3 0),(.ptr 4 0),(.ptr 5 0)],.pack [.obj 54 [(.ptr 1 0),(.ptr 2 0)],.pack [.obj 124 [(.row 1),(.p (.int .i64 n))],.row .upl 81 l],.pack [.obj 156 [(.row 1),(.p (.int .i64 s))],.row .byte 5 b]],.abs (.cn c0),.abs (.cn c1),.abs (.cn c2),.abs (.cn c3)]=>(fun(l:List Upl) (n:Int) (b:Str) (s:Int) (c0 c1 c2 c3:Cn) (x:Str)=>(some (.one ⟨I.hid (FdN ⟨l,n,b,s⟩ c3 x),(.ret (.tup [(.one (.p (.list .byte (I.hid ((fdO ⟨l,n,b,s⟩ c3 x)))))),(.one (.p (.int .i64 (I.hid ((fdK c3))))))])),[.obj 50 [(.ptr 1 0),(.ptr 2 0),(.ptr 3 0),(.ptr 4 0),(.ptr 5 0)],.pack [.obj 54 [(.ptr 1 0),(.ptr 2 0)],.pack [.obj 124 [(.row 1),(.p (.int .i64 (I.hid ((fdQ ⟨l,n,b,s⟩ c3 x).n))))],.row .upl 81 (I.hid ((fdQ ⟨l,n,b,s⟩ c3 x).l))],.pack [.obj 156 [(.row 1),(.p (.int .i64 (I.hid ((fdQ ⟨l,n,b,s⟩ c3 x).s))))],.row .byte 5 (I.hid ((fdQ ⟨l,n,b,s⟩ c3 x).b))]],.abs (.cn c0),.abs (.cn c1),.abs (.cn c2),.abs (.cn (I.hid ((fdC ⟨l,n,b,s⟩ c3 x))))]⟩):Option CT)) l n b s c0 c1 c2 c3 x
 |_,_=>none
set_option maxHeartbeats 2000000 in
theorem zgB:zx Tryz.prog 14 (VU alg):=by
 intro args hp r h;unfold VU at h;split at h<;>cases h
 rename_i x n l s b c0 c1 c2 c3
 revert l;intro(l:List Upl)
 simp only [CT.Good,zi];intro hneed;obtain⟨hJ,hN⟩:=zk5 hneed;have hend:=fun l1 n1 b1 s1 c o i h=>zez (q:=⟨l,n,b,s⟩) (c0:=c3) (x:=x) (l:=l1) (n:=n1) (b:=b1) (s:=s1) (c:=c) (o:=o) (i:=i) h;have hA0:=zsI hJ (zF c3.q x) (l:=l) (n:=n) (b:=b) (s:=s) rfl
 have hd4:c3.q.pos=4→fdK c3=18∧fdO ⟨l,n,b,s⟩ c3 x=[]∧fdQ ⟨l,n,b,s⟩ c3 x=⟨l,n,b,s⟩∧fdC ⟨l,n,b,s⟩ c3 x=c3:=fun h=>by unfold fdK fdO fdQ fdC;rw [if_pos h,if_pos h,if_pos h,if_pos h];exact⟨rfl,rfl,rfl,rfl⟩
 have hd5: ¬ c3.q.pos=4→fdK c3=0:=fun h=>by unfold fdK;rw [if_neg h]
 generalize fdK c3=rk at *;generalize fdO ⟨l,n,b,s⟩ c3 x=ro at *;generalize fdQ ⟨l,n,b,s⟩ c3 x=rq at *;generalize fdC ⟨l,n,b,s⟩ c3 x=rc at *;obtain⟨l',n',b',s'⟩:=rq;obtain⟨q,⟨m,t,mi,f,le⟩,cb,li,w⟩:=c3;dsimp only at *;generalize hx0:(⟨⟨l,n,b,s⟩,⟨m,t,mi,f,le⟩,cb,li,w,[]⟩:GE)=x0 at *
 refine spcG zh mixed Tryz.func14 (by kernel_rfl) { cfgG with rl:=[0],nr:=[8],keep:=some [0,1,2,6,7,8,10,37,38,39]} [xR,xQ,xP,xO,yw,yu,yH,yG,yP,yO,yY,yX,wY,wX,uU,uT,YA,Yz] (by kernel_rfl) ?_
 intro I X hI hX;clear hneed;cases w
 · refine orcL ?_;go_invoke;refine orcS (by kernel_rfl) ?_
   simp only [zq,Nat.reduceAdd]
   have hh: ∀ {α:Type} (y:α),I.hid y=y:=fun y=>by subst hI;rfl
   simp only [hh];generalize zZ (zF q x).out=J at *
   (repeat' (first|refine ja ?_ ?_|intro _))
   all_goals try(subst hI;(simp only [nrmA,nrmB,nrlB,reduceCtorEq,V0.agg.injEq,HO.pack.injEq,HO.obj.injEq,HO.abs.injEq,Gh.cn.injEq] at *);first|done|omega|exact hN|(obtain⟨r1,r2,r3,r4⟩:=hd4 (by omega);simp only [Sto.mk.injEq] at r3;obtain⟨r5,r6,r7,r8⟩:=r3;simp [r1,r2,r4,r5,r6,r7,r8];done))
   have hp: ¬ q.pos=4:=by
    subst hI;simp only [nrmA,nrmB,nrlB,reduceCtorEq] at *;omega
   refine zB hI zh mixed [xR,xQ,xP,xO,yw,yu,yH,yG,yP,yO,yY,yX,wY,wX,uU,uT,YA,Yz] hX [0,1,8,37,38,39] (fun(g:Nat × List Upl × Int × Str × Int × Cn × Str)=>match g with|(i,l1,n1,b1,s1,c,o)=>FdA x0 J i l1 n1 b1 s1 c o (zF q x)) (fun(g:Nat × List Upl × Int × Str × Int × Cn × Str)=>match g with|(i,l1,n1,b1,s1,c,o)=>⟨[(0,.v (.one (.ptr 0 0))),(1,.v (.one (.p (.int .i64 3)))),(8,.v (.one (.row 6))),(37,.v (.one (.row 7))),(38,.v (.one (.p (.int .i64 ((I.len (α:=Evt) J)))))),(39,.v (.one (.p (.int .i64 i))))],[.obj 50 [(.ptr 1 0),(.ptr 2 0),(.ptr 3 0),(.ptr 4 0),(.ptr 5 0)],.pack [.obj 54 [(.ptr 1 0),(.ptr 2 0)],.pack [.obj 124 [(.row 1),(.p (.int .i64 n1))],.row .upl 81 l1],.pack [.obj 156 [(.row 1),(.p (.int .i64 s1))],.row .byte 5 b1]],.abs (.cn c0),.abs (.cn c1),.abs (.cn c2),.abs (.cn c),.row .byte 5 o,.row .evt 34 J],56,none⟩) (fun(g:Nat × List Upl × Int × Str × Int × Cn × Str)=>match g with|(i,l1,n1,b1,s1,c,o)=>J.length - i) (0,l,n,b,s,⟨zF q x,⟨m,t,mi,f,le⟩,cb,li,false⟩,[]) (by kernel_rfl) (by kernel_rfl) ?_ ?_
   · exact hA0
   rintro⟨i,l1,n1,b1,s1,c,o⟩ h1 A hA;simp only at hA h1;have hok:=Ug hJ h1;have hol:=h1.ol;have hil:=h1.le;have hln:=hJ.ln;have hS:=fun h=>zg8 hJ h1 h ⟨0,⟨[],[],0,[],0⟩,[],⟨[],[],[],[]⟩,0⟩;have hend:=hend _ _ _ _ _ _ _ h1
   refine orcL ?_;go_invoke;refine orcS (by kernel_rfl) ?_
   simp only [zq,Nat.reduceAdd]
   have e1:I.get J ⟨0,⟨[],[],0,[],0⟩,[],⟨[],[],[],[]⟩,0⟩ (i:Int)=J.getD i ⟨0,⟨[],[],0,[],0⟩,[],⟨[],[],[],[]⟩,0⟩:=by subst hI;first|rfl|simp
   simp only [e1];generalize J.getD i ⟨0,⟨[],[],0,[],0⟩,[],⟨[],[],[],[]⟩,0⟩=E at *;have e0:(⟨E.kind,⟨E.head.method,E.head.target,E.head.minor,E.head.fields,E.head.length⟩,E.bytes,⟨E.part.name,E.part.file,E.part.type,E.part.bytes⟩,E.code⟩:Evt)=E:=rfl;simp only [e0,hh];generalize hr:evG ⟨⟨l1,n1,b1,s1⟩,c.h,c.body,c.live,c.own,[]⟩ E=r at *;have hd5:=hd5 hp;subst hI;simp only [nrmA,nrmB,nrlB,reduceCtorEq,V0.agg.injEq,HO.pack.injEq,HO.obj.injEq,HO.abs.injEq,Gh.cn.injEq]
   (repeat' (first|refine ja ?_ ?_|intro _))<;>first|omega|exact jb|exact jc ‹False›|skip
   all_goals first
    |omega
    |exact hok.1
    |exact hok.2.2.2.1.1
    |(exact(hok.2.2.2.1.2 _ ‹_›).1)
    |(exact(hok.2.2.2.1.2 _ ‹_›).2)
    |exact(hS (by omega)).1.1
    |exact(hS (by omega)).1.2
    |(exact(hS (by omega)).1.2 ‹_›)
    |(have:=((hS (by omega)).2 _ rfl).1;omega)
    |exact hA (i+1,r.q.l,r.q.n,r.q.b,r.q.s,⟨c.q,r.h,r.b,r.i,r.w⟩,o++r.o) ((hS (by omega)).2 _ rfl).2 (by dsimp only;omega)
    |(obtain⟨r3,r4,r5⟩:=hend (by omega) hp;simp only [Sto.mk.injEq] at r3;obtain⟨r6,r7,r8,r9⟩:=r3;simp [r4,r5,r6,r7,r8,r9,hd5];done)
 · refine orcL ?_;go_invoke;refine orcS (by kernel_rfl) ?_
   simp only [zq,Nat.reduceAdd]
   have hh: ∀ {α:Type} (y:α),I.hid y=y:=fun y=>by subst hI;rfl
   simp only [hh];generalize zZ (zF q x).out=J at *
   (repeat' (first|refine ja ?_ ?_|intro _))
   all_goals try(subst hI;(simp only [nrmA,nrmB,nrlB,reduceCtorEq,V0.agg.injEq,HO.pack.injEq,HO.obj.injEq,HO.abs.injEq,Gh.cn.injEq] at *);first|done|omega|exact hN|(obtain⟨r1,r2,r3,r4⟩:=hd4 (by omega);simp only [Sto.mk.injEq] at r3;obtain⟨r5,r6,r7,r8⟩:=r3;simp [r1,r2,r4,r5,r6,r7,r8];done))
   have hp: ¬ q.pos=4:=by
    subst hI;simp only [nrmA,nrmB,nrlB,reduceCtorEq] at *;omega
   refine zB hI zh mixed [xR,xQ,xP,xO,yw,yu,yH,yG,yP,yO,yY,yX,wY,wX,uU,uT,YA,Yz] hX [0,1,8,37,38,39] (fun(g:Nat × List Upl × Int × Str × Int × Cn × Str)=>match g with|(i,l1,n1,b1,s1,c,o)=>FdA x0 J i l1 n1 b1 s1 c o (zF q x)) (fun(g:Nat × List Upl × Int × Str × Int × Cn × Str)=>match g with|(i,l1,n1,b1,s1,c,o)=>⟨[(0,.v (.one (.ptr 0 0))),(1,.v (.one (.p (.int .i64 3)))),(8,.v (.one (.row 6))),(37,.v (.one (.row 7))),(38,.v (.one (.p (.int .i64 ((I.len (α:=Evt) J)))))),(39,.v (.one (.p (.int .i64 i))))],[.obj 50 [(.ptr 1 0),(.ptr 2 0),(.ptr 3 0),(.ptr 4 0),(.ptr 5 0)],.pack [.obj 54 [(.ptr 1 0),(.ptr 2 0)],.pack [.obj 124 [(.row 1),(.p (.int .i64 n1))],.row .upl 81 l1],.pack [.obj 156 [(.row 1),(.p (.int .i64 s1))],.row .byte 5 b1]],.abs (.cn c0),.abs (.cn c1),.abs (.cn c2),.abs (.cn c),.row .byte 5 o,.row .evt 34 J],56,none⟩) (fun(g:Nat × List Upl × Int × Str × Int × Cn × Str)=>match g with|(i,l1,n1,b1,s1,c,o)=>J.length - i) (0,l,n,b,s,⟨zF q x,⟨m,t,mi,f,le⟩,cb,li,true⟩,[]) (by kernel_rfl) (by kernel_rfl) ?_ ?_
   · exact hA0
   rintro⟨i,l1,n1,b1,s1,c,o⟩ h1 A hA;simp only at hA h1;have hok:=Ug hJ h1;have hol:=h1.ol;have hil:=h1.le;have hln:=hJ.ln;have hS:=fun h=>zg8 hJ h1 h ⟨0,⟨[],[],0,[],0⟩,[],⟨[],[],[],[]⟩,0⟩;have hend:=hend _ _ _ _ _ _ _ h1
   refine orcL ?_;go_invoke;refine orcS (by kernel_rfl) ?_
   simp only [zq,Nat.reduceAdd]
   have e1:I.get J ⟨0,⟨[],[],0,[],0⟩,[],⟨[],[],[],[]⟩,0⟩ (i:Int)=J.getD i ⟨0,⟨[],[],0,[],0⟩,[],⟨[],[],[],[]⟩,0⟩:=by subst hI;first|rfl|simp
   simp only [e1];generalize J.getD i ⟨0,⟨[],[],0,[],0⟩,[],⟨[],[],[],[]⟩,0⟩=E at *;have e0:(⟨E.kind,⟨E.head.method,E.head.target,E.head.minor,E.head.fields,E.head.length⟩,E.bytes,⟨E.part.name,E.part.file,E.part.type,E.part.bytes⟩,E.code⟩:Evt)=E:=rfl;simp only [e0,hh];generalize hr:evG ⟨⟨l1,n1,b1,s1⟩,c.h,c.body,c.live,c.own,[]⟩ E=r at *;have hd5:=hd5 hp;subst hI;simp only [nrmA,nrmB,nrlB,reduceCtorEq,V0.agg.injEq,HO.pack.injEq,HO.obj.injEq,HO.abs.injEq,Gh.cn.injEq]
   (repeat' (first|refine ja ?_ ?_|intro _))<;>first|omega|exact jb|exact jc ‹False›|skip
   all_goals first
    |omega
    |exact hok.1
    |exact hok.2.2.2.1.1
    |(exact(hok.2.2.2.1.2 _ ‹_›).1)
    |(exact(hok.2.2.2.1.2 _ ‹_›).2)
    |exact(hS (by omega)).1.1
    |exact(hS (by omega)).1.2
    |(exact(hS (by omega)).1.2 ‹_›)
    |(have:=((hS (by omega)).2 _ rfl).1;omega)
    |exact hA (i+1,r.q.l,r.q.n,r.q.b,r.q.s,⟨c.q,r.h,r.b,r.i,r.w⟩,o++r.o) ((hS (by omega)).2 _ rfl).2 (by dsimp only;omega)
    |(obtain⟨r3,r4,r5⟩:=hend (by omega) hp;simp only [Sto.mk.injEq] at r3;obtain⟨r6,r7,r8,r9⟩:=r3;simp [r4,r5,r6,r7,r8,r9,hd5];done)
def zgA:Know Tryz.prog:=⟨14,VU,zgB⟩
def zgz:Know Tryz.prog:=⟨14,fun I=>zy I (VU I),zf zgB⟩
end Go.Proofs.YtkjepecoodjbmaaGreatDoor
