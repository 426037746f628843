/- Texts of this proof, one behind the other: StoA SplC SplS SplD StoB StoN Num TusL RplL LnL LnR ChkL Evt ReqL ReqP SeekL SeekM Mrk FrmL Pfx TusA TusB TusC TusD TusE TusF GatL RplA FrmA FrmB LnA FrmC FrmD FldP FrmE EvJ. -/
import Derived.Lib.ItoaNum
import Derived.Test.YtkjepecoodjbmaaGreatDoorMc
set_option linter.all false
namespace Go.Proofs.YtkjepecoodjbmaaGreatDoor
open Go Go.Sep Go.Ab Go.Jrn
set_option maxRecDepth 100000
def Tq:Cfg:= { sl:=[⟨124,0,.upl,some 81⟩,⟨156,0,.byte,some 5⟩]}
def VD (I:Alg):KU
 |[],[]=>some (.one ⟨I.hid (True),(.ret (.v (.one (.ptr 0 0)))),[.pack [.obj 54 [.ptr 1 0,.ptr 2 0],.pack [.obj 124 [.row 1,.p (.int .i64 0)],.row .upl 81 (I.hid ([]))],.pack [.obj 156 [.row 1,.p (.int .i64 0)],.row .byte 5 (I.hid ([]))]]]⟩)
 |_,_=>none
theorem zgB:zu Tryz.prog 12 (VD alg):=by
 intro args hp r h;unfold VD at h;split at h<;>cases h
 simp only [CT.Good,zh];intro _
 refine spH Tryz.func12 (by kernel_rfl) { Tq with keep:=some [0]} [zjy,zjx,zxK,zxJ] (by kernel_rfl) ?_
 intro I X hI hX
 refine orcL ?_;go_invoke;refine orcS (by kernel_rfl) ?_
 simp only [zi,Nat.reduceAdd];subst hI;exact⟨trivial,trivial,trivial,rfl⟩
def zpJ:Know Tryz.prog:=⟨12,VD,zgB⟩
def zpI:Know Tryz.prog:=⟨12,fun I=>zx I (VD I),zf zgB⟩
def Q8 (I:Alg):KU
 |[.v (.one (.ptr 0 0)),.v (.agg [.p (.int .i64 k),.p (.int .i64 i),.p (.int .i64 m),.p (.list .byte t)])],[.pack [.obj 124 [.row 1,.p (.int .i64 n)],.row .upl 81 l]]=>(fun(l:List Upl) (t:Str)=>(some (.one ⟨I.hid (zL l n∧n≤1000000∧t.length≤1000000),(.ret (.v (.one (.p (.int .i64 (I.hid (zg5 l n ⟨k,i,m,t⟩))))))),[.pack [.obj 124 [.row 1,.p (.int .i64 (I.hid (Sv l n ⟨k,i,m,t⟩)))],.row .upl 81 (I.hid (Sz l n ⟨k,i,m,t⟩))]]⟩):Option CT)) l t
 |_,_=>none
set_option maxHeartbeats 4000000 in
theorem zlf:zu Tryz.prog 110 (Q8 alg):=by
 intro args hp r h;unfold Q8 at h;split at h<;>cases h
 rename_i k i m t n l
 revert l;intro(l:List Upl)
 simp only [CT.Good,zh];intro hneed;obtain⟨hs,hn,ht⟩:=hneed;generalize hc:zg5 l n ⟨k,i,m,t⟩=c;generalize hl:Sz l n ⟨k,i,m,t⟩=l';generalize hN:Sv l n ⟨k,i,m,t⟩=n'
 refine spH Tryz.func110 (by kernel_rfl) { Tq with keep:=some [0,1,3,4,5,6,7,10]} [zn7,zn6,zn9,zn8,zjA,zjz,zqc,zqb,zxh,zxg,uM,uK,Ze,Zd,zt9,zt8] (by kernel_rfl) ?_
 intro I X hI hX
 refine orcL ?_;go_invoke;refine orcS (by kernel_rfl) ?_
 simp only [zi,Nat.reduceAdd];subst hI;simp only [nrmA,nrmB,nrlB,reduceCtorEq,HO.pack.injEq,HO.obj.injEq];unfold zg5 at hc;unfold Sz at hl;unfold Sv at hN;simp only at hc hl hN
 have hci:creC l m t=0→creI l n m t=n+1:=fun h=>by unfold creI;rw [if_pos h]
 (repeat' (first|refine ja ?_ ?_|intro _))<;>first|omega|exact jb|exact jc ‹False›|skip
 all_goals first
  |exact hs
  |exact hn
  |exact ht
  |exact⟨hs,hn,ht⟩
  |exact⟨hs,ht⟩
  |(have:=hci (by assumption);((repeat(first|rewrite [if_pos (by first|omega|assumption|(simp only [*,or_self,or_true,true_or,or_false,false_or,jf,jg,jd,je,and_self,and_true,true_and];done)|(simp only [*];omega)|(simp [*];done)|(simp [*];omega))] at hc|rewrite [if_neg (by first|omega|assumption|(simp only [*,or_self,or_true,true_or,or_false,false_or,jf,jg,jd,je,and_self,and_true,true_and];done)|(simp only [*];omega)|(simp [*];done)|(simp [*];omega))] at hc)));subst hc;((repeat(first|rewrite [if_pos (by first|omega|assumption|(simp only [*,or_self,or_true,true_or,or_false,false_or,jf,jg,jd,je,and_self,and_true,true_and];done)|(simp only [*];omega)|(simp [*];done)|(simp [*];omega))] at hl|rewrite [if_neg (by first|omega|assumption|(simp only [*,or_self,or_true,true_or,or_false,false_or,jf,jg,jd,je,and_self,and_true,true_and];done)|(simp only [*];omega)|(simp [*];done)|(simp [*];omega))] at hl)));subst hl;((repeat(first|rewrite [if_pos (by first|omega|assumption|(simp only [*,or_self,or_true,true_or,or_false,false_or,jf,jg,jd,je,and_self,and_true,true_and];done)|(simp only [*];omega)|(simp [*];done)|(simp [*];omega))] at hN|rewrite [if_neg (by first|omega|assumption|(simp only [*,or_self,or_true,true_or,or_false,false_or,jf,jg,jd,je,and_self,and_true,true_and];done)|(simp only [*];omega)|(simp [*];done)|(simp [*];omega))] at hN)));subst hN;first|rfl|omega)
  |(((repeat(first|rewrite [if_pos (by first|omega|assumption|(simp only [*,or_self,or_true,true_or,or_false,false_or,jf,jg,jd,je,and_self,and_true,true_and];done)|(simp only [*];omega)|(simp [*];done)|(simp [*];omega))] at hc|rewrite [if_neg (by first|omega|assumption|(simp only [*,or_self,or_true,true_or,or_false,false_or,jf,jg,jd,je,and_self,and_true,true_and];done)|(simp only [*];omega)|(simp [*];done)|(simp [*];omega))] at hc)));subst hc;((repeat(first|rewrite [if_pos (by first|omega|assumption|(simp only [*,or_self,or_true,true_or,or_false,false_or,jf,jg,jd,je,and_self,and_true,true_and];done)|(simp only [*];omega)|(simp [*];done)|(simp [*];omega))] at hl|rewrite [if_neg (by first|omega|assumption|(simp only [*,or_self,or_true,true_or,or_false,false_or,jf,jg,jd,je,and_self,and_true,true_and];done)|(simp only [*];omega)|(simp [*];done)|(simp [*];omega))] at hl)));subst hl;((repeat(first|rewrite [if_pos (by first|omega|assumption|(simp only [*,or_self,or_true,true_or,or_false,false_or,jf,jg,jd,je,and_self,and_true,true_and];done)|(simp only [*];omega)|(simp [*];done)|(simp [*];omega))] at hN|rewrite [if_neg (by first|omega|assumption|(simp only [*,or_self,or_true,true_or,or_false,false_or,jf,jg,jd,je,and_self,and_true,true_and];done)|(simp only [*];omega)|(simp [*];done)|(simp [*];omega))] at hN)));subst hN;first|rfl|omega)
def ze0:Know Tryz.prog:=⟨110,Q8,zlf⟩
def zeZ:Know Tryz.prog:=⟨110,fun I=>zx I (Q8 I),zf zlf⟩
def ZO (I:Alg):KU
 |[.v (.one (.ptr 0 0)),.v (.agg [.p (.int .i64 k),.p (.int .i64 i),.p (.int .i64 m),.p (.list .byte t)])],[.pack [.obj 54 [.ptr 1 0,.ptr 2 0],.pack [.obj 124 [.row 1,.p (.int .i64 n)],.row .upl 81 l],.pack [.obj 156 [.row 1,.p (.int .i64 s)],.row .byte 5 b]]]=>(fun(l:List Upl) (b t:Str)=>(some (.one ⟨I.hid (zL l n∧n≤200000∧t.length≤1000000∧b.length≤100000),(.ret (.v (.one (.p (.int .i64 (I.hid (wrtC l n b ⟨k,i,m,t⟩))))))),[.pack [.obj 54 [.ptr 1 0,.ptr 2 0],.pack [.obj 124 [.row 1,.p (.int .i64 (I.hid (wrtN l n b ⟨k,i,m,t⟩)))],.row .upl 81 (I.hid (wrtL l n b ⟨k,i,m,t⟩))],.pack [.obj 156 [.row 1,.p (.int .i64 s)],.row .byte 5 (I.hid (wrtB l n b ⟨k,i,m,t⟩))]]]⟩):Option CT)) l b t
 |_,_=>none
set_option maxHeartbeats 4000000 in
theorem zbC:zu Tryz.prog 105 (ZO alg):=by
 intro args hp r h;unfold ZO at h;split at h<;>cases h
 rename_i k i m t n l s b
 revert l;intro(l:List Upl)
 simp only [CT.Good,zh];intro hneed;obtain⟨hs,hn,ht,hb⟩:=hneed;generalize hc:wrtC l n b ⟨k,i,m,t⟩=c;generalize hl:wrtL l n b ⟨k,i,m,t⟩=l';generalize hN:wrtN l n b ⟨k,i,m,t⟩=n';generalize hB:wrtB l n b ⟨k,i,m,t⟩=b'
 refine spH Tryz.func105 (by kernel_rfl) { Tq with keep:=some [0,1,3,4,5,6,7,8]} [zue,zua,zsD,zsC,ztz,zty,ze0,zeZ] (by kernel_rfl) ?_
 intro I X hI hX
 refine orcL ?_;go_invoke;refine orcS (by kernel_rfl) ?_
 simp only [zi,Nat.reduceAdd];subst hI;simp only [nrmA,nrmB,nrlB,reduceCtorEq,HO.pack.injEq,HO.obj.injEq]
 have hel:(encM ⟨k,i,m,t⟩).length≤2000000:=by
  unfold encM
  split
  · rename_i h
    have:=zvJ h;simp only at this;omega
  · simp
 generalize he:(⟨k,i,m,t⟩:Ent)=e at *
 have hem:encC e=0→encM e=encB e:=fun h=>by
  unfold encC at h;unfold encM
  split at h
  · rename_i h2;rw [if_pos h2]
  · cases h
 have hw0: ∀ x:Str,wrC b x=0→wrB b x=b++x:=fun x h=>by
  unfold wrC at h;unfold wrB
  split at h
  · rename_i h2;rw [if_pos h2]
  · cases h
 have hw1: ∀ x:Str,¬ wrC b x=0→wrB b x=b:=fun x h=>by
  unfold wrC at h;unfold wrB
  split at h
  · exact absurd rfl h
  · rename_i h2;rw [if_neg h2]
 unfold wrtL at hl;unfold wrtN at hN;unfold wrtB at hB;rw [hc] at hl hN hB;unfold wrtC at hc
 (repeat' (first|refine ja ?_ ?_|intro _))<;>first|omega|exact jb|exact jc ‹False›|skip
 all_goals first
  |exact hs
  |(((repeat(first|rewrite [if_pos (by first|omega|assumption|(simp only [*,or_self,or_true,true_or,or_false,false_or,jf,jg,jd,je,and_self,and_true,true_and];done)|(simp only [*];omega)|(simp [*];done)|(simp [*];omega))] at hc|rewrite [if_neg (by first|omega|assumption|(simp only [*,or_self,or_true,true_or,or_false,false_or,jf,jg,jd,je,and_self,and_true,true_and];done)|(simp only [*];omega)|(simp [*];done)|(simp [*];omega))] at hc)));subst hc;((repeat(first|rewrite [if_pos (by first|omega|assumption|(simp only [*,or_self,or_true,true_or,or_false,false_or,jf,jg,jd,je,and_self,and_true,true_and];done)|(simp only [*];omega)|(simp [*];done)|(simp [*];omega))] at hl|rewrite [if_neg (by first|omega|assumption|(simp only [*,or_self,or_true,true_or,or_false,false_or,jf,jg,jd,je,and_self,and_true,true_and];done)|(simp only [*];omega)|(simp [*];done)|(simp [*];omega))] at hl)));subst hl;((repeat(first|rewrite [if_pos (by first|omega|assumption|(simp only [*,or_self,or_true,true_or,or_false,false_or,jf,jg,jd,je,and_self,and_true,true_and];done)|(simp only [*];omega)|(simp [*];done)|(simp [*];omega))] at hN|rewrite [if_neg (by first|omega|assumption|(simp only [*,or_self,or_true,true_or,or_false,false_or,jf,jg,jd,je,and_self,and_true,true_and];done)|(simp only [*];omega)|(simp [*];done)|(simp [*];omega))] at hN)));subst hN;((repeat(first|rewrite [if_pos (by first|omega|assumption|(simp only [*,or_self,or_true,true_or,or_false,false_or,jf,jg,jd,je,and_self,and_true,true_and];done)|(simp only [*];omega)|(simp [*];done)|(simp [*];omega))] at hB|rewrite [if_neg (by first|omega|assumption|(simp only [*,or_self,or_true,true_or,or_false,false_or,jf,jg,jd,je,and_self,and_true,true_and];done)|(simp only [*];omega)|(simp [*];done)|(simp [*];omega))] at hB)));subst hB;first|rfl|omega|exact hw1 _ (by assumption)|(rw [hw0 _ (by assumption),hem (by assumption)]))
def uw:Know Tryz.prog:=⟨105,ZO,zbC⟩
def uq:Know Tryz.prog:=⟨105,fun I=>zx I (ZO I),zf zbC⟩
def qE (I:Alg):KU
 |[.v (.one (.ptr 0 0)),.v (.one (.p (.int .i64 size))),.v (.one (.p (.str t)))],[.pack [.obj 54 [.ptr 1 0,.ptr 2 0],.pack [.obj 124 [.row 1,.p (.int .i64 n)],.row .upl 81 l],.pack [.obj 156 [.row 1,.p (.int .i64 s)],.row .byte 5 b]]]=>(fun(l:List Upl) (b t:Str)=>(some (.one ⟨I.hid (zL l n∧n≤200000∧t.length≤1000000∧b.length≤100000),(.ret (.tup [(.one (.p (.int .i64 (I.hid (if wrtC l n b ⟨1,n+1,size,t⟩=0 then n+1 else 0))))),.one (.p (.int .i64 (I.hid (wrtC l n b ⟨1,n+1,size,t⟩))))])),[.pack [.obj 54 [.ptr 1 0,.ptr 2 0],.pack [.obj 124 [.row 1,.p (.int .i64 (I.hid (wrtN l n b ⟨1,n+1,size,t⟩)))],.row .upl 81 (I.hid (wrtL l n b ⟨1,n+1,size,t⟩))],.pack [.obj 156 [.row 1,.p (.int .i64 s)],.row .byte 5 (I.hid (wrtB l n b ⟨1,n+1,size,t⟩))]]]⟩):Option CT)) l b t
 |_,_=>none
theorem RU:zu Tryz.prog 180 (qE alg):=by
 intro args hp r h;unfold qE at h;split at h<;>cases h
 rename_i size t n l s b
 revert l;intro(l:List Upl)
 simp only [CT.Good,zh];intro hneed;have hn0:=hneed.1.n0
 refine spH Tryz.func180 (by kernel_rfl) { Tq with keep:=some [0,1,2,6,7,8,9]} [zt5,zt4,uw,uq] (by kernel_rfl) ?_
 intro I X hI hX
 refine orcL ?_;go_invoke;refine orcS (by kernel_rfl) ?_
 simp only [zi,Nat.reduceAdd];subst hI;simp only [nrmA,nrmB,nrlB,reduceCtorEq,HO.pack.injEq,HO.obj.injEq]
 exact⟨⟨hn0,by omega⟩,hneed,fun h=>(if_neg h).symm,fun h=>⟨(if_pos h).symm,h.symm⟩⟩
def RS:Know Tryz.prog:=⟨180,qE,RU⟩
def RQ:Know Tryz.prog:=⟨180,fun I=>zx I (qE I),zf RU⟩
def apG (l:List Upl) (id off:Int):Bool:=getB l id&&(decide ((getU l id).sent=0)&& !decide (off=(getU l id).bytes.length))
def apE (id:Int) (x:Str):Ent:=⟨2,id,0,x⟩
def qF (I:Alg):KU
 |[.v (.one (.ptr 0 0)),.v (.one (.p (.int .i64 id))),.v (.one (.p (.int .i64 off))),.v (.one (.p (.list .byte x)))],[.pack [.obj 54 [.ptr 1 0,.ptr 2 0],.pack [.obj 124 [.row 1,.p (.int .i64 n)],.row .upl 81 l],.pack [.obj 156 [.row 1,.p (.int .i64 s)],.row .byte 5 b]]]=>(fun(l:List Upl) (b x:Str)=>(some (.one ⟨I.hid (zL l n∧n≤200000∧x.length≤1000000∧b.length≤100000),(.ret (.v (.one (.p (.int .i64 (I.hid (if apG l id off then 17 else wrtC l n b ⟨2,id,0,x⟩))))))),[.pack [.obj 54 [.ptr 1 0,.ptr 2 0],.pack [.obj 124 [.row 1,(.p (.int .i64 (I.hid (if apG l id off then n else wrtN l n b ⟨2,id,0,x⟩))))],.row .upl 81 (I.hid (if apG l id off then l else wrtL l n b ⟨2,id,0,x⟩))],.pack [.obj 156 [.row 1,.p (.int .i64 s)],.row .byte 5 (I.hid (if apG l id off then b else wrtB l n b ⟨2,id,0,x⟩))]]]⟩):Option CT)) l b x
 |_,_=>none
theorem RV:zu Tryz.prog 185 (qF alg):=by
 intro args hp r h;unfold qF at h;split at h<;>cases h
 rename_i id off x n l s b
 revert l;intro(l:List Upl)
 simp only [CT.Good,zh];intro hneed;generalize hg:apG l id off=g
 refine spH Tryz.func185 (by kernel_rfl) { Tq with keep:=some [0,1,2,3,8,9,10]} [uM,uK,Ze,Zd,uw,uq] (by kernel_rfl) ?_
 intro I X hI hX
 refine orcL ?_;go_invoke;refine orcS (by kernel_rfl) ?_
 simp only [zi,Nat.reduceAdd];subst hI;simp only [nrmA,nrmB,nrlB,reduceCtorEq,HO.pack.injEq,HO.obj.injEq]
 (repeat' (first|refine ja ?_ ?_|intro _))<;>first|omega|exact jb|exact jc ‹False›|skip
 all_goals first
  |exact hneed.1
  |exact hneed
  |exact hneed.2.1
  |exact hneed.2.2.1
  |exact hneed.2.2.2
  |(have h:g=true:=(by rw [← hg];unfold apG;simp [*]);subst h;rfl)
  |(have h:g=false:=(by rw [← hg];unfold apG;simp [*]);subst h;rfl)
def y9:Know Tryz.prog:=⟨185,qF,RV⟩
def y8:Know Tryz.prog:=⟨185,fun I=>zx I (qF I),zf RV⟩
def sO (I:Alg):KU
 |[.v (.one (.ptr 0 0)),.v (.one (.p (.int .i64 id))),.v (.one (.p (.int .i64 size)))],[.pack [.obj 54 [.ptr 1 0,.ptr 2 0],.pack [.obj 124 [.row 1,.p (.int .i64 n)],.row .upl 81 l],.pack [.obj 156 [.row 1,.p (.int .i64 s)],.row .byte 5 b]]]=>(fun(l:List Upl) (b:Str)=>(some (.one ⟨I.hid (zL l n∧n≤200000∧b.length≤100000),(.ret (.v (.one (.p (.int .i64 (I.hid (wrtC l n b ⟨3,id,size,[]⟩))))))),[.pack [.obj 54 [.ptr 1 0,.ptr 2 0],.pack [.obj 124 [.row 1,.p (.int .i64 (I.hid (wrtN l n b ⟨3,id,size,[]⟩)))],.row .upl 81 (I.hid (wrtL l n b ⟨3,id,size,[]⟩))],.pack [.obj 156 [.row 1,.p (.int .i64 s)],.row .byte 5 (I.hid (wrtB l n b ⟨3,id,size,[]⟩))]]]⟩):Option CT)) l b
 |_,_=>none
theorem VF:zu Tryz.prog 186 (sO alg):=by
 intro args hp r h;unfold sO at h;split at h<;>cases h
 rename_i id size n l s b
 revert l;intro(l:List Upl)
 simp only [CT.Good,zh];intro hneed
 refine spH Tryz.func186 (by kernel_rfl) { Tq with keep:=some [0,1,2,6]} [uw,uq] (by kernel_rfl) ?_
 intro I X hI hX
 refine orcL ?_;go_invoke;refine orcS (by kernel_rfl) ?_
 simp only [zi,Nat.reduceAdd];subst hI;simp only [nrmA,nrmB,nrlB,reduceCtorEq,HO.pack.injEq,HO.obj.injEq]
 exact⟨hneed.1,hneed.2.1,by decide,hneed.2.2⟩
def yZ:Know Tryz.prog:=⟨186,sO,VF⟩
def yY:Know Tryz.prog:=⟨186,fun I=>zx I (sO I),zf VF⟩
def Xy (I:Alg):KU
 |[.v (.one (.ptr 0 0)),.v (.one (.p (.int .i64 id)))],[.pack [.obj 54 [.ptr 1 0,.ptr 2 0],.pack [.obj 124 [.row 1,.p (.int .i64 n)],.row .upl 81 l],.pack [.obj 156 [.row 1,.p (.int .i64 s)],.row .byte 5 b]]]=>(fun(l:List Upl) (b:Str)=>(some (.one ⟨I.hid (zL l n∧n≤200000∧b.length≤100000),(.ret (.v (.one (.p (.int .i64 (I.hid (wrtC l n b ⟨4,id,0,[]⟩))))))),[.pack [.obj 54 [.ptr 1 0,.ptr 2 0],.pack [.obj 124 [.row 1,.p (.int .i64 (I.hid (wrtN l n b ⟨4,id,0,[]⟩)))],.row .upl 81 (I.hid (wrtL l n b ⟨4,id,0,[]⟩))],.pack [.obj 156 [.row 1,.p (.int .i64 s)],.row .byte 5 (I.hid (wrtB l n b ⟨4,id,0,[]⟩))]]]⟩):Option CT)) l b
 |_,_=>none
theorem zdp:zu Tryz.prog 134 (Xy alg):=by
 intro args hp r h;unfold Xy at h;split at h<;>cases h
 rename_i id n l s b
 revert l;intro(l:List Upl)
 simp only [CT.Good,zh];intro hneed
 refine spH Tryz.func134 (by kernel_rfl) { Tq with keep:=some [0,1,4]} [uw,uq] (by kernel_rfl) ?_
 intro I X hI hX
 refine orcL ?_;go_invoke;refine orcS (by kernel_rfl) ?_
 simp only [zi,Nat.reduceAdd];subst hI;simp only [nrmA,nrmB,nrlB,reduceCtorEq,HO.pack.injEq,HO.obj.injEq]
 exact⟨hneed.1,hneed.2.1,by decide,hneed.2.2⟩
def wB:Know Tryz.prog:=⟨134,Xy,zdp⟩
def wz:Know Tryz.prog:=⟨134,fun I=>zx I (Xy I),zf zdp⟩
def ZQ (I:Alg):KU
 |[.v (.one (.ptr 0 0)),.v (.one (.p (.int .i64 id)))],[.pack [.obj 54 [.ptr 1 0,.ptr 2 0],.pack [.obj 124 [.row 1,.p (.int .i64 n)],.row .upl 81 l],.pack [.obj 156 [.row 1,.p (.int .i64 s)],.row .byte 5 b]]]=>(fun(l:List Upl) (b:Str)=>(some (.one ⟨I.hid (zL l n∧n≤200000∧b.length≤100000),(.ret (.v (.one (.p (.int .i64 (I.hid (wrtC l n b ⟨5,id,0,[]⟩))))))),[.pack [.obj 54 [.ptr 1 0,.ptr 2 0],.pack [.obj 124 [.row 1,.p (.int .i64 (I.hid (wrtN l n b ⟨5,id,0,[]⟩)))],.row .upl 81 (I.hid (wrtL l n b ⟨5,id,0,[]⟩))],.pack [.obj 156 [.row 1,.p (.int .i64 s)],.row .byte 5 (I.hid (wrtB l n b ⟨5,id,0,[]⟩))]]]⟩):Option CT)) l b
 |_,_=>none
theorem zbE:zu Tryz.prog 102 (ZQ alg):=by
 intro args hp r h;unfold ZQ at h;split at h<;>cases h
 rename_i id n l s b
 revert l;intro(l:List Upl)
 simp only [CT.Good,zh];intro hneed
 refine spH Tryz.func102 (by kernel_rfl) { Tq with keep:=some [0,1,4]} [uw,uq] (by kernel_rfl) ?_
 intro I X hI hX
 refine orcL ?_;go_invoke;refine orcS (by kernel_rfl) ?_
 simp only [zi,Nat.reduceAdd];subst hI;simp only [nrmA,nrmB,nrlB,reduceCtorEq,HO.pack.injEq,HO.obj.injEq]
 exact⟨hneed.1,hneed.2.1,by decide,hneed.2.2⟩
def zjn:Know Tryz.prog:=⟨102,ZQ,zbE⟩
def zjm:Know Tryz.prog:=⟨102,fun I=>zx I (ZQ I),zf zbE⟩
def VE (I:Alg):KU
 |[.v (.one (.ptr 0 0)),.v (.one (.p (.int .i64 id)))],[.pack [.obj 54 [.ptr 1 0,.ptr 2 0],.pack [.obj 124 [.row 1,.p (.int .i64 n)],.row .upl 81 l],.pack [.obj 156 [.row 1,.p (.int .i64 s)],.row .byte 5 b]]]=>(fun(l:List Upl) (b:Str)=>(some (.one ⟨I.hid (zL l n∧n≤200000∧b.length≤100000),(.ret (.v (.one (.p (.int .i64 (I.hid (wrtC l n b ⟨6,id,0,[]⟩))))))),[.pack [.obj 54 [.ptr 1 0,.ptr 2 0],.pack [.obj 124 [.row 1,.p (.int .i64 (I.hid (wrtN l n b ⟨6,id,0,[]⟩)))],.row .upl 81 (I.hid (wrtL l n b ⟨6,id,0,[]⟩))],.pack [.obj 156 [.row 1,.p (.int .i64 s)],.row .byte 5 (I.hid (wrtB l n b ⟨6,id,0,[]⟩))]]]⟩):Option CT)) l b
 |_,_=>none
theorem zgC:zu Tryz.prog 61 (VE alg):=by
 intro args hp r h;unfold VE at h;split at h<;>cases h
 rename_i id n l s b
 revert l;intro(l:List Upl)
 simp only [CT.Good,zh];intro hneed
 refine spH Tryz.func61 (by kernel_rfl) { Tq with keep:=some [0,1,4]} [uw,uq] (by kernel_rfl) ?_
 intro I X hI hX
 refine orcL ?_;go_invoke;refine orcS (by kernel_rfl) ?_
 simp only [zi,Nat.reduceAdd];subst hI;simp only [nrmA,nrmB,nrlB,reduceCtorEq,HO.pack.injEq,HO.obj.injEq]
 exact⟨hneed.1,hneed.2.1,by decide,hneed.2.2⟩
def zpL:Know Tryz.prog:=⟨61,VE,zgC⟩
def zpK:Know Tryz.prog:=⟨61,fun I=>zx I (VE I),zf zgC⟩
def Xw (I:Alg):KU
 |[.v (.one (.ptr 0 0))],[.pack [.obj 54 [.ptr 1 0,.ptr 2 0],.pack [.obj 124 [.row 1,.p (.int .i64 n)],.row .upl 81 l],.pack [.obj 156 [.row 1,.p (.int .i64 s)],.row .byte 5 b]]]=>(fun(l:List Upl) (b:Str)=>(some (.one ⟨I.hid (True),(.ret (.tup [])),[.pack [.obj 54 [.ptr 1 0,.ptr 2 0],.pack [.obj 124 [.row 1,.p (.int .i64 n)],.row .upl 81 l],.pack [.obj 156 [.row 1,.p (.int .i64 (I.hid (b.length:Int)))],.row .byte 5 b]]]⟩):Option CT)) l b
 |_,_=>none
theorem zdn:zu Tryz.prog 62 (Xw alg):=by
 intro args hp r h;unfold Xw at h;split at h<;>cases h
 rename_i n l s b
 revert l;intro(l:List Upl)
 simp only [CT.Good,zh];intro _
 refine spH Tryz.func62 (by kernel_rfl) { Tq with keep:=some [0]} [zpE,zpD] (by kernel_rfl) ?_
 intro I X hI hX
 refine orcL ?_;go_invoke;refine orcS (by kernel_rfl) ?_
 simp only [zi,Nat.reduceAdd];subst hI;simp only [nrmA,nrmB,nrlB,reduceCtorEq,HO.pack.injEq,HO.obj.injEq]
 try trivial
def zN:Know Tryz.prog:=⟨62,Xw,zdn⟩
def zM:Know Tryz.prog:=⟨62,fun I=>zx I (Xw I),zf zdn⟩
def ZP (I:Alg):KU
 |[.v (.one (.ptr 0 0)),.v (.one (.p (.int .i64 keep)))],[.pack [.obj 54 [.ptr 1 0,.ptr 2 0],.pack [.obj 124 [.row 1,.p (.int .i64 n)],.row .upl 81 l],.pack [.obj 156 [.row 1,.p (.int .i64 s)],.row .byte 5 b]]]=>(fun(l:List Upl) (b:Str)=>(some (.one ⟨I.hid (b.length≤100000∧0≤s∧s≤b.length),(.ret (.tup [])),[.pack [.obj 54 [.ptr 1 0,.ptr 2 0],.pack [.obj 124 [.row 1,.p (.int .i64 (I.hid ((crsP b s keep).2)))],.row .upl 81 (I.hid ((crsP b s keep).1))],.pack [.obj 156 [.row 1,.p (.int .i64 (I.hid ((crsB b s keep).length:Int)))],.row .byte 5 (I.hid (crsB b s keep))]]]⟩):Option CT)) l b
 |_,_=>none
set_option maxHeartbeats 4000000 in
theorem zbD:zu Tryz.prog 63 (ZP alg):=by
 intro args hp r h;unfold ZP at h;split at h<;>cases h
 rename_i keep n l s b
 revert l;intro(l:List Upl)
 simp only [CT.Good,zh];intro hneed;obtain⟨hb,hs0,hs1⟩:=hneed;have h1:=zvM b s keep;have h2:=zf5 b s keep;have h3:=zoZ (s:=s) (k:=keep) hb;have h4:=zkY (crB b s keep);unfold crsP;generalize hP:replay ([],0) (crsE b s keep)=pq;generalize hB:((crsB b s keep).length:Int)=bl at *
 refine spH Tryz.func63 (by kernel_rfl) { Tq with fz:=[108],keep:=some [0,1,4,5,7,33,34,35]} [zjy,zjx,ziL,ziK,znJ,znI,znw,znv,zsN,zsM,ze0,zeZ] (by kernel_rfl) ?_
 intro I X hI hX
 refine orcL ?_;go_invoke;refine orcS (by kernel_rfl) ?_
 simp only [zi,Nat.reduceAdd]
 have hh: ∀ {α:Type} (x:α),I.hid x=x:=by subst hI;intros;rfl
 simp only [hh];unfold crsB at *;unfold crsE at *;rw [h1];generalize hb1:crB b s keep=b1 at *;generalize hu:zbr b1=u at *;generalize hb2:cuB b1 u=b2 at *;generalize hes:(Jrn.dec b1).1=es at *
 refine⟨⟨hb,hs0,hs1⟩,by omega,by omega,⟨by omega,by omega,by omega⟩,trivial,?_⟩
 refine lpH hI [zjy,zjx,ziL,ziK,znJ,znI,znw,znv,zsN,zsM,ze0,zeZ] hX [0,33,34,35] (fun(k:Nat)=>k≤es.length) (fun(k:Nat)=>⟨[(0,.v (.one (.ptr 0 0))),(33,.v (.one (.row 1))),(34,.v (.one (.p (.int .i64 ((I.len (α:=Ent) es)))))),(35,.v (.one (.p (.int .i64 k))))],[.pack [.obj 54 [.ptr 1 0,.ptr 2 0],.pack [.obj 124 [.row 1,.p (.int .i64 ((replay ([],0) (es.take k)).2))],.row .upl 81 ((replay ([],0) (es.take k)).1)],.pack [.obj 156 [.row 1,.p (.int .i64 bl)],.row .byte 5 b2]],.row .ent 182 es],46,none⟩) (fun(k:Nat)=>es.length - k) 0 (by kernel_rfl) (by kernel_rfl) ?_ ?_
 · exact jM _
 rintro k hk A hA;have ho:=V6 (es.take k) ([],0) ze2;have hn:=zaz (es.take k) ([],0);generalize hp:replay ([],0) (es.take k)=p at *
 refine orcL ?_;go_invoke;refine orcS (by kernel_rfl) ?_
 simp only [zi,Nat.reduceAdd];subst hI;simp only [nrmA,nrmB,nrlB,reduceCtorEq]
 have hnk:p.2≤200000:=by
  have:(es.take k).length≤es.length:=by rw [jv];omega
  have h30:=h3.1;simp only at hn;omega
 refine⟨fun c=>⟨⟨by omega,by omega⟩,⟨by omega,by omega⟩,⟨ho,by omega,?_⟩,⟨by omega,by omega⟩,?_⟩,fun c=> ?_⟩
 · rw [show es.getD k ⟨0,0,0,[]⟩=es[k]'(by omega) by simp [show k<es.length by omega]]
   have:=h3.2 _ (List.getElem_mem (l:=es) (n:=k) (by omega))
   omega
 · have hA:=hA (k+1) (by omega) (by omega)
   rw [zjI _ (by omega),hp] at hA
   have hx:es.getD k ⟨0,0,0,[]⟩=es[k]'(by omega):=by simp [show k<es.length by omega]
   rw [hx];exact hA
 · rw [jq (by omega)] at hp
   rw [← hp,hP]
def zjl:Know Tryz.prog:=⟨63,ZP,zbD⟩
def zjk:Know Tryz.prog:=⟨63,fun I=>zx I (ZP I),zf zbD⟩
end Go.Proofs.YtkjepecoodjbmaaGreatDoor
namespace Go.Proofs.YtkjepecoodjbmaaGreatDoor
open Go Go.Sep Go.Ab
set_option maxRecDepth 100000
end Go.Proofs.YtkjepecoodjbmaaGreatDoor
namespace Go.Proofs.YtkjepecoodjbmaaGreatDoor
open Go Go.Sep Go.Ab
set_option maxRecDepth 100000
end Go.Proofs.YtkjepecoodjbmaaGreatDoor
namespace Go.Proofs.YtkjepecoodjbmaaGreatDoor
open Go Go.Sep Go.Ab
set_option maxRecDepth 100000
end Go.Proofs.YtkjepecoodjbmaaGreatDoor
namespace Go.Proofs.YtkjepecoodjbmaaGreatDoor
open Go Go.Sep Go.Ab Go.Jrn
set_option maxRecDepth 100000
structure Sto where
 l:List Upl
 n:Int
 b:Str
 s:Int
def zAk (n:Int) (x:Sst):Ent:=
 if x.op=0 then⟨1,n+1,x.n,x.text⟩ else if x.op=1 then⟨2,x.id,0,x.text⟩ else if x.op=2 then⟨3,x.id,x.n,[]⟩ else if x.op=3 then⟨4,x.id,0,[]⟩ else if x.op=4 then⟨5,x.id,0,[]⟩ else⟨6,x.id,0,[]⟩
structure zAT (q:Sto):Prop where
 spl:zL q.l q.n
 n:q.n≤150000
 b:q.b.length≤100000
 s0:0≤q.s
 s1:q.s≤q.b.length
end Go.Proofs.YtkjepecoodjbmaaGreatDoor
namespace Go.Proofs.YtkjepecoodjbmaaGreatDoor
open Go Go.Sep Go.Ab Go.Jrn
set_option maxRecDepth 100000
def Xx (I:Alg):KU
 |[.v (.one (.ptr 0 0)),.v (.one (.p (.int .i64 m)))],[.pack [.obj 54 [.ptr 1 0,.ptr 2 0],.pack [.obj 124 [.row 1,.p (.int .i64 n)],.row .upl 81 l],.pack [.obj 156 [.row 1,.p (.int .i64 s)],.row .byte 5 b]]]=>(fun(l:List Upl) (b:Str)=>(some (.one ⟨I.hid (b.length≤100000),(.ret (.v (.one (.p (.bool (I.hid (TY b m))))))),[.pack [.obj 54 [.ptr 1 0,.ptr 2 0],.pack [.obj 124 [.row 1,.p (.int .i64 n)],.row .upl 81 l],.pack [.obj 156 [.row 1,.p (.int .i64 s)],.row .byte 5 b]]]⟩):Option CT)) l b
 |_,_=>none
theorem zdo:zu Tryz.prog 176 (Xx alg):=by
 intro args hp r h;unfold Xx at h;split at h<;>cases h
 rename_i m n l s b
 revert l;intro(l:List Upl)
 simp only [CT.Good,zh];intro hneed
 refine spH Tryz.func176 (by kernel_rfl) { Tq with keep:=some [0,1,4]} [zqI,zqH] (by kernel_rfl) ?_
 intro I X hI hX
 refine orcL ?_;go_invoke;refine orcS (by kernel_rfl) ?_
 simp only [zi,Nat.reduceAdd];subst hI;simp only [nrmA,nrmB,nrlB,reduceCtorEq,HO.pack.injEq,HO.obj.injEq]
 (repeat' (first|refine ja ?_ ?_|intro _))<;>first|omega|exact jb|exact jc ‹False›|skip
def yX:Know Tryz.prog:=⟨176,Xx,zdo⟩
def yV:Know Tryz.prog:=⟨176,fun I=>zx I (Xx I),zf zdo⟩
end Go.Proofs.YtkjepecoodjbmaaGreatDoor
namespace Go.Proofs.YtkjepecoodjbmaaGreatDoor
open Go Go.Sep Go.Ab
set_option maxRecDepth 100000
def txtN (base:Nat):Nat→Nat→Str
 |0,_=>[]
 |f+1,n=>if n<base then [if n<10 then UInt8.ofNat (48+n) else UInt8.ofNat (87+n)] else txtN base f (n / base)++[if n % base<10 then UInt8.ofNat (48+n % base) else UInt8.ofNat (87+n % base)]
def dgN (d:Nat):UInt8:=if d<10 then UInt8.ofNat (48+d) else UInt8.ofNat (87+d)
theorem zzW {d:Nat} (h:d<10):(([48,49,50,51,52,53,54,55,56,57]:Str).drop d).take 1=[dgN d]:=(by decide+kernel: ∀ d:Fin 10,(([48,49,50,51,52,53,54,55,56,57]:Str).drop d.1).take 1=[dgN d.1]) ⟨d,h⟩
theorem ZL {base f n:Nat} (h:n<base):txtN base (f+1) n=[dgN n]:=by rw [txtN,if_pos h];rfl
theorem YI {base f n:Nat} (h: ¬ n<base):txtN base (f+1) n=txtN base f (n / base)++[dgN (n % base)]:=by rw [txtN,if_neg h];rfl
theorem QT (base:Nat): ∀ f n,(txtN base f n).length≤f
 |0,_=>jL _
 | f +1,n=>by
   rw [txtN]
   split
   · simp
   · have:=QT base f (n / base)
     rw [jk];simp;omega
def zdP (k:Nat) (I:Alg) (args:List D) (hp:List HO):Option CT:=match args,hp with
 |[.v (.one (.p (.int .i64 n)))],[]=>some (.one ⟨I.hid (0≤n∧n<10 ^ k∧k≠0),.ret (.v (.one (.p (.str (I.hid (txtN 10 k n.toNat)))))),[]⟩)
 |_,_=>none
def numK (k:Nat) (h:zu Tryz.prog 30 (zdP k alg)):Know Tryz.prog:=⟨30,zdP k,h⟩
theorem zzl (k:Nat) (hk:k<9) (ih:zu Tryz.prog 30 (zdP k alg)) (n:Int) (hneed:0≤n∧n<10 ^ (k+1)):Spc Tryz.prog 30 [.v (.one (.p (.int .i64 n)))] [] (.ret (.v (.one (.p (.str (txtN 10 (k+1) n.toNat)))))) []:=by
 generalize hr:txtN 10 (k+1) n.toNat=r
 have h9:(10:Int) ^ (k+1)≤1000000000:=by
  obtain rfl|rfl|rfl|rfl|rfl|rfl|rfl|rfl|rfl:k=0∨k=1∨k=2∨k=3∨k=4∨k=5∨k=6∨k=7∨k=8:=by omega
  all_goals decide
 rw [Int.pow_succ] at hneed h9
 have hk0:k=0→(10:Int) ^ k=1:=fun h=>by rw [h];rfl
 have hk1:k≠0→(10:Int)≤10 ^ k:=fun h=>by
  obtain⟨q,rfl⟩: ∃ q,k=q+1:=⟨k - 1,by omega⟩
  have:(0:Int)<10 ^ q:=Int.pow_pos (by decide)
  rw [Int.pow_succ];omega
 refine spH Tryz.func30 (by kernel_rfl) { keep:=some [0,2]} [numK k ih] (by kernel_rfl) ?_
 intro I X hI hX
 refine orcL ?_;go_invoke;refine orcS (by kernel_rfl) ?_
 simp only [zi,Nat.reduceAdd];subst hI;simp only [nrmA,nrmB];generalize(10:Int) ^ k=p at *
 obtain⟨m,rfl⟩: ∃ m:Nat,n=m:=⟨n.toNat,by omega⟩
 rw [jJ] at hr
 have e1:(m:Int).tdiv 10=((m / 10:Nat):Int):=by rw [Int.tdiv_eq_ediv_of_nonneg (by omega)];omega
 have e2:(m:Int).tmod 10=((m % 10:Nat):Int):=by rw [Int.tmod_eq_emod_of_nonneg (by omega)];omega
 have e3:m<10→(([48,49,50,51,52,53,54,55,56,57]:Str).drop m).take (((m:Int)+1).toNat - m)=r:=fun h=>by
  rw [show((m:Int)+1).toNat - m=1 by omega,zzW h,← hr,ZL h]
 have e4:(([48,49,50,51,52,53,54,55,56,57]:Str).drop (m % 10)).take ((((m % 10:Nat):Int)+1).toNat - m % 10)=[dgN (m % 10)]:=by
  rw [show(((m % 10:Nat):Int)+1).toNat - m % 10=1 by omega,zzW (Nat.mod_lt _ (by decide))]
 have e5: ¬ m<10→txtN 10 k (m / 10)++[dgN (m % 10)]=r:=fun h=>by rw [← hr,YI h]
 have hl:=QT 10 k (m / 10);have hl2:=QT 10 k (m % 10)
 have e6:k≠0→txtN 10 k (m % 10)=[dgN (m % 10)]:=fun h=>by
  obtain⟨q,rfl⟩: ∃ q,k=q+1:=⟨k - 1,by omega⟩
  exact ZL (f:=q) (Nat.mod_lt _ (by decide))
 generalize hH:([48,49,50,51,52,53,54,55,56,57]:Str)=H at *
 have hHl:H.length=10:=by rw [← hH];rfl
 simp only [e1,e2,jJ,e4,jh,ji]
 have hkn: ¬ m<10→k≠0:=fun h h0=>by have:=hk0 h0;omega
 (repeat' (first|refine ja ?_ ?_|intro _))<;>first|omega|exact jb|exact jc ‹False›|skip
 all_goals first
  |omega
  |exact e3 (by omega)
  |exact e5 (by omega)
  |exact hkn (by omega)
  |(have:=hk1 (hkn (by omega));omega)
  |(rw [e6 (hkn (by omega))];exact e5 (by omega))
theorem zwi: ∀ k:Nat,k≤9→zu Tryz.prog 30 (zdP k alg)
 | 0,_=>fun args hp r h=>by
   unfold zdP at h
   split at h
   · cases h;exact fun hn=>absurd rfl hn.2.2
   · cases h
 | k+1,hk=>fun args hp r h=>by
   unfold zdP at h
   split at h
   · cases h;exact fun hn=>zzl k (by omega) (zwi k (by omega)) _ ⟨hn.1,hn.2.1⟩
   · cases h
theorem zmI: ∀ (k n:Nat),n<10 ^ (k+1)→Lib.decDigits n=txtN 10 (k+1) n
 | 0,n,h=>by
   rw [Lib.decDigits,dif_pos (by omega),ZL (by omega)]
   unfold dgN
   rw [if_pos (by omega)]
 | k +1,n,h=>by
   rw [Lib.decDigits]
   by_cases hn:n<10
   · rw [dif_pos hn,ZL hn]
     unfold dgN;rw [if_pos hn]
   · rw [dif_neg hn,YI hn,zmI k (n / 10) (by rw [Nat.pow_succ] at h;omega)]
     unfold dgN
     rw [if_pos (Nat.mod_lt _ (by decide))]
def decS (n:Int):Str:=txtN 10 9 n.toNat
theorem zu0 {n:Int} (h0:0≤n) (h1:n<1000000000):Lib.itoa n=decS n:=by
 unfold Lib.itoa decS
 rw [if_neg (by omega),zmI 8 n.toNat (by omega)]
theorem xq (n:Int):(decS n).length≤9:=QT 10 9 _
def zfI (I:Alg):KU
 |[.v (.one (.p (.int .i64 n)))],[]=>some (.one ⟨I.hid (0≤n∧n<1000000000),(.ret (.v (.one (.p (.str (I.hid (decS n))))))),[]⟩)
 |_,_=>none
theorem zrF:zu Tryz.prog 103 (zfI alg):=by
 intro args hp r h;unfold zfI at h;split at h<;>cases h
 rename_i n;simp only [CT.Good,zh];intro hneed
 refine Spc.of_below ⟨_,Tryz.func103,by kernel_rfl,by kernel_rfl⟩ fun S bs w vs hW hM=> ?_
 obtain⟨v,r,rfl⟩: ∃ v r,vs=v::r:=by cases vs with|nil=>exact hM.elim|cons v r=>exact⟨v,r,rfl⟩
 obtain⟨h1,hM⟩:=hM
 obtain rfl:r=[]:=by cases r with|nil=>rfl|cons v r=>exact hM.elim
 cases h1 with
 | int _ _=>
   refine⟨.string (Sep.S (decS n)),.str _ (by have:=xq n;unfold maxLen;omega),?_⟩
   rw [← zu0 hneed.1 hneed.2]
   refine(Tryz.strconv_Itoa n (by omega) (by omega) w (by first|exact hW|exact hW.1)).mono fun e w' h=> ?_
   obtain⟨he,k,os,rfl⟩:=h;refine⟨he,?_⟩
   exact⟨rfl,rfl,rfl,(show w.heap.size≤(w.heap++os).size by rw [Array.size_append];omega),fun j hj=>show(w.heap++os)[j]? =w.heap[j]? from Array.getElem?_append_left hj⟩
def Zj:Know Tryz.prog:=⟨103,zfI,zrF⟩
def Zi:Know Tryz.prog:=⟨103,fun I=>zx I (zfI I),zf zrF⟩
theorem num_ (n:Int) (hneed:0≤n∧n<1000000000):Spc Tryz.prog 30 [.v (.one (.p (.int .i64 n)))] [] (.ret (.v (.one (.p (.str (decS n)))))) []:=zzl 8 (by decide) (zwi 8 (by decide)) n hneed
def zmm (I:Alg):KU
 |[.v (.one (.p (.int .i64 n)))],[]=>some (.one ⟨I.hid (0≤n∧n<1000000000),(.ret (.v (.one (.p (.str (I.hid (decS n))))))),[]⟩)
 |_,_=>none
theorem zwh:zu Tryz.prog 30 (zmm alg):=by
 intro args hp r h;unfold zmm at h
 split at h
 · cases h;exact fun hn=>num_ _ hn
 · cases h
def zrd:Know Tryz.prog:=⟨30,zmm,zwh⟩
def zrb:Know Tryz.prog:=⟨30,fun I=>zx I (zmm I),zf zwh⟩
end Go.Proofs.YtkjepecoodjbmaaGreatDoor
namespace Go.Proofs.YtkjepecoodjbmaaGreatDoor
open Go Go.Sep Go.Ab
def qj:Str:=[47,102,105,108,101,115]
def vH:Str:=[47,102,105,108,101,115,47]
def verS:Str:=[49,46,48,46,48]
def zzf:Str:=[79,80,84,73,79,78,83]
def YV:Str:=[80,79,83,84]
def zu6:Str:=[72,69,65,68]
def zb3:Str:=[80,65,84,67,72]
def zvL:Str:=[68,69,76,69,84,69]
def zjh:Str:=[116,117,115,45,114,101,115,117,109,97,98,108,101]
def yQ:Str:=[117,112,108,111,97,100,45,108,101,110,103,116,104]
def zbt:Str:=[117,112,108,111,97,100,45,100,101,102,101,114,45,108,101,110,103,116,104]
def zje:Str:=[117,112,108,111,97,100,45,109,101,116,97,100,97,116,97]
def Zc:Str:=[117,112,108,111,97,100,45,111,102,102,115,101,116]
def Yk:Str:=[99,111,110,116,101,110,116,45,116,121,112,101]
def octS:Str:=[97,112,112,108,105,99,97,116,105,111,110,47,111,102,102,115,101,116,43,111,99,116,101,116,45,115,116,114,101,97,109]
def zyD:Str:=[84,117,115,45,82,101,115,117,109,97,98,108,101]
def zpj:Str:=[84,117,115,45,86,101,114,115,105,111,110]
def zyF:Str:=[84,117,115,45,77,97,120,45,83,105,122,101]
def zyH:Str:=[84,117,115,45,69,120,116,101,110,115,105,111,110]
def zyG:Str:=[99,114,101,97,116,105,111,110,44,99,114,101,97,116,105,111,110,45,100,101,102,101,114,45,108,101,110,103,116,104,44,116,101,114,109,105,110,97,116,105,111,110]
def locN:Str:=[76,111,99,97,116,105,111,110]
def zbs:Str:=[85,112,108,111,97,100,45,79,102,102,115,101,116]
def zyA:Str:=[85,112,108,111,97,100,45,76,101,110,103,116,104]
def zyB:Str:=[85,112,108,111,97,100,45,68,101,102,101,114,45,76,101,110,103,116,104]
def zc3:Str:=[85,112,108,111,97,100,45,77,101,116,97,100,97,116,97]
def zz7:Str:=[67,97,99,104,101,45,67,111,110,116,114,111,108]
def zzm:Str:=[110,111,45,115,116,111,114,101]
def oneT (f:List Fld) (n:Str):Str × Int:=oneF (valsF f n)
def WE (f:List Fld) (n:Str):Bool:=decide ((oneT f n).2=10)||(decide ((oneT f n).2=0)&&(numA (oneT f n).1 10 9).2)
def zS (f:List Fld) (n:Str):Int:=if(oneT f n).2=10 then -1 else(numA (oneT f n).1 10 9).1
def Uu (f:List Fld):Bool:=decide ((oneT f zbt).2=10)||(decide ((oneT f zbt).2=0)&&decide ((oneT f zbt).1=[49]))
def zhv (f:List Fld):Bool:=decide ((oneT f zbt).2=0)
def VG (c:Int):Int:=if c=10 then 404 else if c=17∨c=19 then 409 else if c=4 then 413 else if c=8∨c=16 then 507 else 400
def wsS (q:Sto) (e:Ent):Sto:=⟨wrtL q.l q.n q.b e,wrtN q.l q.n q.b e,wrtB q.l q.n q.b e,q.s⟩
def wsC (q:Sto) (e:Ent):Int:=wrtC q.l q.n q.b e
def syS (q:Sto):Sto:= { q with s:=(q.b.length:Int)}
def creE (q:Sto) (n:Int) (t:Str):Ent:=⟨1,q.n+1,n,t⟩
structure TA where
 st:Int
 fs:List Fld
 q:Sto
def xM (q:Sto) (f:List Fld):TA:=
 if WE f yQ=false then⟨400,[],q⟩
 else if Uu f=false then⟨400,[],q⟩
 else if decide (0≤zS f yQ)=zhv f then⟨400,[],q⟩
 else if(oneT f zje).2=9 then⟨400,[],q⟩
 else if wsC q (creE q (zS f yQ) (oneT f zje).1)≠0 then⟨VG (wsC q (creE q (zS f yQ) (oneT f zje).1)),[],q⟩
 else⟨201,[⟨locN,vH++decS (q.n+1)⟩],syS (wsS q (creE q (zS f yQ) (oneT f zje).1))⟩
def idB (t:Str):Bool:=Lib.hasPrefix t vH&&((numA (t.drop 7) 10 9).2&&decide (decS (numA (t.drop 7) 10 9).1=t.drop 7))
def idV (t:Str):Int:=(numA (t.drop 7) 10 9).1
def uplB (q:Sto) (t:Str):Bool:=idB t&&getB q.l (idV t)
def lenF (u:Upl):Fld:=if u.size<0 then⟨zyB,[49]⟩ else⟨zyA,decS u.size⟩
def zc6 (u:Upl):List Fld:=[⟨zbs,decS (u.bytes.length:Int)⟩,lenF u,⟨zz7,zzm⟩]++(if u.note=[] then [] else [⟨zc3,u.note⟩])
def vw (q:Sto) (u:Upl) (f:List Fld) (body:Str):TA:=
 if(oneT f Yk).2=9 then⟨400,[],q⟩
 else if(x9 (oneT f Yk).1).2≠0∨(x9 (oneT f Yk).1).1.word≠octS then⟨415,[],q⟩
 else if WE f Zc=false then⟨400,[],q⟩
 else if zS f Zc<0 then⟨400,[],q⟩
 else if zS f Zc≠(u.bytes.length:Int) then⟨409,[],q⟩
 else if WE f yQ=false then⟨400,[],q⟩
 else if 0≤zS f yQ∧0≤u.size∧zS f yQ≠u.size then⟨400,[],q⟩
 else if 0≤zS f yQ∧u.size<0∧(2000<zS f yQ∨zS f yQ<zS f Zc+(body.length:Int)) then⟨413,[],q⟩
 else if TY q.b ((body.length:Int)+60)=false then⟨507,[],q⟩
 else if(if apG q.l u.id (zS f Zc) then 17 else wsC q (apE u.id body))≠0 then⟨VG (if apG q.l u.id (zS f Zc) then 17 else wsC q (apE u.id body)),[],q⟩
 else if 0≤zS f yQ∧u.size<0 then
  if wsC (wsS q (apE u.id body)) ⟨3,u.id,zS f yQ,[]⟩≠0 then⟨VG (wsC (wsS q (apE u.id body)) ⟨3,u.id,zS f yQ,[]⟩),[],wsS q (apE u.id body)⟩
  else⟨204,[⟨zbs,decS (zS f Zc+(body.length:Int))⟩],syS (wsS (wsS q (apE u.id body)) ⟨3,u.id,zS f yQ,[]⟩)⟩
 else⟨204,[⟨zbs,decS (zS f Zc+(body.length:Int))⟩],syS (wsS q (apE u.id body))⟩
def U4 (q:Sto) (u:Upl):TA:=
 if wsC q ⟨4,u.id,0,[]⟩≠0 then⟨VG (wsC q ⟨4,u.id,0,[]⟩),[],q⟩ else⟨204,[],syS (wsS q ⟨4,u.id,0,[]⟩)⟩
def yG (q:Sto) (m t:Str) (f:List Fld) (body:Str):TA:=
 if t=qj∧m=zzf then⟨204,[⟨zpj,verS⟩,⟨zyF,decS 2000⟩,⟨zyH,zyG⟩],q⟩
 else if(oneT f zjh).2=9 then⟨400,[],q⟩
 else if(oneT f zjh).1≠verS then⟨412,[⟨zpj,verS⟩],q⟩
 else if t=qj then(if m≠YV then⟨405,[],q⟩ else xM q f)
 else if uplB q t=false then⟨404,[],q⟩
 else if m=zu6 then⟨200,zc6 (getU q.l (idV t)),q⟩
 else if m=zb3 then vw q (getU q.l (idV t)) f body
 else if m=zvL then U4 q (getU q.l (idV t))
 else⟨405,[],q⟩
def resT:Fld:=⟨zyD,verS⟩
end Go.Proofs.YtkjepecoodjbmaaGreatDoor
namespace Go.Proofs.YtkjepecoodjbmaaGreatDoor
open Go Go.Sep Go.Ab
def TP (n:Int):Str:=
 if n=200 then [79,75]
 else if n=201 then [67,114,101,97,116,101,100]
 else if n=204 then [78,111,32,67,111,110,116,101,110,116]
 else if n=400 then [66,97,100,32,82,101,113,117,101,115,116]
 else if n=404 then [78,111,116,32,70,111,117,110,100]
 else if n=405 then [77,101,116,104,111,100,32,78,111,116,32,65,108,108,111,119,101,100]
 else if n=409 then [67,111,110,102,108,105,99,116]
 else if n=412 then [80,114,101,99,111,110,100,105,116,105,111,110,32,70,97,105,108,101,100]
 else if n=413 then [67,111,110,116,101,110,116,32,84,111,111,32,76,97,114,103,101]
 else if n=415 then [85,110,115,117,112,112,111,114,116,101,100,32,77,101,100,105,97,32,84,121,112,101]
 else if n=507 then [73,110,115,117,102,102,105,99,105,101,110,116,32,83,116,111,114,97,103,101]
 else []
def badF:List Fld→Int
 |[]=>0
 |f::l=>if(textF f).2=0 then badF l else(textF f).2
def xE:List Fld→Str
 |[]=>[]
 |f::l=>(textF f).1++[13,10]++xE l
theorem zsj (a b:List Fld):xE (a++b)=xE a++xE b:=by
 induction a with
 |nil=>rfl
 |cons f l ih=>simp only [List.cons_append,xE,ih,jo]
def zj6 (st:Int):Str:=[72,84,84,80,47,49,46,49,32]++decS st++[32]++TP st++[13,10]
def YE (n:Int):Str:=[67,111,110,116,101,110,116,45,76,101,110,103,116,104,58,32]++decS n++[13,10,13,10]
def zyn:Str:=[99,111,110,116,101,110,116,45,108,101,110,103,116,104]
def zdh (st:Int) (fs:List Fld):Int:=
 if TP st=[] then 11 else if 16≤fs.length then 8 else if 0<(valsF fs zyn).length then 12 else badF fs
def writeT (st:Int) (fs:List Fld) (body:Str):Str:=
 if zdh st fs=0 then zj6 st++xE fs++YE body.length++body else []
theorem zby (f:Fld):(textF f).1.length≤200:=by
 unfold textF
 split
 · simp
 split
 · simp
 split
 · simp
 · simp only [jk,jh,ji];omega
theorem Xa: ∀ l:List Fld,(xE l).length≤202 * l.length
 |[]=>by simp [xE]
 | f::l=>by
   have:=zby f;have:=Xa l;simp only [xE,jk,jh,ji];omega
theorem ztB {n:Int} (h:TP n≠[]):n=200∨n=201∨n=204∨n=400∨n=404∨n=405∨n=409∨n=412∨n=413∨n=415∨n=507:=by
 refine Decidable.byContradiction fun hn=>h ?_;simp only [not_or] at hn
 simp [TP,hn]
theorem zbn {n:Int} (h:TP n≠[]):200≤n∧n≤507∧(TP n).length≤30:=by
 rcases ztB h with rfl|rfl|rfl|rfl|rfl|rfl|rfl|rfl|rfl|rfl|rfl<;>decide
end Go.Proofs.YtkjepecoodjbmaaGreatDoor
namespace Go.Proofs.YtkjepecoodjbmaaGreatDoor
open Go Go.Sep Go.Ab
def ln0:Ln:=⟨[],false,0⟩
def zjv (c:UInt8):Bool:=YP (c.toNat:Int)
def lnF (s:Ln) (c:UInt8):Ln × Str × Bool × Int:=
 if s.code≠0 then(s,[],false,s.code)
 else if s.cr then(if c=10 then(⟨[],false,0⟩,s.b,true,0) else(⟨s.b,s.cr,2⟩,[],false,2))
 else if c=10 then(⟨s.b,s.cr,2⟩,[],false,2)
 else if c=13 then(⟨s.b,true,s.code⟩,[],false,0)
 else if zjv c=false then(⟨s.b,s.cr,3⟩,[],false,3)
 else if s.b.length=200 then(⟨s.b,s.cr,4⟩,[],false,4)
 else(⟨s.b++[c],s.cr,s.code⟩,[],false,0)
def lnB (s:Ln):Bool:=decide (0<s.b.length)||s.cr
def xH (pre:Str):Str→Str × Int × Bool × Int
 |[]=>([],0,false,0)
 | c ::r=>
   if c=13 then
    match r with
    |[]=>([],0,false,0)
    |d::_=>if d=10 then(pre,(pre.length:Int)+2,true,0) else([],(pre.length:Int)+2,false,2)
   else if c=10 then([],(pre.length:Int)+1,false,2)
   else if zjv c=false then([],(pre.length:Int)+1,false,3)
   else if pre.length=200 then([],(pre.length:Int)+1,false,4)
   else xH (pre++[c]) r
def zA (b:Str):Str × Int × Bool × Int:=xH [] b
inductive LnR where
 |more (s:Ln)
 |line (t rest:Str)
 |bad (e:Int) (rest:Str)
def vF (s:Ln):Str→LnR
 |[]=>.more s
 |c::r=>if(lnF s c).2.2.1=true then .line (lnF s c).2.1 r else if(lnF s c).2.2.2≠0 then .bad (lnF s c).2.2.2 r else vF (lnF s c).1 r
def LnIs (pre r:Str):LnR→Prop
 |.more s=>xH pre r=([],0,false,0)∧s.code=0∧(lnB s=true↔r≠[]∨pre≠[])
 |.line t rest=>∃ n:Nat,xH pre r=(t,((pre.length+n:Nat):Int),true,0)∧n≤r.length∧0<n∧rest=r.drop n
 |.bad e rest=>∃ n:Nat,xH pre r=([],((pre.length+n:Nat):Int),false,e)∧e≠0∧n≤r.length∧0<n∧rest=r.drop n
theorem zrr: ∀ (r pre:Str),LnIs pre r (vF ⟨pre,false,0⟩ r)
 |[],pre=>⟨rfl,rfl,by cases pre<;>simp [lnB]⟩
 | c :: r,pre=>by
   by_cases h10:c=10
   · subst h10
     have e:vF ⟨pre,false,0⟩ (10::r)=.bad 2 r:=by simp [vF,lnF]
     rw [e]
     exact⟨1,by simp [xH],by decide,by simp,by decide,rfl⟩
   by_cases h13:c=13
   · subst h13
     cases r with
     | nil=>
       have e:vF ⟨pre,false,0⟩ [13]=.more ⟨pre,true,0⟩:=by simp [vF,lnF]
       rw [e]
       exact⟨by simp [xH],rfl,by simp [lnB]⟩
     | cons d r=>
       by_cases hd:d=10
       · subst hd
         have e:vF ⟨pre,false,0⟩ (13::10::r)=.line pre r:=by simp [vF,lnF]
         rw [e]
         exact⟨2,by simp [xH],by simp,by decide,by simp⟩
       · have e:vF ⟨pre,false,0⟩ (13::d::r)=.bad 2 r:=by simp [vF,lnF,hd]
         rw [e]
         exact⟨2,by simp [xH,hd],by decide,by simp,by decide,by simp⟩
   by_cases hs:zjv c=false
   · have e:vF ⟨pre,false,0⟩ (c::r)=.bad 3 r:=by simp [vF,lnF,h10,h13,hs]
     rw [e]
     exact⟨1,by simp [xH.eq_def,h10,h13,hs],by decide,by simp,by decide,rfl⟩
   by_cases hl:pre.length=200
   · have e:vF ⟨pre,false,0⟩ (c::r)=.bad 4 r:=by simp [vF,lnF,h10,h13,hs,hl]
     rw [e]
     exact⟨1,by rw [xH.eq_def];simp [h10,h13,hs,hl],by decide,by simp,by decide,rfl⟩
   have ih:=zrr r (pre++[c])
   have e1:lnF ⟨pre,false,0⟩ c=(⟨pre++[c],false,0⟩,[],false,0):=by simp [lnF,h10,h13,hs,hl]
   have e2:xH pre (c::r)=xH (pre++[c]) r:=by rw [xH.eq_def];simp [h10,h13,hs,hl]
   have e3:vF ⟨pre,false,0⟩ (c::r)=vF ⟨pre++[c],false,0⟩ r:=by rw [vF,e1];simp
   rw [e3];generalize vF ⟨pre++[c],false,0⟩ r=x at ih
   cases x with
   | more s=>
     obtain⟨h1,h2,h3⟩:=ih
     exact⟨by rw [e2,h1],h2,by rw [h3];simp⟩
   | line t rest=>
     obtain⟨n,h1,h2,h3,h4⟩:=ih
     exact⟨n+1,by rw [e2,h1];simp;omega,by simp;omega,by omega,by rw [h4];simp⟩
   | bad e rest=>
     obtain⟨n,h1,h2,h3,h4,h5⟩:=ih
     exact⟨n+1,by rw [e2,h1];simp;omega,h2,by simp;omega,by omega,by rw [h5];simp⟩
theorem zjT (r:Str):LnIs [] r (vF ln0 r):=zrr r []
theorem zdY (t:Str): ∀ s pre:Str,yN s=true→pre.length+s.length≤200→xH pre (s++13::10::t)=(pre++s,((pre++s).length:Int)+2,true,0)
 |[],pre,_,_=>by simp [xH]
 | c ::s,pre,h,hl=>by
   have hc:zjv c=true:=by unfold yN at h;rw [List.all_cons,jK] at h;exact h.1
   have hs:yN s=true:=by unfold yN at h ⊢;rw [List.all_cons,jK] at h;exact h.2
   have h13:c≠13:=fun e=>by subst e;revert hc;decide+kernel
   have h10:c≠10:=fun e=>by subst e;revert hc;decide+kernel
   rw [jh] at hl
   have ih:=zdY t s (pre++[c]) hs (by rw [jk];simp;omega)
   have e2:xH pre (c::(s++13::10::t))=xH (pre++[c]) (s++13::10::t):=by
    rw [xH.eq_def];simp only [h13,h10,hc,if_false,je]
    rw [if_neg (by omega)]
   rw [List.cons_append,e2,ih]
   simp
theorem zow {s:Str} (t:Str) (h:yN s=true) (hl:s.length≤200):zA (s++13::10::t)=(s,(s.length:Int)+2,true,0):=by
 unfold zA
 rw [zdY t s [] h (by simpa using hl)]
 simp
theorem Y3 (s:Ln) (c:UInt8):(lnF s c).2.1.length≤s.b.length:=by
 unfold lnF
 repeat' split
 all_goals simp
theorem zuU (s:Ln) (c:UInt8):(lnF s c).1.b.length≤s.b.length+1:=by
 unfold lnF
 repeat' split
 all_goals simp
end Go.Proofs.YtkjepecoodjbmaaGreatDoor
namespace Go.Proofs.YtkjepecoodjbmaaGreatDoor
open Go Go.Sep Go.Ab
theorem zfC {r:Str} {s:Ln} (h:vF ln0 r=.more s):zA r=([],0,false,0):=by
 have:=zjT r;rw [h] at this;exact this.1
theorem zfD {r t rest:Str} (h:vF ln0 r=.line t rest): ∃ n:Nat,zA r=(t,(n:Int),true,0)∧n≤r.length∧0<n∧rest=r.drop n:=by
 have:=zjT r;rw [h] at this;obtain⟨n,h1,h2⟩:=this
 exact⟨n,by rw [zA,h1];simp,h2⟩
theorem zmD {r rest:Str} {e:Int} (h:vF ln0 r=.bad e rest): ∃ n:Nat,zA r=([],(n:Int),false,e)∧e≠0∧n≤r.length∧0<n∧rest=r.drop n:=by
 have:=zjT r;rw [h] at this;obtain⟨n,h1,h2⟩:=this
 exact⟨n,by rw [zA,h1];simp,h2⟩
theorem vK (r:Str): ∃ n:Nat,(zA r).2.1=(n:Int)∧n≤r.length∧((zA r).2.2.1=true∨(zA r).2.2.2≠0→0<n)∧((zA r).2.2.1=false→(zA r).2.2.2=0→n=0)∧((zA r).2.2.1=true→(zA r).2.2.2=0):=by
 cases h:vF ln0 r with
 |more s=>rw [zfC h];exact⟨0,rfl,jM _,by simp,by simp,by simp⟩
 |line t rest=>obtain⟨n,h1,h2,h3,_⟩:=zfD h;rw [h1];exact⟨n,rfl,h2,fun _=>h3,by simp,by simp⟩
 |bad e rest=>obtain⟨n,h1,h2,h3,h4,_⟩:=zmD h;rw [h1];exact⟨n,rfl,h3,fun _=>h4,fun _ h=>absurd h h2,by simp⟩
theorem zuT {s:Ln} {c:UInt8} (h:(lnF s c).2.2.2=0):(lnF s c).1.code=0:=by
 unfold lnF at h ⊢
 split
 · rename_i h1;rw [if_pos h1] at h;exact h
 rename_i h1;rw [if_neg h1] at h
 split
 · rename_i h2
   rw [if_pos h2] at h
   split
   · rfl
   · rename_i h3;rw [if_neg h3] at h;cases h
 rename_i h2;rw [if_neg h2] at h
 split
 · rename_i h3;rw [if_pos h3] at h;cases h
 rename_i h3;rw [if_neg h3] at h
 split
 · exact Decidable.not_not.1 h1
 rename_i h4;rw [if_neg h4] at h
 split
 · rename_i h5;rw [if_pos h5] at h;cases h
 rename_i h5;rw [if_neg h5] at h
 split
 · rename_i h6;rw [if_pos h6] at h;cases h
 · exact Decidable.not_not.1 h1
theorem zuS {s:Ln} {c:UInt8} (h:(lnF s c).2.2.1=true) (h0:s.code=0):(lnF s c).2.2.2=0∧(lnF s c).1=ln0:=by
 unfold lnF at h ⊢
 rw [if_neg (by simp [h0])] at h ⊢
 split
 · rename_i h2
   rw [if_pos h2] at h
   split
   · exact⟨rfl,rfl⟩
   · rename_i h3;rw [if_neg h3] at h;cases h
 rename_i h2;rw [if_neg h2] at h
 split at h
 · cases h
 split at h
 · cases h
 split at h
 · cases h
 split at h
 · cases h
 · cases h
theorem zdX: ∀ (r pre:Str),(xH pre r).1.length≤pre.length+r.length
 |[],pre=>by simp [xH]
 | c ::r,pre=>by
   rw [xH.eq_def];simp only
   split
   · split
     · simp
     · split
       · simp
       · simp
   split
   · simp
   split
   · simp
   split
   · simp
   · have:=zdX r (pre++[c])
     rw [jk] at this
     simp at this ⊢
     omega
theorem ZB (r:Str):(zA r).1.length≤r.length:=by have:=zdX r [];simpa [zA] using this
end Go.Proofs.YtkjepecoodjbmaaGreatDoor
namespace Go.Proofs.YtkjepecoodjbmaaGreatDoor
open Go Go.Sep Go.Ab
def xW (line:Str):Int × Bool:=numA (Lib.trimS (cutB line 59).1 [32,9]) 16 6
theorem zcg: ∀ (s:Str) (n:Int),0≤n→0≤(numG 16 n s).1
 |[],n,h=>h
 | c::l,n,h=>by
   rw [numG]
   split
   · exact Int.le_refl _
   · exact zcg l _ (by omega)
theorem qG (t:Str):0≤(xW t).1:=by
 unfold xW numA
 split
 · exact Int.le_refl _
 · exact zcg _ _ (Int.le_refl _)
def ch0:Ch:=⟨ln0,0,0,0,0,0⟩
def chL (s:Ch) (t:Str):Ch × Int:=
 if s.pos=2 then(if t=[] then({ s with pos:=0},0) else(s,5))
 else if s.pos=0 then
  (if(xW t).2=false then(s,7)
  else if 4000 - s.all<(xW t).1 then(s,4)
  else if(xW t).1=0 then({ s with pos:=3},0)
  else({ s with pos:=1,left:=(xW t).1},0))
 else if s.pos=3 then
  (if t=[] then({ s with pos:=4},0)
  else if s.tails=16 then(s,8)
  else({ s with tails:=s.tails+1},(yj t).2))
 else(s,0)
def chF (s:Ch) (c:UInt8):Ch × Str × Bool × Int:=
 if s.code≠0 then(s,[],false,s.code)
 else if s.pos=4 then({ s with code:=18},[],false,18)
 else if s.pos=1 then({ s with left:=s.left - 1,all:=s.all+1,pos:=if s.left - 1=0 then 2 else 1},[c],false,0)
 else if(lnF s.ln c).2.2.2≠0 then({ s with ln:=(lnF s.ln c).1,code:=(lnF s.ln c).2.2.2},[],false,(lnF s.ln c).2.2.2)
 else if(lnF s.ln c).2.2.1=true then
  (if(chL { s with ln:=(lnF s.ln c).1} (lnF s.ln c).2.1).2≠0 then({ (chL { s with ln:=(lnF s.ln c).1} (lnF s.ln c).2.1).1 with code:=(chL { s with ln:=(lnF s.ln c).1} (lnF s.ln c).2.1).2},[],false,(chL { s with ln:=(lnF s.ln c).1} (lnF s.ln c).2.1).2)
  else((chL { s with ln:=(lnF s.ln c).1} (lnF s.ln c).2.1).1,[],decide ((chL { s with ln:=(lnF s.ln c).1} (lnF s.ln c).2.1).1.pos=4),0))
 else({ s with ln:=(lnF s.ln c).1},[],false,0)
inductive ChR where
 |more (out:Str) (held:Nat)
 |over (out rest:Str)
 |bad (out:Str) (e:Int) (rest:Str)
def ChR.pre (o:Str):ChR→ChR
 |.more p h=>.more (o++p) h
 |.over p r=>.over (o++p) r
 |.bad p e r=>.bad (o++p) e r
def ChR.fg:ChR→ChR
 |.more p _=>.more p 0
 |x=>x
theorem ChR.pre_nil (x:ChR):x.pre []=x:=by cases x<;>simp [ChR.pre]
theorem ChR.zqS (o p:Str) (x:ChR):(x.pre o).pre p=x.pre (p++o):=by cases x<;>simp [ChR.pre]
theorem ChR.zzL (o:Str) (x:ChR):(x.pre o).fg=x.fg.pre o:=by cases x<;>rfl
def Yq (s:Ch):Str→ChR
 |[]=>.more [] 0
 | c::r=>
   if(chF s c).2.2.2≠0 then .bad [] (chF s c).2.2.2 r
   else if(chF s c).2.2.1=true then .over [] r
   else(Yq (chF s c).1 r).pre (chF s c).2.1
def zbz:Nat→Int→Str→ChR
 |0,_,r=>.more [] r.length
 | f+1,k,r=>
   if(zA r).2.2.2≠0 then .bad [] (zA r).2.2.2 (r.drop (zA r).2.1.toNat)
   else if(zA r).2.2.1=false then .more [] r.length
   else if(zA r).1=[] then .over [] (r.drop (zA r).2.1.toNat)
   else if k=16 then .bad [] 8 (r.drop (zA r).2.1.toNat)
   else if(yj (zA r).1).2≠0 then .bad [] (yj (zA r).1).2 (r.drop (zA r).2.1.toNat)
   else zbz f (k+1) (r.drop (zA r).2.1.toNat)
def endR (k:Str→ChR) (r:Str):ChR:=
 if(zA r).2.2.2≠0 then .bad [] (zA r).2.2.2 (r.drop (zA r).2.1.toNat)
 else if(zA r).2.2.1=false then .more [] r.length
 else if(zA r).1=[] then k (r.drop (zA r).2.1.toNat)
 else .bad [] 5 (r.drop (zA r).2.1.toNat)
def zde:Nat→Int→Str→ChR
 |0,_,r=>.more [] r.length
 | f+1,a,r=>
   if(zA r).2.2.2≠0 then .bad [] (zA r).2.2.2 (r.drop (zA r).2.1.toNat)
   else if(zA r).2.2.1=false then .more [] r.length
   else if(xW (zA r).1).2=false then .bad [] 7 (r.drop (zA r).2.1.toNat)
   else if 4000 - a<(xW (zA r).1).1 then .bad [] 4 (r.drop (zA r).2.1.toNat)
   else if(xW (zA r).1).1=0 then zbz f 0 (r.drop (zA r).2.1.toNat)
   else if((r.drop (zA r).2.1.toNat).length:Int)<(xW (zA r).1).1 then .more (r.drop (zA r).2.1.toNat) 0
   else(endR (zde f (a+(xW (zA r).1).1)) ((r.drop (zA r).2.1.toNat).drop (xW (zA r).1).1.toNat)).pre ((r.drop (zA r).2.1.toNat).take (xW (zA r).1).1.toNat)
theorem zeD {s:Ch} (hc:s.code=0) (hp:s.pos=0∨s.pos=2∨s.pos=3): ∀ (r:Str) (l:Ln),l.code=0→Yq { s with ln:=l} r=match vF l r with
  |.more _=>.more [] 0
  |.bad e rest=>.bad [] e rest
  |.line t rest=>if(chL { s with ln:=ln0} t).2≠0 then .bad [] (chL { s with ln:=ln0} t).2 rest else if(chL { s with ln:=ln0} t).1.pos=4 then .over [] rest else Yq (chL { s with ln:=ln0} t).1 rest
 |[],l,hl=>rfl
 | c ::r,l,hl=>by
   have e0:chF { s with ln:=l} c=(if(lnF l c).2.2.2≠0 then({ s with ln:=(lnF l c).1,code:=(lnF l c).2.2.2},[],false,(lnF l c).2.2.2)
    else if(lnF l c).2.2.1=true then
     (if(chL { s with ln:=(lnF l c).1} (lnF l c).2.1).2≠0 then({ (chL { s with ln:=(lnF l c).1} (lnF l c).2.1).1 with code:=(chL { s with ln:=(lnF l c).1} (lnF l c).2.1).2},[],false,(chL { s with ln:=(lnF l c).1} (lnF l c).2.1).2)
     else((chL { s with ln:=(lnF l c).1} (lnF l c).2.1).1,[],decide ((chL { s with ln:=(lnF l c).1} (lnF l c).2.1).1.pos=4),0))
    else({ s with ln:=(lnF l c).1},[],false,0)):=by
    unfold chF
    rw [if_neg (show ¬ (s.code≠0) by rw [hc];simp),if_neg (show ¬ s.pos=4 by omega),if_neg (show ¬ s.pos=1 by omega)]
   by_cases h1:(lnF l c).2.2.1=true
   · obtain⟨h2,h3⟩:=zuS h1 hl
     rw [if_neg (by simp [h2]),if_pos h1,h3] at e0
     rw [Yq,e0,vF,if_pos h1]
     show _=(if(chL { s with ln:=ln0} (lnF l c).2.1).2≠0 then ChR.bad [] (chL { s with ln:=ln0} (lnF l c).2.1).2 r else if(chL { s with ln:=ln0} (lnF l c).2.1).1.pos=4 then .over [] r else Yq (chL { s with ln:=ln0} (lnF l c).2.1).1 r)
     generalize chL { s with ln:=ln0} (lnF l c).2.1=z
     by_cases h4:z.2=0
     · by_cases h5:z.1.pos=4
       · simp [h4,h5]
       · simp [h4,h5,ChR.pre_nil]
     · simp [h4]
   · by_cases h2:(lnF l c).2.2.2=0
     · have ih:=zeD hc hp r (lnF l c).1 (zuT h2)
       rw [if_neg (by simp [h2]),if_neg h1] at e0
       rw [Yq,e0,vF,if_neg h1];simp only [h2,ne_eq,jf,if_false,jd,ChR.pre_nil];exact ih
     · rw [if_pos h2] at e0
       rw [Yq,e0,vF,if_neg h1,if_pos h2]
       simp [h2]
theorem Vp {s:Ch} (hc:s.code=0) (hp:s.pos=0∨s.pos=2∨s.pos=3) (hl:s.ln=ln0) (r:Str):Yq s r=
  if(zA r).2.2.2≠0 then .bad [] (zA r).2.2.2 (r.drop (zA r).2.1.toNat)
  else if(zA r).2.2.1=false then .more [] 0
  else if(chL s (zA r).1).2≠0 then .bad [] (chL s (zA r).1).2 (r.drop (zA r).2.1.toNat)
  else if(chL s (zA r).1).1.pos=4 then .over [] (r.drop (zA r).2.1.toNat)
  else Yq (chL s (zA r).1).1 (r.drop (zA r).2.1.toNat):=by
 have e:s= { s with ln:=ln0}:=by rw [← hl]
 have h:=zeD hc hp r ln0 rfl;rw [← e] at h;rw [h]
 cases hr:vF ln0 r with
 |more x=>rw [zfC hr];simp
 |line t rest=>obtain⟨n,h1,h2,h3,rfl⟩:=zfD hr;rw [h1];simp
 |bad e rest=>obtain⟨n,h1,h2,h3,h4,rfl⟩:=zmD hr;rw [h1];simp [h2]
theorem zeE: ∀ (r:Str) (s:Ch) (n:Nat),s.code=0→s.pos=1→s.left=((n+1:Nat):Int)→Yq s r=if r.length<n+1 then .more r 0 else(Yq { s with pos:=2,left:=0,all:=s.all+(n+1:Nat)} (r.drop (n+1))).pre (r.take (n+1))
 |[],s,n,hc,hp,hl=>by rw [if_pos (by simp)];rfl
 | c ::r,s,n,hc,hp,hl=>by
   have e0:chF s c=({ s with left:=s.left - 1,all:=s.all+1,pos:=if s.left - 1=0 then 2 else 1},[c],false,0):=by
    unfold chF
    rw [if_neg (by simp [hc]),if_neg (by omega),if_pos hp]
   rw [Yq,e0];simp only [ne_eq,jf,if_false,jd]
   cases n with
   | zero=>
     rw [if_pos (by omega),if_neg (by simp)]
     simp only [hl];rfl
   | succ n=>
     rw [if_neg (by omega)]
     have ih:=zeE r { s with left:=s.left - 1,all:=s.all+1,pos:=1} n hc rfl (by show s.left - 1=_;omega)
     rw [ih];simp only [jh,List.drop_succ_cons,List.take_succ_cons]
     by_cases h:r.length<n+1
     · rw [if_pos h,if_pos (by omega)];rfl
     · rw [if_neg h,if_neg (by omega),ChR.zqS]
       congr 2
       simp only [Ch.mk.injEq,true_and,and_true];omega
theorem zvQ {s:Ch} (hp:s.pos=3) (t:Str):chL s t=(if t=[] then({ s with pos:=4},0) else if s.tails=16 then(s,8) else({ s with tails:=s.tails+1},(yj t).2)):=by
 unfold chL
 rw [if_neg (by omega),if_neg (by omega),if_pos hp]
theorem zlI: ∀ (f:Nat) (r:Str) (s:Ch),r.length<f→s.code=0→s.pos=3→s.ln=ln0→Yq s r=(zbz f s.tails r).fg
 |0,r,s,hf,_,_,_=>by omega
 | f + 1, r, s,hf,hc,hp,hl=>by
   rw [Vp hc (.inr (.inr hp)) hl,zbz,zvQ hp];obtain⟨n,hn,h1,h2,h3,h4⟩:=vK r;rw [hn,jJ]
   have ih:=fun(hlt:(r.drop n).length<f)=>zlI f (r.drop n) { s with pos:=3,tails:=s.tails+1} hlt hc rfl hl
   rw [jC] at ih;generalize zA r=x at *;obtain⟨t,n',ok,e⟩:=x;simp only at *
   by_cases c1:e=0
   · subst c1
     cases ok with
     |false=>simp [ChR.fg]
     | true=>
       have hpos:=h2 (.inl rfl)
       by_cases c3:t=[]
       · simp [c3,ChR.fg]
       · by_cases c4:s.tails=16
         · simp [c3,c4,ChR.fg]
         · by_cases c5:(yj t).2=0
           · simp only [c3,c4,c5,hp,ne_eq,jf,if_false,if_true,je,show ¬ (3:Int)=4 by decide]
             exact ih (by omega)
           · simp [c3,c4,c5,ChR.fg]
   · simp [c1,ChR.fg]
theorem zlJ: ∀ (f:Nat) (r:Str) (s:Ch),r.length<f→s.code=0→s.pos=0→s.ln=ln0→s.tails=0→Yq s r=(zde f s.all r).fg
 |0,r,s,hf,_,_,_,_=>by omega
 | f + 1, r, s,hf,hc,hp,hl,ht=>by
   have hL: ∀ t,chL s t=(if(xW t).2=false then(s,7) else if 4000 - s.all<(xW t).1 then(s,4) else if(xW t).1=0 then({ s with pos:=3},0) else({ s with pos:=1,left:=(xW t).1},0)):=fun t=>by
    unfold chL
    rw [if_neg (by omega),if_pos hp]
   rw [Vp hc (.inl hp) hl,zde,hL];obtain⟨n,hn,h1,h2,h3,h4⟩:=vK r;rw [hn,jJ];have hm0:=qG (zA r).1;have hrl:(r.drop n).length=r.length - n:=jC;generalize r.drop n=q at *;generalize zA r=x at *;obtain⟨t,n',ok,e⟩:=x;simp only at *
   by_cases c1:e=0
   · subst c1
     cases ok with
     |false=>simp [ChR.fg]
     | true=>
       have hpos:=h2 (.inl rfl)
       by_cases c3:(xW t).2=false
       · simp [c3,ChR.fg]
       by_cases c4:4000 - s.all<(xW t).1
       · simp [c3,c4,ChR.fg]
       by_cases c5:(xW t).1=0
       · have:=zlI f q { s with pos:=3} (by omega) hc rfl hl
         rw [c5] at c4
         simp only [c3,c4,c5,ne_eq,jf,if_false,if_true,je,show ¬ (3:Int)=4 by decide]
         rw [this]
         show(zbz f s.tails q).fg=_
         rw [ht]
       generalize hsz:(xW t).1=m at *
       obtain⟨k,rfl⟩: ∃ k:Nat,m=((k+1:Nat):Int):=⟨(m - 1).toNat,by omega⟩
       simp only [c3,c4,c5,ne_eq,jf,if_false,if_true,je,show ¬ (1:Int)=4 by decide]
       rw [zeE q { s with pos:=1,left:=((k+1:Nat):Int)} k hc rfl rfl,jJ]
       by_cases c6:q.length<k+1
       · rw [if_pos c6,if_pos (by omega)];rfl
       rw [if_neg c6,if_neg (by omega),ChR.zzL]
       congr 1
       have hd:(q.drop (k+1)).length=q.length - (k+1):=jC;generalize q.drop (k+1)=q2 at *
       rw [Vp (by exact hc) (.inr (.inl rfl)) (by exact hl),endR]
       obtain⟨n2,hn2,g1,g2,g3,g4⟩:=vK q2;rw [hn2,jJ]
       have ih:=fun(hlt:(q2.drop n2).length<f)=>zlJ f (q2.drop n2) { s with pos:=0,left:=0,all:=s.all+((k+1:Nat):Int)} hlt hc rfl hl ht
       rw [jC] at ih;unfold chL;simp only [if_true];generalize zA q2=x2 at *;obtain⟨t2,n2',ok2,e2⟩:=x2;simp only at *
       by_cases d1:e2=0
       · subst d1
         cases ok2 with
         |false=>simp [ChR.fg]
         | true=>
           by_cases d3:t2=[]
           · simp only [d3,ne_eq,jf,if_false,if_true,je,show ¬ (0:Int)=4 by decide]
             exact ih (by omega)
           · simp [d3,ChR.fg]
       · simp [d1,ChR.fg]
   · simp [c1,ChR.fg]
def yP (b:Str):ChR:=zde (b.length+1) 0 b
theorem zdy (b:Str):Yq ch0 b=(yP b).fg:=zlJ (b.length+1) b ch0 (Nat.lt_succ_self _) rfl rfl rfl rfl
theorem ChR.zxq {o o' rest:Str} {e:Int} {x:ChR} (h:x.pre o=.bad o' e rest): ∃ p,x=.bad p e rest∧o'=o++p:=by
 cases x<;>simp only [ChR.pre,ChR.bad.injEq,reduceCtorEq] at h
 obtain⟨rfl,rfl,rfl⟩:=h;exact⟨_,rfl,rfl⟩
theorem ChR.zuC {o o' rest:Str} {x:ChR} (h:x.pre o=.over o' rest): ∃ p,x=.over p rest∧o'=o++p:=by
 cases x<;>simp only [ChR.pre,ChR.over.injEq,reduceCtorEq] at h
 obtain⟨rfl,rfl⟩:=h;exact⟨_,rfl,rfl⟩
theorem Qb: ∀ {r:Str} {s:Ch} {o rest:Str} {e:Int},Yq s r=.bad o e rest→rest.length<r.length∧e≠0
 |[],s,o,rest,e,h=>by cases h
 | c ::r,s,o,rest,e,h=>by
   rw [Yq] at h
   split at h
   · rename_i h0;cases h;exact⟨by simp,h0⟩
   split at h
   · cases h
   · obtain⟨p,h1,_⟩:=ChR.zxq h
     have:=Qb h1
     exact⟨by rw [jh];omega,this.2⟩
def WV (b:Str):ChR→Int
 |.more _ h=>(b.length:Int) - h
 |.over _ r=>(b.length:Int) - r.length
 |.bad _ _ r=>(b.length:Int) - r.length
def outR:ChR→Str
 |.more o _=>o
 |.over o _=>o
 |.bad o _ _=>o
def isR:ChR→Bool
 |.over _ _=>true
 |_=>false
def RD:ChR→Int
 |.bad _ e _=>e
 |_=>0
theorem zvR {s:Ch} {c:UInt8}:(chF s c).2.1.length≤1∧((chF s c).2.2.2≠0→(chF s c).2.1=[])∧((chF s c).2.2.1=true→(chF s c).2.2.2=0∧(chF s c).2.1=[]∧(chF s c).1.pos=4∧(chF s c).1.code=0)∧((chF s c).2.2.2≠0→(chF s c).2.2.1=false∧(chF s c).1.code=(chF s c).2.2.2):=by
 unfold chF
 split
 · simp
 rename_i h0
 split
 · simp
 split
 · simp
 split
 · simp
 split
 · split
   · simp
   · refine⟨by simp,by simp,fun h=>⟨rfl,rfl,by simpa using h,?_⟩,fun h=>absurd rfl h⟩
     have: ∀ (x:Ch) (t:Str),x.code=0→(chL x t).1.code=0:=by
      intro x t hx;unfold chL
      split
      · split<;>exact hx
      split
      · split
        · exact hx
        split
        · exact hx
        split<;>exact hx
      split
      · split
        · exact hx
        split<;>exact hx
      · exact hx
     exact this _ _ (by simpa using h0)
 · simp
end Go.Proofs.YtkjepecoodjbmaaGreatDoor
namespace Go.Proofs.YtkjepecoodjbmaaGreatDoor
open Go Go.Sep Go.Ab
def hd0:Hd:=⟨[],[],0,[],0⟩
def prt0:Prt:=⟨[],[],[],[]⟩
def evH (h:Hd):Evt:=⟨1,h,[],prt0,0⟩
def evB (b:Str):Evt:=⟨2,hd0,b,prt0,0⟩
def evE:Evt:=⟨3,hd0,[],prt0,0⟩
def evF (c:Int):Evt:=⟨4,hd0,[],prt0,c⟩
def tu (out:List Evt) (e:Evt):List Evt:=
 match out.getLast? with
 |some x=>if e.kind=2∧x.kind=2 then out.dropLast++[evB (x.bytes++e.bytes)] else out++[e]
 |none=>out++[e]
def yO (l:List Evt):List Evt:=l.foldl tu []
theorem xI (z:List Evt) (x e:Evt):tu (z++[x]) e=if e.kind=2∧x.kind=2 then z++[evB (x.bytes++e.bytes)] else z++[x]++[e]:=by
 unfold tu
 simp
theorem Y5 (e:Evt):tu [] e=[e]:=rfl
end Go.Proofs.YtkjepecoodjbmaaGreatDoor
namespace Go.Proofs.YtkjepecoodjbmaaGreatDoor
open Go Go.Sep Go.Ab
def zD:Str→List Str
 |[]=>[[]]
 |c::r=>if c=32 then []::zD r else(match zD r with|[]=>[[c]]|w::ws=>(c::w)::ws)
theorem Xz (s:Str):zD s≠[]:=by
 cases s with
 |nil=>simp [zD]
 | cons c r=>
   simp only [zD]
   split
   · simp
   · split<;>simp
def qf:Str:=[72,84,84,80,47,49,46,49]
def UB:Str:=[72,84,84,80,47,49,46,48]
def begM (s:Str):Int × Hd:=
 match zD s with
 | [a,b,c]=>
   if wZ a=false then(6,hd0)
   else if b.head?≠some 47∨b.contains 9=true then(5,hd0)
   else if c=qf then(0,⟨a,b,1,[],0⟩)
   else if c=UB then(0,⟨a,b,0,[],0⟩)
   else(11,⟨a,b,0,[],0⟩)
 |_=>(5,hd0)
def ZF:Str:=[104,111,115,116]
def qB:Str:=[99,111,110,116,101,110,116,45,108,101,110,103,116,104]
def Vt:Str:=[116,114,97,110,115,102,101,114,45,101,110,99,111,100,105,110,103]
def Tn:Str:=[99,104,117,110,107,101,100]
def sizM (z0:Str) (n:Int):List Str→Int × Int
 |[]=>(n,0)
 |s::r=>if(numA s 10 9).2=false then(0,7) else if s≠z0 then(0,12) else sizM z0 (numA s 10 9).1 r
def lenM (mi:Int) (f:List Fld):Int × Int:=
 if valsF f Vt≠[] then
  if valsF f qB≠[]∨mi=0 then(0,12)
  else if 1<(valsF f Vt).length∨lowS ((valsF f Vt).getD 0 [])≠Tn then(0,11)
  else(-1,0)
 else if(sizM ((valsF f qB).getD 0 []) 0 (valsF f qB)).2≠0 then(0,(sizM ((valsF f qB).getD 0 []) 0 (valsF f qB)).2)
 else if 4000<(sizM ((valsF f qB).getD 0 []) 0 (valsF f qB)).1 then(0,4)
 else((sizM ((valsF f qB).getD 0 []) 0 (valsF f qB)).1,0)
def zj5 (mi:Int) (f:List Fld):Bool:=decide ((oneF (valsF f ZF)).2=9)||(decide ((oneF (valsF f ZF)).2=10)&&decide (mi=1))
def lenH (h:Hd):Int × Int:=if zj5 h.minor h.fields=true then(0,13) else lenM h.minor h.fields
def zAq (q:Rq) (e:Evt):Rq:= { q with out:=q.out++[e]}
def vZ (q:Rq) (c:Int):Rq:= { q with pos:=4,out:=q.out++[evF c]}
def qA (q:Rq):Rq:= { q with out:=q.out++[evE],pos:=0,h:=hd0,own:=true}
def yJ (q:Rq):Rq × Int:=
 if zj5 q.h.minor q.h.fields=true then(q,13)
 else if(lenM q.h.minor q.h.fields).2≠0 then({ q with own:=false},(lenM q.h.minor q.h.fields).2)
 else if(lenM q.h.minor q.h.fields).1=0 then(qA { q with h:= { q.h with length:=0},own:=false,out:=q.out++[evH { q.h with length:=0}]},0)
 else if 0<(lenM q.h.minor q.h.fields).1 then({ q with h:= { q.h with length:=(lenM q.h.minor q.h.fields).1},own:=false,out:=q.out++[evH { q.h with length:=(lenM q.h.minor q.h.fields).1}],pos:=2,left:=(lenM q.h.minor q.h.fields).1},0)
 else({ q with h:= { q.h with length:=(lenM q.h.minor q.h.fields).1},own:=false,out:=q.out++[evH { q.h with length:=(lenM q.h.minor q.h.fields).1}],pos:=3,ck:=some ch0},0)
def zY (q:Rq) (s:Str):Rq × Int:=
 if q.pos=0 then
  if s=[] then(q,0)
  else if(begM s).1=0 then({ q with h:=(begM s).2,pos:=1},0)
  else if(begM s).1=11 then({ q with h:=(begM s).2},11)
  else(q,(begM s).1)
 else if s=[] then yJ q
 else if q.h.fields.length=16 then(q,8)
 else({ q with h:= { q.h with fields:=q.h.fields++[(yj s).1]}},(yj s).2)
def ckOf (q:Rq):Ch:=match q.ck with|some c=>c|none=>ch0
def rqF (q:Rq) (c:UInt8):Rq:=
 if q.pos=2 then
  if q.left - 1=0 then qA { q with out:=q.out++[evB [c]],left:=0} else { q with out:=q.out++[evB [c]],left:=q.left - 1}
 else if q.pos=3 then
  if(chF (ckOf q) c).2.2.2≠0 then vZ { q with ck:=some (chF (ckOf q) c).1} (chF (ckOf q) c).2.2.2
  else if(chF (ckOf q) c).2.2.1=true then qA { q with ck:=some (chF (ckOf q) c).1,out:=if(chF (ckOf q) c).2.1≠[] then q.out++[evB (chF (ckOf q) c).2.1] else q.out}
  else { q with ck:=some (chF (ckOf q) c).1,out:=if(chF (ckOf q) c).2.1≠[] then q.out++[evB (chF (ckOf q) c).2.1] else q.out}
 else if q.pos=0∨q.pos=1 then
  if(lnF q.ln c).2.2.2≠0 then vZ { q with ln:=(lnF q.ln c).1} (lnF q.ln c).2.2.2
  else if(lnF q.ln c).2.2.1=true then
   if(zY { q with ln:=(lnF q.ln c).1} (lnF q.ln c).2.1).2≠0 then vZ (zY { q with ln:=(lnF q.ln c).1} (lnF q.ln c).2.1).1 (zY { q with ln:=(lnF q.ln c).1} (lnF q.ln c).2.1).2
   else(zY { q with ln:=(lnF q.ln c).1} (lnF q.ln c).2.1).1
  else { q with ln:=(lnF q.ln c).1}
 else q
def rq0:Rq:=⟨ln0,0,hd0,0,none,true,[]⟩
def qy (q:Rq) (b:Str):Rq:=b.foldl rqF q
def zT (q:Rq) (b:Str):Rq:=qy { q with out:=[]} b
end Go.Proofs.YtkjepecoodjbmaaGreatDoor
namespace Go.Proofs.YtkjepecoodjbmaaGreatDoor
open Go Go.Sep Go.Ab
def zqG (q:Rq):Rq:= { q with out:=[]}
end Go.Proofs.YtkjepecoodjbmaaGreatDoor
namespace Go.Sep.P
theorem YB {a b s:List UInt8} (ha:a<:+s) (hb:b<:+s) (h:a.length≤b.length):a<:+b:=List.suffix_of_suffix_length_le ha hb h
structure Top (m s:List UInt8) (b n:Nat):Prop where
 le:n≤b
 suf:m.take n<:+s
 top: ∀ k,k≤b→m.take k<:+s→k≤n
theorem Top.eq {m s:List UInt8} {b n n':Nat} (h:Top m s b n) (h':Top m s b n'):n=n':=
 Nat.le_antisymm (h'.top n h.le h.suf) (h.top n' h'.le h'.suf)
def sW (m s:List UInt8):Nat→Nat
 |0=>0
 |k+1=>if m.take (k+1)<:+s then k+1 else sW m s k
theorem vO (m s:List UInt8): ∀ b,Top m s b (sW m s b)
 |0=>⟨jL _,by simp [sW],fun k hk _=>hk⟩
 | b + 1=>by
   unfold sW
   split
   · rename_i h;exact⟨jL _,h,fun k hk _=>hk⟩
   · rename_i h
     have ih:=vO m s b;refine⟨Nat.le_succ_of_le ih.le,ih.suf,fun k hk hs=> ?_⟩
     rcases Nat.lt_or_ge k (b+1) with h1|h1
     · exact ih.top k (by omega) hs
     · have:k=b+1:=by omega
       subst this;exact(h hs).elim
def held (m s:List UInt8):Nat:=sW m s (m.length - 1)
def yh (m:List UInt8) (i:Nat):Nat:=sW m (m.take i) (i - 1)
theorem qw {m:List UInt8} {i:Nat} (h:0<i):yh m i<i:=by
 have:=(vO m (m.take i) (i - 1)).le;unfold yh;omega
def fall (m:List UInt8) (c:UInt8):Nat→Nat→Nat
 |0,n=>n
 |f+1,n=>if n=0 then 0 else if m[n]? =some c then n else fall m c f (yh m n)
theorem UZ (m:List UInt8) (c:UInt8) (f:Nat):fall m c f 0=0:=by cases f<;>simp [fall]
theorem ziE (m:List UInt8) (c:UInt8): ∀ (f n:Nat),n≤f→∀ g,n≤g→fall m c f n=fall m c g n
 | 0,n,h,g,_=>by
   have:n=0:=by omega
   subst this;rw [UZ,UZ]
 | f + 1,n,h,g,hg=>by
   cases g with
   | zero=>
     have:n=0:=by omega
     subst this;rw [UZ,UZ]
   | succ g=>
     simp only [fall]
     split
     · rfl
     · split
       · rfl
       · rename_i h0 _
         have hb:=qw (m:=m) (i:=n) (by omega)
         exact ziE m c f _ (by omega) g (by omega)
structure zAf (m:List UInt8) (c:UInt8) (n j:Nat):Prop where
 le:j≤n
 suf:m.take j<:+m.take n
 top: ∀ k,k≤n→m.take k<:+m.take n→m[k]? =some c→k≤j
 fits:j=0∨m[j]? =some c
theorem zkj (m:List UInt8) (c:UInt8) (hm: ∀ k,k≤m.length→(m.take k).length=k): ∀ (f n:Nat),n≤f→n≤m.length→zAf m c n (fall m c f n)
 | 0,n,h,hn=>by
   have:n=0:=by omega
   subst this;exact⟨jL _,List.suffix_refl _,fun k hk _ _=>hk,.inl rfl⟩
 | f + 1,n,h,hn=>by
   simp only [fall]
   split
   · rename_i h0;subst h0;exact⟨jL _,List.suffix_refl _,fun k hk _ _=>hk,.inl rfl⟩
   · split
     · rename_i h0 h1;exact⟨jL _,List.suffix_refl _,fun k hk _ _=>hk,.inr h1⟩
     · rename_i h0 h1
       have hb:=qw (m:=m) (i:=n) (by omega)
       have ht:Top m (m.take n) (n - 1) (yh m n):=vO m (m.take n) (n - 1)
       have ih:=zkj m c hm f (yh m n) (by omega) (by omega)
       refine⟨by have:=ih.le;omega,ih.suf.trans ht.suf,fun k hk hs hc=> ?_,ih.fits⟩
       have hne:k≠n:=by rintro rfl;exact h1 hc
       have hkb:k≤yh m n:=ht.top k (by omega) hs
       refine ih.top k hkb (YB hs ht.suf ?_) hc
       rw [hm k (by omega),hm _ (by omega)]
       exact hkb
theorem take_len {m:List UInt8}: ∀ k,k≤m.length→(m.take k).length=k:=fun k hk=>by simp;omega
theorem YA {m s:List UInt8} {k:Nat} {c:UInt8} (hk:k<m.length):m.take (k+1)<:+s++[c]↔m.take k<:+s∧m[k]? =some c:=by
 rw [jB hk,jm hk];constructor
 · rintro⟨t,ht⟩
   rw [← jo] at ht;have:=List.append_inj' ht rfl
   exact⟨⟨t,this.1⟩,by simpa using this.2⟩
 · rintro⟨⟨t,ht⟩,hc⟩
   have hc':m[k]=c:=by simpa using hc
   exact⟨t,by rw [← jo,ht,hc']⟩
theorem Top.step {m s:List UInt8} {b n:Nat} {c:UInt8} (h:Top m s b n) (hb:b<m.length):
  (m[fall m c n n]? =some c→Top m (s++[c]) (b+1) (fall m c n n+1))∧(m[fall m c n n]? ≠some c→Top m (s++[c]) (b+1) 0∧fall m c n n=0):=by
 have hn:n≤m.length:=by have:=h.le;omega
 have hf:=zkj m c take_len n n (jL _) hn;generalize fall m c n n=j at hf
 have hjl:j<m.length:=by have:=hf.le;have:=h.le;omega
 have key: ∀ k,k+1≤b+1→m.take (k+1)<:+s++[c]→k≤j∧m[k]? =some c:=by
  intro k hk hs
  obtain⟨h1,h2⟩:=(YA (by omega)).1 hs
  have h3:=h.top k (by omega) h1
  have h4:m.take k<:+m.take n:=YB h1 h.suf (by rw [take_len k (by omega),take_len n hn];exact h3)
  exact⟨hf.top k h3 h4 h2,h2⟩
 constructor
 · intro hc
   refine⟨by have:=hf.le;have:=h.le;omega,(YA hjl).2 ⟨hf.suf.trans h.suf,hc⟩,fun k hk hs=> ?_⟩
   cases k with
   |zero=>omega
   |succ k=>have:=(key k hk hs).1;omega
 · intro hc
   have hj0:j=0:=hf.fits.resolve_right hc;subst hj0
   refine⟨⟨jM _,by simp,fun k hk hs=> ?_⟩,rfl⟩
   cases k with
   |zero=>omega
   | succ k=>
     obtain⟨h1,h2⟩:=key k hk hs
     have:k=0:=by omega
     subst this;exact(hc h2).elim
theorem zkJ {m:List UInt8} {i:Nat} (hi:i<m.length) (h0:0<i):
  yh m (i+1)=(if m[fall m m[i] (yh m i) (yh m i)]? =some m[i] then fall m m[i] (yh m i) (yh m i)+1 else 0):=by
 have ht:=vO m (m.take i) (i - 1)
 have hs:=ht.step (c:=m[i]) (by omega)
 have e:m.take i++[m[i]]=m.take (i+1):=(jB hi).symm
 rw [e,show i - 1+1=i by omega] at hs
 have hnew:=vO m (m.take (i+1)) (i+1 - 1)
 change Top m (m.take (i+1)) i (yh m (i+1)) at hnew
 change(m[fall m m[i] (yh m i) (yh m i)]? =some m[i]→_)∧_ at hs
 split
 · rename_i hc;exact hnew.eq (hs.1 hc)
 · rename_i hc;exact hnew.eq (hs.2 hc).1
theorem zso {m:List UInt8} {n k j:Nat} (hj:0<j) (hk:k+j=n) (hn:n≤m.length) (h:m.take k++m.take j=m.take n):
  m.take k++m.take (j - yh m j)=m.take (k+(j - yh m j))∧m.take (k+(j - yh m j))++m.take (yh m j)=m.take n:=by
 have hb:=qw (m:=m) hj;have ht:Top m (m.take j) (j - 1) (yh m j):=vO m (m.take j) (j - 1);generalize yh m j=b at hb ht;obtain⟨t,e⟩:=ht.suf;have hl:=congrArg List.length e
 rw [jk,take_len b (by omega),take_len j (by omega)] at hl
 have e2:t=m.take (j - b):=by
  have h1:(m.take j).take t.length=t:=by rw [← e];simp
  rw [List.take_take,show min t.length j=j - b by omega] at h1
  exact h1.symm
 subst e2
 have e3:m.take n=(m.take k++m.take (j - b))++m.take b:=by rw [jo,e,h]
 have e4:m.take (k+(j - b))=m.take k++m.take (j - b):=by
  have h1:(m.take n).take (k+(j - b))=m.take (k+(j - b)):=by rw [List.take_take,show min (k+(j - b)) n=k+(j - b) by omega]
  rw [← h1,e3]
  exact List.take_left' (by rw [jk,take_len k (by omega),take_len _ (by omega)])
 exact⟨e4.symm,by rw [e4,e3]⟩
theorem ziD {m:List UInt8} {c:UInt8} {j:Nat} (h0:0<j) (h:m[j]? ≠some c):fall m c j j=fall m c (yh m j) (yh m j):=by
 have hb:=qw (m:=m) h0
 cases j with
 |zero=>omega
 | succ i=>
   rw [fall,if_neg (by omega),if_neg h]
   exact ziE m c _ _ (by omega) _ (jL _)
theorem Xd {m:List UInt8} {c:UInt8} {j:Nat} (h:j=0∨m[j]? =some c):fall m c j j=j:=by
 cases j with
 |zero=>rfl
 |succ i=>rw [fall,if_neg (by omega),if_pos (h.resolve_left (by omega))]
def feed (m:List UInt8) (n:Nat) (c:UInt8):List UInt8 × Nat × Bool:=
 let j:=fall m c n n
 let out:=m.take (n - j)
 if m[j]? =some c then(if j+1<m.length then(out,j+1,false) else(out,0,true)) else(out++[c],0,false)
end Go.Sep.P
namespace Go.Proofs.YtkjepecoodjbmaaGreatDoor
open Go Go.Sep Go.Ab
set_option maxRecDepth 100000
set_option linter.unusedSimpArgs false
set_option linter.unusedVariables false
def cfgS:Cfg:= { sl:=[⟨310,0,.byte,some 5⟩,⟨310,1,.int,some 3⟩],nr:=[6]}
def QN (m:Str):List Int:=(List.range (m.length+1)).map fun i=>((P.yh m i:Nat):Int)
theorem ztb (m:Str) (i:Int) (h0:0≤i) (h:i≤m.length):(QN m).getD i.toNat 0=(P.yh m i.toNat:Nat):=by
 unfold QN
 rw [jH,List.getElem?_map,List.getElem?_range (by omega)];rfl
theorem zta (m:Str):(QN m).length=m.length+1:=by simp [QN]
def ql (m:Str) (n:Nat) (c:UInt8):Str × Nat × Bool:=if m=[] then([c],n,false) else P.feed m n c
def zfS (I:Alg):KU
 |[.v (.one (.ptr 0 0)),.v (.one (.p (.int .u8 k)))],[.pack [.obj 310 [.row 1,.row 2,.p (.int .i64 n)],.row .byte 5 m,.row .int 3 bs]]=>(fun(m:Str) (bs:List Int)=>(some (.one ⟨I.hid (bs=QN m∧m.length≤1000000∧0≤n∧(m=[]∨n<m.length)∧0≤k∧k≤255),(.ret (.tup [.one (.row 1),.one (.p (.bool (I.hid ((ql m n.toNat (UInt8.ofNat k.toNat)).2.2))))])),[.pack [.obj 310 [.row 1,.row 2,.p (.int .i64 (I.hid ((ql m n.toNat (UInt8.ofNat k.toNat)).2.1:Int)))],.row .byte 5 m,.row .int 3 bs],.row .byte 5 (I.hid ((ql m n.toNat (UInt8.ofNat k.toNat)).1))]⟩):Option CT)) m bs
 |_,_=>none
theorem zsl:zu Tryz.prog 276 (zfS alg):=by
 intro args hp r h;unfold zfS at h;split at h<;>cases h
 rename_i k n m bs
 revert bs;intro(bs:List Int)
 simp only [CT.Good,zh];intro hneed;obtain⟨hbs,hl,hn0,hn,hk0,hk1⟩:=hneed;generalize hr:ql m n.toNat (UInt8.ofNat k.toNat)=r;obtain⟨out,n',fd⟩:=r
 refine spH Tryz.func276 (by kernel_rfl) { cfgS with keep:=some [0,1,4,5,6,7]} [] (by kernel_rfl) ?_
 intro I X hI hX
 refine orcL ?_;go_invoke;refine orcS (by kernel_rfl) ?_
 simp only [zi,Nat.reduceAdd];refine⟨fun h=> ?_,fun h=> ?_⟩
 · subst hI
   simp only [nrmA,nrmB] at h
   have:m=[]:=List.eq_nil_of_length_eq_zero (by omega)
   subst this;simp only [ql,if_true,Prod.mk.injEq] at hr;obtain⟨rfl,rfl,rfl⟩:=hr;simp only [nrmA,nrmB];refine⟨⟨hk0,hk1⟩,?_⟩;rw [Int.toNat_of_nonneg hn0]
 have hm:m≠[]:=by
  subst hI;simp only [nrmA,nrmB] at h;rintro rfl;simp at h
 have hm0:0<m.length:=by cases m<;>simp_all
 have hn:n<m.length:=hn.resolve_left hm;simp only [ql,if_neg hm] at hr
 refine lpH hI [Za] hX [0,1,6] (fun(p:Nat × Str)=>p.1≤n.toNat∧p.2.length+p.1=n.toNat∧P.fall m (UInt8.ofNat k.toNat) p.1 p.1=P.fall m (UInt8.ofNat k.toNat) n.toNat n.toNat∧p.2++m.take p.1=m.take n.toNat∧p.2=m.take p.2.length)
  (fun p=>⟨[(0,.v (.one (.ptr 0 0))),(1,.v (.one (.p (.int .u8 k)))),(6,.v (.one (.row 1)))],[.pack [.obj 310 [.row 1,.row 2,.p (.int .i64 p.1)],.row .byte 5 m,.row .int 3 bs],.row .byte 5 p.2],100,none⟩) (fun p=>p.1) (n.toNat,[])
  (by kernel_rfl) ?_ ⟨jL _,by simp,rfl,by simp,by simp⟩ ?_
 · simp only [Int.toNat_of_nonneg hn0];kernel_rfl
 rintro⟨j,o⟩ ⟨hjn,hoj,hfall,hcat,hpre⟩ A hA;simp only at hjn hoj hfall hcat hpre
 refine orcL ?_;go_invoke;refine orcS (by kernel_rfl) ?_
 simp only [zi,Nat.reduceAdd];subst hI hbs;simp only [nrmA,nrmB]
 have hb:=ztb m j (by omega) (by omega)
 simp only [jJ] at hb;have hbl:0<j→P.yh m j<j:=P.qw
 have hj:j<m.length:=by omega
 have hge:m.getD j 0=m[j]:=by simp [hj]
 rw [hb,zta,hge]
 have hcc:(m[j].toNat:Int)=k↔m[j]? =some (UInt8.ofNat k.toNat):=by
  rw [jm hj,jw,← UInt8.toNat_inj,UInt8.toNat_ofNat'];omega
 simp only [hcc];have hfeed:=hr;simp only [P.feed] at hfeed;rw [← hfall] at hfeed
 refine⟨fun h0=>⟨by omega,by omega,fun hne=>⟨by omega,by omega,by omega,by omega,by simp only [jv];omega,?_⟩,fun heq=>⟨by omega,by omega,fun hne=>(hne heq).elim,fun _=>⟨by omega,fun hlt=> ?_,fun hlt=> ?_⟩⟩⟩,fun h0=>⟨by omega,by omega,fun hne=> ?_,fun heq=>⟨by omega,fun hlt=> ?_,fun hlt=> ?_⟩⟩⟩
 · obtain⟨h1,h2⟩:=P.zso (m:=m) (n:=n.toNat) (k:=o.length) (j:=j) (by omega) (by omega) (by omega) (by rw [← hpre];exact hcat)
   have hx:(↑j - ↑(P.yh m j):Int).toNat=j - P.yh m j:=by omega
   have hbj:=hbl (by omega)
   rw [hx]
   refine hA (P.yh m j,o++m.take (j - P.yh m j)) ⟨by simp only;omega,?_,?_,?_,?_⟩ hbj
   · simp only [jk,jv];omega
   · rw [← hfall];exact(P.ziD (by omega) hne).symm
   · simp only;rw [← h2,← h1,← hpre]
   · have:(o++m.take (j - P.yh m j)).length=o.length+(j - P.yh m j):=by simp only [jk,jv];omega
     simp only;rw [this,← h1,← hpre]
 · have hstop:=P.Xd (c:=UInt8.ofNat k.toNat) (.inr heq)
   rw [hstop,if_pos heq,if_pos (by omega)] at hfeed
   simp only [Prod.mk.injEq] at hfeed;obtain⟨rfl,rfl,rfl⟩:=hfeed
   rw [show n.toNat - j=o.length by omega,← hpre]
   exact⟨rfl,rfl⟩
 · have hstop:=P.Xd (c:=UInt8.ofNat k.toNat) (.inr heq)
   rw [hstop,if_pos heq,if_neg (by omega)] at hfeed
   simp only [Prod.mk.injEq] at hfeed;obtain⟨rfl,rfl,rfl⟩:=hfeed
   rw [show n.toNat - j=o.length by omega,← hpre]
   exact⟨rfl,rfl⟩
 all_goals
  have hj0:j=0:=by omega
  subst hj0;have hstop:=P.Xd (m:=m) (c:=UInt8.ofNat k.toNat) (j:=0) (.inl rfl);rw [hstop] at hfeed
  rw [show n.toNat=o.length by omega,Nat.sub_zero,← hpre] at hfeed
 · rw [if_neg hne] at hfeed
   simp only [Prod.mk.injEq] at hfeed;obtain⟨rfl,rfl,rfl⟩:=hfeed
   exact⟨⟨hk0,hk1⟩,by simp only [jh,ji];omega,rfl,rfl⟩
 · rw [if_pos heq,if_pos (by omega)] at hfeed
   simp only [Prod.mk.injEq] at hfeed;obtain⟨rfl,rfl,rfl⟩:=hfeed;exact⟨rfl,rfl⟩
 · rw [if_pos heq,if_neg (by omega)] at hfeed
   simp only [Prod.mk.injEq] at hfeed;obtain⟨rfl,rfl,rfl⟩:=hfeed;exact⟨rfl,rfl⟩
def Rw:Know Tryz.prog:=⟨276,zfS,zsl⟩
def Ru:Know Tryz.prog:=⟨276,fun I=>zx I (zfS I),zf zsl⟩
def wI (m:Str) (i:Nat):List Int:=(List.range (m.length+1)).map fun q=>if q<i then((P.yh m q:Nat):Int) else 0
theorem zkI (m:Str) (i:Nat) (h:m.length<i):wI m i=QN m:=by
 unfold wI QN;refine List.map_congr_left fun q hq=> ?_
 rw [if_pos (by have:=List.mem_range.1 hq;omega)]
theorem zkE (m:Str):wI m 2=List.replicate (m.length+1) 0:=by
 unfold wI
 refine List.ext_getElem (by simp) fun q h1 h2=> ?_
 simp only [List.getElem_map,List.getElem_range,List.getElem_replicate]
 split
 · have:q=0∨q=1:=by omega
   rcases this with rfl|rfl
   · simp [P.yh,P.sW]
   · simp [P.yh,P.sW]
 · rfl
theorem zkG (m:Str) (i:Nat):(wI m i).length=m.length+1:=by simp [wI]
theorem zkH (m:Str) (i q:Nat) (h:q<i) (hm:q≤m.length):(wI m i).getD q 0=(P.yh m q:Nat):=by
 unfold wI
 rw [jH,List.getElem?_map,List.getElem?_range (by omega)]
 simp [h]
theorem zkF (m:Str) (i:Nat):(wI m i).set i ((P.yh m i:Nat):Int)=wI m (i+1):=by
 unfold wI
 refine List.ext_getElem (by simp) fun q h1 h2=> ?_
 simp only [List.getElem_set,List.getElem_map,List.getElem_range]
 by_cases h:i=q
 · subst h;simp
 · rw [if_neg h]
   by_cases hq:q<i
   · rw [if_pos hq,if_pos (by omega)]
   · rw [if_neg hq,if_neg (by omega)]
def zmp (I:Alg):KU
 |[.v (.one (.p (.list .byte m)))],[]=>(fun(m:Str)=>(some (.one ⟨I.hid (m.length≤999999),(.ret (.v (.one (.ptr 0 0)))),[.pack [.obj 310 [.row 1,.row 2,.p (.int .i64 0)],.row .byte 5 m,.row .int 3 (I.hid (QN m))]]⟩):Option CT)) m
 |_,_=>none
theorem zwm:zu Tryz.prog 275 (zmp alg):=by
 intro args hp r h;unfold zmp at h;split at h<;>cases h
 rename_i m;simp only [CT.Good,zh];intro hneed
 refine spH Tryz.func275 (by kernel_rfl) { cfgS with seam:=[2],keep:=some [0,2,3,4,5]} [Yn,Za] (by kernel_rfl) ?_
 intro I X hI hX
 refine orcL ?_;go_invoke;refine orcS (by kernel_rfl) ?_
 simp only [zi,Nat.reduceAdd]
 refine⟨?n1,⟨?n2,?n3,?n4,?n5,seam hI uT mixed [] hX [0,3] ⟨[(0,.v (.one (.p (.list .byte m)))),(3,.v (.one (.ptr 0 0)))],[.pack [.obj 310 [.row 1,.row 2,.p (.int .i64 0)],.row .byte 5 m,.row .int 3 ((I.rep (α:=Int) (I.add (I.len (α:=UInt8) m) 1) (0:Int)))]],60,none⟩ (by kernel_rfl) ?on⟩,?n3,?n4,?n5,?n2,seam hI uT mixed [] hX [0,3] _ (by kernel_rfl) ?on⟩
 case on=>
  have hrep:(I.rep (α:=Int) (I.add (I.len (α:=UInt8) m) 1) (0:Int))=wI m 2:=by
   subst hI;simp only [nrmA,nrmB];rw [zkE];rfl
  rw [hrep];generalize hb2:wI m 2=b2
  refine orcL ?_;go_invoke;refine orcS (by kernel_rfl) ?_
  simp only [zi,Nat.reduceAdd]
  refine lpH hI [Yn,Za] hX [0,3,5,4] (fun(g:Nat × Nat × List Int)=>match g with|(i,k,bs)=>1≤i∧(i≤m.length∨i=1)∧k=P.yh m i∧bs=wI m (i+1)) (fun(g:Nat × Nat × List Int)=>match g with|(i,k,bs)=>⟨[(0,.v (.one (.p (.list .byte m)))),(3,.v (.one (.ptr 0 0))),(5,.v (.one (.p (.int .i64 i)))),(4,.v (.one (.p (.int .i64 k))))],[.pack [.obj 310 [.row 1,.row 2,.p (.int .i64 0)],.row .byte 5 m,.row .int 3 bs]],60,none⟩) (fun(g:Nat × Nat × List Int)=>match g with|(i,k,bs)=>m.length - i) (1,0,b2) (by kernel_rfl) (by kernel_rfl) ?_ ?_
  · exact⟨jL _,.inr rfl,by simp [P.yh,P.sW],hb2.symm⟩
  rintro⟨i,k,bs⟩ ⟨hi,him,rfl,hbs⟩ A hA;simp only at hA;generalize hk:P.yh m i=k at hA
  refine orcL ?_;go_invoke;refine orcS (by kernel_rfl) ?_
  simp only [zi,Nat.reduceAdd];refine⟨fun hlt=> ?_,fun hlt=> ?_⟩
  · refine lpH hI [Yn,Za] hX [0,3,5,4] (fun(q:Nat)=>q≤k∧P.fall m (m.getD i 0) q q=P.fall m (m.getD i 0) k k) (fun(q:Nat)=>⟨[(0,.v (.one (.p (.list .byte m)))),(3,.v (.one (.ptr 0 0))),(5,.v (.one (.p (.int .i64 i)))),(4,.v (.one (.p (.int .i64 q))))],[.pack [.obj 310 [.row 1,.row 2,.p (.int .i64 0)],.row .byte 5 m,.row .int 3 bs]],60,none⟩) (fun(q:Nat)=>q) k (by kernel_rfl) (by kernel_rfl) ?_ ?_
    · exact⟨jL _,rfl⟩
    rintro q ⟨hq,hfall⟩ B hB
    refine orcL ?_;go_invoke;refine orcS (by kernel_rfl) ?_
    simp only [zi,Nat.reduceAdd];subst hI hbs;simp only [nrmA,nrmB] at hlt
    have hil:i<m.length:=by omega
    have hkl:k<i:=by rw [← hk];exact P.qw (by omega)
    have hql:q<m.length:=by omega
    have hst:=P.zkJ hil (by omega)
    have hgi:m.getD i 0=m[i]:=by simp [hil]
    have hgq:m.getD q 0=m[q]:=by simp [hql]
    have hg0:=zkH m (i+1) q (by omega) (by omega)
    have hbl:0<q→P.yh m q<q:=P.qw;rw [hk] at hst;rw [hgi] at hfall;rw [← hfall] at hst;simp only [nrmA,nrmB]
    rw [hgi,hgq,zkG,hg0,show((i:Int)+1).toNat=i+1 by omega]
    have hset:=zkF m (i+1)
    have hcc:m[i]=m[q]↔m[q]? =some m[i]:=by rw [jm hql];simp [eq_comm]
    have hA1:(q=0∨m[i]=m[q])→m[i]=m[q]→A ⟨[(0,.v (.one (.p (.list .byte m)))),(3,.v (.one (.ptr 0 0))),(5,.v (.one (.p (.int .i64 ((i:Int)+1))))),(4,.v (.one (.p (.int .i64 ((q:Int)+1)))))],[.pack [.obj 310 [.row 1,.row 2,.p (.int .i64 0)],.row .byte 5 m,.row .int 3 (((wI m (i+1)).set (i+1) ((q:Int)+1)))]],60,none⟩:=by
     intro h1 h2
     rw [P.Xd (by rw [← hcc];exact h1),if_pos (hcc.1 h2)] at hst
     have:=hA (i+1,q+1,wI m (i+2)) ⟨by omega,by omega,hst.symm,rfl⟩ (by simp only;omega)
     rw [hst] at hset;rw [← hset] at this;exact this
    have hA2:(q=0∨m[i]=m[q])→¬m[i]=m[q]→A ⟨[(0,.v (.one (.p (.list .byte m)))),(3,.v (.one (.ptr 0 0))),(5,.v (.one (.p (.int .i64 ((i:Int)+1))))),(4,.v (.one (.p (.int .i64 q))))],[.pack [.obj 310 [.row 1,.row 2,.p (.int .i64 0)],.row .byte 5 m,.row .int 3 (((wI m (i+1)).set (i+1) (q:Int)))]],60,none⟩:=by
     intro h1 h2;obtain rfl:q=0:=h1.resolve_right h2;rw [P.Xd (.inl rfl),if_neg (fun h=>h2 (hcc.2 h))] at hst
     have:=hA (i+1,0,wI m (i+2)) ⟨by omega,by omega,hst.symm,rfl⟩ (by simp only;omega)
     rw [hst] at hset;rw [← hset] at this;exact this
    (repeat' (first|refine ja ?_ ?_|intro _))<;>first|omega|exact jb|exact jc ‹False›|skip
    · refine hB (P.yh m q) ⟨by have:=hbl (by omega);omega,?_⟩ (hbl (by omega))
      rw [hgi,← P.ziD (by omega) (fun h=>‹¬m[i]=m[q]› (hcc.2 h)),hfall]
    · exact hA1 (.inr ‹_›) ‹_›
    · exact hA2 (.inr ‹_›) ‹_›
    · exact hA1 (.inl (by omega)) ‹_›
    · exact hA2 (.inl (by omega)) ‹_›
  · subst hI hbs
    simp only [nrmA,nrmB] at hlt
    rw [zkI m _ (by omega)]
    exact⟨trivial,rfl⟩
 all_goals subst hI;simp only [nrmA,nrmB];try omega
def zwl:Know Tryz.prog:=⟨275,zmp,zwm⟩
def zwk:Know Tryz.prog:=⟨275,fun I=>zx I (zmp I),zf zwm⟩
end Go.Proofs.YtkjepecoodjbmaaGreatDoor
namespace Go.Proofs.YtkjepecoodjbmaaGreatDoor
open Go Go.Sep Go.Ab
set_option maxRecDepth 100000
def Uk (s:Str):Bool:= !decide (70<s.length)&&(yN s&&(decide (Lib.trimS s [32,9]=s)&&decide (s≠[])))
def VK (b:Str) (c:UInt8):Str:=
 if c=47∨c=92 then []
 else if c=9∨YP (c.toNat:Int)=false∨c=34∨c=58 then b++[95]
 else if c=46∧b=[] then b
 else b++[c]
def zjw (s:Str):Str:=if(s.foldl VK []).take 40=[] then [102,105,108,101] else(s.foldl VK []).take 40
theorem zpY (s:Str) (i:Nat) (h:i<s.length):(s.take (i+1)).foldl VK []=VK ((s.take i).foldl VK []) (s.getD i 0):=by
 rw [jB h,List.foldl_append]
 simp [h]
theorem ztZ (s:Str): ∀ b:Str,(s.foldl VK b).length≤b.length+s.length:=by
 induction s with
 |nil=>intro b;simp
 | cons c r ih=>
   intro b;have h:=ih (VK b c)
   have h2:(VK b c).length≤b.length+1:=by
    unfold VK
    repeat' split
    all_goals simp
   rw [List.foldl_cons,jh];omega
theorem znU (c:UInt8) (k:Nat) (h:k<256):(c.toNat:Int)=(k:Int)↔c=UInt8.ofNat k:=by
 constructor
 · intro e
   rw [← UInt8.toNat_inj,UInt8.toNat_ofNat',Nat.mod_eq_of_lt h];omega
 · intro e
   rw [e,UInt8.toNat_ofNat',Nat.mod_eq_of_lt h]
theorem zt0 (b:Str) (c:UInt8):VK b c=if(c.toNat:Int)=47 then [] else if(c.toNat:Int)=92 then [] else if(c.toNat:Int)=9 then b++[95] else if YP (c.toNat:Int)=false then b++[95] else if(c.toNat:Int)=34 then b++[95] else if(c.toNat:Int)=58 then b++[95] else if(c.toNat:Int)=46 then(if(b.length:Int)=0 then b else b++[c]) else b++[c]:=by
 have h0:(b.length:Int)=0↔b=[]:=by rw [← List.length_eq_zero_iff];omega
 have e1:(c.toNat:Int)=47↔c=47:=znU c 47 (by decide)
 have e2:(c.toNat:Int)=92↔c=92:=znU c 92 (by decide)
 have e3:(c.toNat:Int)=9↔c=9:=znU c 9 (by decide)
 have e4:(c.toNat:Int)=34↔c=34:=znU c 34 (by decide)
 have e5:(c.toNat:Int)=58↔c=58:=znU c 58 (by decide)
 have e6:(c.toNat:Int)=46↔c=46:=znU c 46 (by decide)
 simp only [e1,e2,e3,e4,e5,e6,h0];unfold VK;generalize YP (c.toNat:Int)=k;clear e1 e2 e3 e4 e5 e6 h0
 repeat' split
 all_goals simp_all
def za4 (I:Alg):KU
 |[.v (.one (.p (.str s)))],[]=>(fun(s:Str)=>(some (.one ⟨I.hid (s.length≤1000000),(.ret (.v (.one (.p (.str (I.hid (zjw s))))))),[]⟩):Option CT)) s
 |_,_=>none
theorem zm9:zu Tryz.prog 300 (za4 alg):=by
 intro args hp r h;unfold za4 at h;split at h<;>cases h
 rename_i s;simp only [CT.Good,zh];intro hneed
 refine spH Tryz.func300 (by kernel_rfl) { nr:=[3],keep:=some [0,2,3,4,5,7,8]} [rC,Xo] (by kernel_rfl) ?_
 intro I X hI hX
 refine orcL ?_;go_invoke;refine orcS (by kernel_rfl) ?_
 simp only [zi,Nat.reduceAdd]
 refine lpH hI [rC,Xo] hX [0,3,7,8] (fun(g:Nat × Str)=>match g with|(i,b)=>i≤s.length∧b=(s.take i).foldl VK []) (fun(g:Nat × Str)=>match g with|(i,b)=>⟨[(0,.v (.one (.p (.str s)))),(3,.v (.one (.row 0))),(7,.v (.one (.p (.int .i64 ((I.len (α:=UInt8) s)))))),(8,.v (.one (.p (.int .i64 i))))],[.row .byte 5 b],63,none⟩) (fun(g:Nat × Str)=>match g with|(i,b)=>s.length - i) (0,[]) (by kernel_rfl) (by kernel_rfl) ?_ ?_
 · exact⟨jM _,rfl⟩
 rintro⟨i,b⟩ ⟨h1,h2⟩ A hA;simp only at hA h1 h2
 refine orcL ?_;go_invoke;refine orcS (by kernel_rfl) ?_
 simp only [zi,Nat.reduceAdd];subst hI;simp only [nrmA,nrmB,nrlB,reduceCtorEq];have hs:=zpY s i;have hbl:=ztZ (s.take i) [];rw [← h2] at hs hbl;rw [jv,ji] at hbl
 have hA2:i<s.length→_:=fun h=>hA (i+1,VK b (s.getD i 0)) ⟨by simp only;omega,(hs h).symm⟩ (by simp only;omega)
 have l0:=(s.getD i 0).toNat_lt;rw [zt0] at hA2
 have hend: ¬ i<s.length→s.foldl VK []=b:=fun h=>by rw [h2,jq (by omega)]
 have hm: ¬ i<s.length→zjw s=if b.take 40=[] then [102,105,108,101] else b.take 40:=fun h=>by unfold zjw;rw [hend h]
 have hn:0<b.length→¬ b.take 40=[]:=fun h k=>by have:=congrArg List.length k;rw [jv,ji] at this;omega
 generalize s.getD i 0=c at *
 (repeat' (first|refine ja ?_ ?_|intro _))<;>first|omega|exact jb|exact jc ‹False›|skip
 all_goals first
  |omega
  |exact⟨by omega,by omega⟩
  |(simp only [jr];omega)
  |(rw [hm (by omega),if_neg (hn (by omega))];first|rfl|exact(jq (by omega)).symm)
  |(rw [hm (by omega),if_pos (by rw [List.eq_nil_of_length_eq_zero (show b.length=0 by omega)];rfl)])
  |(have h:=hA2 (by omega);(repeat(first|rw [if_pos (by first|omega|assumption)] at h|rw [if_neg (by first|omega|assumption|simpa using ‹_=true›)] at h));simp only [Int.natCast_add,Int.natCast_one] at h;exact h)
def zvx:Know Tryz.prog:=⟨300,za4,zm9⟩
def zvw:Know Tryz.prog:=⟨300,fun I=>zx I (za4 I),zf zm9⟩
def za7 (I:Alg):KU
 |[.v (.one (.p (.str s)))],[]=>(fun(s:Str)=>(some (.one ⟨I.hid (s.length≤140737488355328),(.ret (.v (.one (.p (.bool (I.hid (Uk s))))))),[]⟩):Option CT)) s
 |_,_=>none
theorem zng:zu Tryz.prog 274 (za7 alg):=by
 intro args hp r h;unfold za7 at h;split at h<;>cases h
 rename_i s;simp only [CT.Good,zh];intro hneed
 refine spH Tryz.func274 (by kernel_rfl) { keep:=some [0,2]} [wU,wS,Tz,Tv] (by kernel_rfl) ?_
 intro I X hI hX
 refine orcL ?_;go_invoke;refine orcS (by kernel_rfl) ?_
 simp only [zi,Nat.reduceAdd];subst hI;simp only [nrmA,nrmB,nrlB,reduceCtorEq];unfold Uk
 have h70:(70<s.length)↔((70:Int)<(s.length:Int)):=by omega
 simp only [h70]
 (repeat' (first|refine ja ?_ ?_|intro _))<;>first|omega|exact jb|exact jc ‹False›|skip
 all_goals first
  |omega
  |(rw [decide_eq_false (by omega),‹yN s=true›,decide_eq_true ‹Lib.trimS s _=s›];cases s<;>simp)
  |(simp_all;done)
def znf:Know Tryz.prog:=⟨274,za7,zng⟩
def zne:Know Tryz.prog:=⟨274,fun I=>zx I (za7 I),zf zng⟩
end Go.Proofs.YtkjepecoodjbmaaGreatDoor
namespace Go.Proofs.YtkjepecoodjbmaaGreatDoor
open Go Go.Sep Go.Ab
def pctM:Str→Option Str
 |[]=>some []
 | c ::r=>
   if c≠37 then(pctM r).map (c:: ·)
   else match r with
    |a::b::r'=>if hexK (a.toNat:Int)<0∨hexK (b.toNat:Int)<0 then none else(pctM r').map (UInt8.ofNat (16 * hexK (a.toNat:Int)+hexK (b.toNat:Int)).toNat:: ·)
    |_=>none
def utfS:Str:=[117,116,102,45,56,39,39]
def extM (s:Str):Option Str:=if s.length<7∨lowS (s.take 7)≠utfS then none else pctM (s.drop 7)
def qp:Str:=[99,111,110,116,101,110,116,45,100,105,115,112,111,115,105,116,105,111,110]
def znt:Str:=[99,111,110,116,101,110,116,45,116,121,112,101]
def zwG:Str:=[102,111,114,109,45,100,97,116,97]
def zxD:Str:=[110,97,109,101]
def zvt:Str:=[102,105,108,101,110,97,109,101]
def ziA:Str:=[102,105,108,101,110,97,109,101,42]
def extV (s:Str):Str:=(extM s).getD []
def extB (s:Str):Bool:=(extM s).isSome
def zxr (f x:Str × Bool):Str:=if x.2=true then zjw (extV x.1) else if f.2=true then zjw f.1 else []
def partT (t:Str × Int):Str:=if t.2=0 then t.1 else []
def zuG (a:Str × Int) (m:Med × Int) (n f x:Str × Bool) (t:Str × Int):Prt × Int:=
 if a.2≠0 then(prt0,a.2)
 else if m.2≠0 then(prt0,m.2)
 else if m.1.word≠zwG then(prt0,11)
 else if n.2=false then(prt0,6)
 else if x.2=true∧extB x.1=false then(prt0,5)
 else if t.2=9 then(prt0,9)
 else(⟨n.1,zxr f x,partT t,[]⟩,0)
def ZY (l:List Fld):Prt × Int:=
 zuG (oneF (valsF l qp)) (x9 (oneF (valsF l qp)).1) (getP (x9 (oneF (valsF l qp)).1).1.params zxD) (getP (x9 (oneF (valsF l qp)).1).1.params zvt) (getP (x9 (oneF (valsF l qp)).1).1.params ziA) (oneF (valsF l znt))
def evP (p:Prt):Evt:=⟨5,hd0,[],p,0⟩
def evO:Evt:=⟨6,hd0,[],prt0,0⟩
def xC (f:Fm) (c:Int):Fm:= { f with pos:=8,code:=c,out:=f.out++[evF c]}
def fmSk (f:Fm) (c:UInt8):Fm:= { f with held:=((ql f.mark f.held.toNat c).2.1:Int)}
def wV (f:Fm):Fm:=
 if(ZY f.fields).2≠0 then xC f (ZY f.fields).2
 else if f.parts=12 then xC f 8
 else fmSk (fmSk { f with parts:=f.parts+1,pos:=6,out:=f.out++[evP (ZY f.fields).1],skip:=2} 13) 10
def tV (f:Fm) (s:Str):Fm:=
 if s=[] then wV f
 else if f.fields.length=16 then xC f 8
 else if(yj s).2≠0 then xC f (yj s).2
 else { f with fields:=f.fields++[(yj s).1]}
def wQ (f:Fm) (c:UInt8):Fm:=
 if f.pos=1∧c=45 then { f with pos:=2}
 else if f.pos=2∧c=45 then { f with pos:=7,out:=f.out++[evE]}
 else if f.pos≠2∧(c=32∨c=9) then { f with pos:=3}
 else if f.pos≠2∧c=13 then { f with pos:=4}
 else xC f 5
def sD (f:Fm) (c:UInt8):Str:=(ql f.mark f.held.toNat c).1.drop (min f.skip ((ql f.mark f.held.toNat c).1.length:Int)).toNat
def uj (f:Fm) (c:UInt8):Fm:=
 if(ql f.mark f.held.toNat c).2.2=false then
  { fmSk f c with skip:=f.skip - min f.skip ((ql f.mark f.held.toNat c).1.length:Int),out:=if f.pos=6∧sD f c≠[] then f.out++[evB (sD f c)] else f.out}
 else { fmSk f c with pos:=1,skip:=0,out:=if f.pos=6 then(if sD f c≠[] then f.out++[evB (sD f c),evO] else f.out++[evO]) else f.out}
def lnOf (f:Fm):Ln:=match f.ln with|some l=>l|none=>ln0
def fmF (f:Fm) (c:UInt8):Fm:=
 if f.pos=0∨f.pos=6 then uj f c
 else if f.pos=1∨f.pos=2∨f.pos=3 then wQ f c
 else if f.pos=4 then(if c≠10 then xC f 2 else { f with pos:=5,ln:=some ln0,fields:=[]})
 else if f.pos=5 then
  if(lnF (lnOf f) c).2.2.2≠0 then xC { f with ln:=some (lnF (lnOf f) c).1} (lnF (lnOf f) c).2.2.2
  else if(lnF (lnOf f) c).2.2.1=true then tV { f with ln:=some (lnF (lnOf f) c).1} (lnF (lnOf f) c).2.1
  else { f with ln:=some (lnF (lnOf f) c).1}
 else f
def zcG (b:Str):Str:=[13,10,45,45]++b
def fm0 (b:Str):Fm:=fmSk (fmSk ⟨zcG b,0,QN (zcG b),0,none,[],0,0,0,[]⟩ 13) 10
def UL (f:Fm) (b:Str):Fm:=b.foldl fmF f
def xB (f:Fm) (b:Str):Fm:=UL { f with out:=[]} b
def qg (f:Fm):Int:=if f.pos=8 then f.code else if f.pos=7 then 0 else 14
def prtS (l:List Prt) (e:Evt):List Prt:=
 if e.kind=5 then l++[e.part]
 else if e.kind=2 then(match l.getLast? with|some p=>l.dropLast++[{ p with bytes:=p.bytes++e.bytes}]|none=>l)
 else l
def YU (b x:Str):List Prt × Int:=
 if Uk b=false then([],5)
 else if qg (xB (fm0 b) x)≠0 then([],qg (xB (fm0 b) x))
 else((yO (xB (fm0 b) x).out).foldl prtS [],0)
end Go.Proofs.YtkjepecoodjbmaaGreatDoor
namespace Go.Proofs.YtkjepecoodjbmaaGreatDoor
open Go Go.Sep Go.Ab
set_option maxRecDepth 100000
def qQ (I:Alg):KU
 |[.v (.one (.p (.str s))),.v (.one (.p (.str p)))],[]=>(fun(s p:Str)=>(some (.one ⟨I.hid (True),(.ret (.v (.one (.p (.bool (I.hid (Lib.hasPrefix s p))))))),[]⟩):Option CT)) s p
 |_,_=>none
theorem Qn:zu Tryz.prog 48 (qQ alg):=by
 intro args hp r h;unfold qQ at h;split at h<;>cases h
 rename_i s p;simp only [CT.Good,zh];intro _
 refine Spc.of_below ⟨_,Tryz.func48,by kernel_rfl,by kernel_rfl⟩ fun S bs w vs _ hM=> ?_
 obtain⟨v,r,rfl⟩: ∃ v r,vs=v::r:=by cases vs with|nil=>exact hM.elim|cons v r=>exact⟨v,r,rfl⟩
 obtain⟨h1,hM⟩:=hM
 obtain⟨v2,r2,rfl⟩: ∃ v r2,r=v::r2:=by cases r with|nil=>exact hM.elim|cons v r=>exact⟨v,r,rfl⟩
 obtain⟨h2,hM⟩:=hM
 obtain rfl:r2=[]:=by cases r2 with|nil=>rfl|cons v r=>exact hM.elim
 cases h1 with
 | str _ hl1=>
   cases h2 with
   | str _ hl2=>
     refine⟨.bool (Lib.hasPrefix s p),.bool _,(Tryz.strings_HasPrefix (Sep.S s) (Sep.S p) w).mono fun e w' h=> ?_⟩;obtain⟨he,rfl⟩:=h;exact⟨he,Go.RowKit.Below.refl _ _⟩
def xO:Know Tryz.prog:=⟨48,qQ,Qn⟩
def xN:Know Tryz.prog:=⟨48,fun I=>zx I (qQ I),zf Qn⟩
def qZ (I:Alg):KU
 |[.v (.one (.p (.str s))),.v (.one (.p (.str ([c]))))],[]=>(fun(s:Str)=>(some (.one ⟨I.hid (True),(.ret (.v (.one (.p (.bool (I.hid (decide (0≤Lib.indexByte s c)))))))),[]⟩):Option CT)) s
 |_,_=>none
theorem QD:zu Tryz.prog 211 (qZ alg):=by
 intro args hp r h;unfold qZ at h;split at h<;>cases h
 rename_i s c;simp only [CT.Good,zh];intro _
 refine Spc.of_below ⟨_,Tryz.func211,by kernel_rfl,by kernel_rfl⟩ fun S bs w vs _ hM=> ?_
 obtain⟨v,r,rfl⟩: ∃ v r,vs=v::r:=by cases vs with|nil=>exact hM.elim|cons v r=>exact⟨v,r,rfl⟩
 obtain⟨h1,hM⟩:=hM
 obtain⟨v2,r2,rfl⟩: ∃ v r2,r=v::r2:=by cases r with|nil=>exact hM.elim|cons v r=>exact⟨v,r,rfl⟩
 obtain⟨h2,hM⟩:=hM
 obtain rfl:r2=[]:=by cases r2 with|nil=>rfl|cons v r=>exact hM.elim
 cases h1 with
 | str _ hl1=>
   cases h2 with
   | str _ hl2=>
     refine⟨.bool (decide (0≤Lib.indexByte s c)),.bool _,(Tryz.strings_Contains_one (Sep.S s) c w).mono fun e w' h=> ?_⟩;obtain⟨he,rfl⟩:=h;exact⟨he,Go.RowKit.Below.refl _ _⟩
def QC:Know Tryz.prog:=⟨211,qZ,QD⟩
def QB:Know Tryz.prog:=⟨211,fun I=>zx I (qZ I),zf QD⟩
end Go.Proofs.YtkjepecoodjbmaaGreatDoor
namespace Go.Proofs.YtkjepecoodjbmaaGreatDoor
open Go Go.Sep Go.Ab
set_option maxRecDepth 100000
theorem zc5 (s p:Str):(Lib.trimPrefix s p).length≤s.length:=by
 unfold Lib.trimPrefix
 split
 · simp
 · exact jL _
def qY (I:Alg):KU
 |[.v (.one (.p (.str s))),.v (.one (.p (.str p)))],[]=>(fun(s p:Str)=>(some (.one ⟨I.hid (True),(.ret (.tup [.one (.p (.str (I.hid (Lib.trimPrefix s p)))),.one (.p (.bool (I.hid (Lib.hasPrefix s p))))])),[]⟩):Option CT)) s p
 |_,_=>none
theorem QA:zu Tryz.prog 181 (qY alg):=by
 intro args hp r h;unfold qY at h;split at h<;>cases h
 rename_i s p;simp only [CT.Good,zh];intro _
 refine Spc.of_below ⟨_,Tryz.func181,by kernel_rfl,by kernel_rfl⟩ fun S bs w vs _ hM=> ?_
 obtain⟨v,r,rfl⟩: ∃ v r,vs=v::r:=by cases vs with|nil=>exact hM.elim|cons v r=>exact⟨v,r,rfl⟩
 obtain⟨h1,hM⟩:=hM
 obtain⟨v2,r2,rfl⟩: ∃ v r2,r=v::r2:=by cases r with|nil=>exact hM.elim|cons v r=>exact⟨v,r,rfl⟩
 obtain⟨h2,hM⟩:=hM
 obtain rfl:r2=[]:=by cases r2 with|nil=>rfl|cons v r=>exact hM.elim
 cases h1 with
 | str _ hl1=>
   cases h2 with
   | str _ hl2=>
     refine⟨.tuple #[.string (Sep.S (Lib.trimPrefix s p)),.bool (Lib.hasPrefix s p)],⟨[.string (Sep.S (Lib.trimPrefix s p)),.bool (Lib.hasPrefix s p)],⟨.str _ (Nat.le_trans (zc5 _ _) hl1),.bool _,trivial⟩,rfl⟩,(Tryz.strings_CutPrefix (Sep.S s) (Sep.S p) w).mono fun e w' h=> ?_⟩;obtain⟨he,rfl⟩:=h;exact⟨he,Go.RowKit.Below.refl _ _⟩
def Qz:Know Tryz.prog:=⟨181,qY,QA⟩
def Qy:Know Tryz.prog:=⟨181,fun I=>zx I (qY I),zf QA⟩
def FOk (f:List Fld):Prop:=f.length≤1000∧∀ x ∈ f,x.name.length≤1000000∧x.value.length≤1000000
def cfgT:Cfg:= { sl:=Tq.sl++[⟨170,1000003,.byte,none⟩],fz:=[126]}
def QZ (I:Alg):KU
 |[.v (.one (.p (.int .i64 st))),.v (.one (.p (.list .fld fs)))],[]=>(fun(fs:List Fld)=>(some (.one ⟨I.hid (True),(.pan (.ifc 165 true [.int .i64 st,.list .fld fs,.list .byte (I.hid ([]))])),[]⟩):Option CT)) fs
 |_,_=>none
theorem zlb:zu Tryz.prog 126 (QZ alg):=by
 intro args hp r h;unfold QZ at h;split at h<;>cases h
 rename_i st fs
 revert fs;intro(fs:List Fld)
 simp only [CT.Good,zh];intro _
 refine spH Tryz.func126 (by kernel_rfl) { keep:=some [0,1]} [] (by kernel_rfl) ?_
 intro I X hI hX
 refine orcL ?_;go_invoke;refine orcS (by kernel_rfl) ?_
 simp only [zi,Nat.reduceAdd]
 try trivial
def zW:Know Tryz.prog:=⟨126,QZ,zlb⟩
def zV:Know Tryz.prog:=⟨126,fun I=>zx I (QZ I),zf zlb⟩
def VB (I:Alg):KU
 |[.v (.one (.p (.str n))),.v (.one (.p (.str v)))],[]=>(fun(n v:Str)=>(some (.one ⟨I.hid (True),(.ret (.v (.agg [.p (.str n),.p (.str v)]))),[]⟩):Option CT)) n v
 |_,_=>none
theorem zgA:zu Tryz.prog 87 (VB alg):=by
 intro args hp r h;unfold VB at h;split at h<;>cases h
 rename_i n v;simp only [CT.Good,zh];intro _
 refine spH Tryz.func87 (by kernel_rfl) { keep:=some [0,1,4]} [] (by kernel_rfl) ?_
 intro I X hI hX
 refine orcL ?_;go_invoke;refine orcS (by kernel_rfl) ?_
 simp only [zi,Nat.reduceAdd]
 try trivial
def yE:Know Tryz.prog:=⟨87,VB,zgA⟩
def yD:Know Tryz.prog:=⟨87,fun I=>zx I (VB I),zf zgA⟩
def zeW (I:Alg):KU
 |[.v (.one (.p (.int .i64 n)))],[]=>some (.one ⟨I.hid (0≤n∧n<1000000000),(.ret (.v (.one (.p (.str (I.hid (decS n))))))),[]⟩)
 |_,_=>none
theorem zpx:zu Tryz.prog 127 (zeW alg):=by
 intro args hp r h;unfold zeW at h;split at h<;>cases h
 rename_i n;simp only [CT.Good,zh];intro hneed
 refine spH Tryz.func127 (by kernel_rfl) { keep:=some [0,2]} [Zj,Zi] (by kernel_rfl) ?_
 intro I X hI hX
 refine orcL ?_;go_invoke;refine orcS (by kernel_rfl) ?_
 simp only [zi,Nat.reduceAdd];subst hI;simp only [nrmA,nrmB]
 first|exact hneed|exact⟨hneed,trivial⟩|trace_state
def wH:Know Tryz.prog:=⟨127,zeW,zpx⟩
def wG:Know Tryz.prog:=⟨127,fun I=>zx I (zeW I),zf zpx⟩
theorem zyN (m t:Str) (mi:Int) (f:List Fld) (le:Int) (l:List Upl) (n:Int) (b:Str) (s:Int) (nm:Str) (hneed:(FOk f∧nm.length≤1000000)∧¬ (oneT f nm).2=9):Spc Tryz.prog 128 [.v (.one (.ptr 0 0)),.v (.one (.p (.str nm)))] [.obj 170 [.ptr 1 0,.p (.str m),.p (.str t),.p (.int .i64 mi),.p (.list .fld f),.p (.int .i64 le)],.pack [.obj 54 [.ptr 1 0,.ptr 2 0],.pack [.obj 124 [.row 1,.p (.int .i64 n)],.row .upl 81 l],.pack [.obj 156 [.row 1,.p (.int .i64 s)],.row .byte 5 b]]] (.ret (.tup [.one (.p (.str ((oneT f nm).1))),.one (.p (.bool (decide ((oneT f nm).2=0))))])) [.obj 170 [.ptr 1 0,.p (.str m),.p (.str t),.p (.int .i64 mi),.p (.list .fld f),.p (.int .i64 le)],.pack [.obj 54 [.ptr 1 0,.ptr 2 0],.pack [.obj 124 [.row 1,.p (.int .i64 n)],.row .upl 81 l],.pack [.obj 156 [.row 1,.p (.int .i64 s)],.row .byte 5 b]]]:=by
 obtain⟨⟨hf,hn⟩,h9⟩:=hneed
 refine spH Tryz.func128 (by kernel_rfl) { cfgT with keep:=some [0,1,4,5,6,7]} [Xf,Xe,zW,zV] (by kernel_rfl) ?_
 intro I X hI hX
 refine orcL ?_;go_invoke;refine orcS (by kernel_rfl) ?_
 simp only [zi,Nat.reduceAdd];subst hI;unfold oneT at *;simp only [nrmA,nrmB,nrlB,reduceCtorEq]
 (repeat' (first|refine ja ?_ ?_|intro _))<;>first|omega|exact jb|exact jc ‹False›|skip
 all_goals first|exact hf.1|exact hn|exact hf.2|(exact(hf.2 _ ‹_›).1)|(exact(hf.2 _ ‹_›).2)|rfl|(exact⟨hf.1,hn,hf.2⟩)|(exfalso;exact h9 ‹_›)|(simp_all;done)|trace_state
theorem zyM (m t:Str) (mi:Int) (f:List Fld) (le:Int) (l:List Upl) (n:Int) (b:Str) (s:Int) (nm:Str) (hneed:(FOk f∧nm.length≤1000000)∧(oneT f nm).2=9):Spc Tryz.prog 128 [.v (.one (.ptr 0 0)),.v (.one (.p (.str nm)))] [.obj 170 [.ptr 1 0,.p (.str m),.p (.str t),.p (.int .i64 mi),.p (.list .fld f),.p (.int .i64 le)],.pack [.obj 54 [.ptr 1 0,.ptr 2 0],.pack [.obj 124 [.row 1,.p (.int .i64 n)],.row .upl 81 l],.pack [.obj 156 [.row 1,.p (.int .i64 s)],.row .byte 5 b]]] (.pan (.ifc 165 true [.int .i64 400,.list .fld ([]),.list .byte ([])])) [.obj 170 [.ptr 1 0,.p (.str m),.p (.str t),.p (.int .i64 mi),.p (.list .fld f),.p (.int .i64 le)],.pack [.obj 54 [.ptr 1 0,.ptr 2 0],.pack [.obj 124 [.row 1,.p (.int .i64 n)],.row .upl 81 l],.pack [.obj 156 [.row 1,.p (.int .i64 s)],.row .byte 5 b]]]:=by
 obtain⟨⟨hf,hn⟩,h9⟩:=hneed
 refine spH Tryz.func128 (by kernel_rfl) { cfgT with keep:=some [0,1,4,5,6,7]} [Xf,Xe,zW,zV] (by kernel_rfl) ?_
 intro I X hI hX
 refine orcL ?_;go_invoke;refine orcS (by kernel_rfl) ?_
 simp only [zi,Nat.reduceAdd];subst hI;unfold oneT at *;simp only [nrmA,nrmB,nrlB,reduceCtorEq]
 (repeat' (first|refine ja ?_ ?_|intro _))<;>first|omega|exact jb|exact jc ‹False›|skip
 all_goals first|exact hf.1|exact hn|exact hf.2|(exact(hf.2 _ ‹_›).1)|(exact(hf.2 _ ‹_›).2)|rfl|(exact⟨hf.1,hn,hf.2⟩)|(exfalso;contradiction)|(simp_all;done)|trace_state
def zeV (I:Alg):KU
 |[.v (.one (.ptr 0 0)),.v (.one (.p (.str nm)))],[.obj 170 [.ptr 1 0,.p (.str m),.p (.str t),.p (.int .i64 mi),.p (.list .fld f),.p (.int .i64 le)],.pack [.obj 54 [.ptr 1 0,.ptr 2 0],.pack [.obj 124 [.row 1,.p (.int .i64 n)],.row .upl 81 l],.pack [.obj 156 [.row 1,.p (.int .i64 s)],.row .byte 5 b]]]=>(fun(m t:Str) (f:List Fld) (l:List Upl) (b nm:Str)=>(some (.br (I.hid (decide ((oneT f nm).2=9))) (.one ⟨I.hid ((FOk f∧nm.length≤1000000)∧(oneT f nm).2=9),(.pan (.ifc 165 true [.int .i64 400,.list .fld (I.hid ([])),.list .byte (I.hid ([]))])),[.obj 170 [.ptr 1 0,.p (.str m),.p (.str t),.p (.int .i64 mi),.p (.list .fld f),.p (.int .i64 le)],.pack [.obj 54 [.ptr 1 0,.ptr 2 0],.pack [.obj 124 [.row 1,.p (.int .i64 n)],.row .upl 81 l],.pack [.obj 156 [.row 1,.p (.int .i64 s)],.row .byte 5 b]]]⟩) (.one ⟨I.hid ((FOk f∧nm.length≤1000000)∧¬ (oneT f nm).2=9),(.ret (.tup [.one (.p (.str (I.hid ((oneT f nm).1)))),.one (.p (.bool (I.hid (decide ((oneT f nm).2=0)))))])),[.obj 170 [.ptr 1 0,.p (.str m),.p (.str t),.p (.int .i64 mi),.p (.list .fld f),.p (.int .i64 le)],.pack [.obj 54 [.ptr 1 0,.ptr 2 0],.pack [.obj 124 [.row 1,.p (.int .i64 n)],.row .upl 81 l],.pack [.obj 156 [.row 1,.p (.int .i64 s)],.row .byte 5 b]]]⟩)):Option CT)) m t f l b nm
 |_,_=>none
theorem zpw:zu Tryz.prog 128 (zeV alg):=by
 intro args hp r h;unfold zeV at h
 split at h
 · cases h;exact⟨fun _ hn=>zyM _ _ _ _ _ _ _ _ _ _ hn,fun _ hn=>zyN _ _ _ _ _ _ _ _ _ _ hn⟩
 · cases h
def wF:Know Tryz.prog:=⟨128,zeV,zpw⟩
def wE:Know Tryz.prog:=⟨128,fun I=>zx I (zeV I),zf zpw⟩
end Go.Proofs.YtkjepecoodjbmaaGreatDoor
namespace Go.Proofs.YtkjepecoodjbmaaGreatDoor
open Go Go.Sep Go.Ab
set_option maxRecDepth 100000
theorem Zz (f:List Fld) (n:Str):(oneT f n).2=0∨(oneT f n).2=9∨(oneT f n).2=10:=by
 unfold oneT oneF
 repeat' split
 all_goals simp
theorem zw5 (m t:Str) (mi:Int) (f:List Fld) (le:Int) (l:List Upl) (n:Int) (b:Str) (s:Int) (nm:Str) (hneed:(FOk f∧nm.length≤1000000)∧WE f nm=true):Spc Tryz.prog 178 [.v (.one (.ptr 0 0)),.v (.one (.p (.str nm)))] [.obj 170 [.ptr 1 0,.p (.str m),.p (.str t),.p (.int .i64 mi),.p (.list .fld f),.p (.int .i64 le)],.pack [.obj 54 [.ptr 1 0,.ptr 2 0],.pack [.obj 124 [.row 1,.p (.int .i64 n)],.row .upl 81 l],.pack [.obj 156 [.row 1,.p (.int .i64 s)],.row .byte 5 b]]] (.ret (.v (.one (.p (.int .i64 ((zS f nm))))))) [.obj 170 [.ptr 1 0,.p (.str m),.p (.str t),.p (.int .i64 mi),.p (.list .fld f),.p (.int .i64 le)],.pack [.obj 54 [.ptr 1 0,.ptr 2 0],.pack [.obj 124 [.row 1,.p (.int .i64 n)],.row .upl 81 l],.pack [.obj 156 [.row 1,.p (.int .i64 s)],.row .byte 5 b]]]:=by
 obtain⟨⟨hf,hn⟩,h9⟩:=hneed;have hcd:=Zz f nm
 refine spH Tryz.func178 (by kernel_rfl) { cfgT with keep:=some [0,1,4,5,6,7]} [rM,rJ,zW,zV,wF,wE] (by kernel_rfl) ?_
 intro I X hI hX
 refine orcL ?_;go_invoke;refine orcS (by kernel_rfl) ?_
 simp only [zi,Nat.reduceAdd];subst hI;unfold WE at h9;unfold zS;simp only [nrmA,nrmB,nrlB,reduceCtorEq]
 (repeat' (first|refine ja ?_ ?_|intro _))<;>first|omega|exact jb|exact jc ‹False›|skip
 all_goals first|omega|assumption|(exact hf)|exact hf.1|(exact(hf.2 _ ‹_›).1)|(exact(hf.2 _ ‹_›).2)|(exact⟨hf,by decide⟩)|(exact⟨⟨hf,by decide⟩,‹_›⟩)|(exfalso;simp_all;done)|(simp_all;done)|(simp_all;omega)|(rcases hcd with h|h|h<;>simp_all;done)|trace_state
theorem zw4 (m t:Str) (mi:Int) (f:List Fld) (le:Int) (l:List Upl) (n:Int) (b:Str) (s:Int) (nm:Str) (hneed:(FOk f∧nm.length≤1000000)∧WE f nm=false):Spc Tryz.prog 178 [.v (.one (.ptr 0 0)),.v (.one (.p (.str nm)))] [.obj 170 [.ptr 1 0,.p (.str m),.p (.str t),.p (.int .i64 mi),.p (.list .fld f),.p (.int .i64 le)],.pack [.obj 54 [.ptr 1 0,.ptr 2 0],.pack [.obj 124 [.row 1,.p (.int .i64 n)],.row .upl 81 l],.pack [.obj 156 [.row 1,.p (.int .i64 s)],.row .byte 5 b]]] (.pan (.ifc 165 true [.int .i64 400,.list .fld ([]),.list .byte ([])])) [.obj 170 [.ptr 1 0,.p (.str m),.p (.str t),.p (.int .i64 mi),.p (.list .fld f),.p (.int .i64 le)],.pack [.obj 54 [.ptr 1 0,.ptr 2 0],.pack [.obj 124 [.row 1,.p (.int .i64 n)],.row .upl 81 l],.pack [.obj 156 [.row 1,.p (.int .i64 s)],.row .byte 5 b]]]:=by
 obtain⟨⟨hf,hn⟩,h9⟩:=hneed;have hcd:=Zz f nm
 refine spH Tryz.func178 (by kernel_rfl) { cfgT with keep:=some [0,1,4,5,6,7]} [rM,rJ,zW,zV,wF,wE] (by kernel_rfl) ?_
 intro I X hI hX
 refine orcL ?_;go_invoke;refine orcS (by kernel_rfl) ?_
 simp only [zi,Nat.reduceAdd];subst hI;unfold WE at h9;simp only [nrmA,nrmB,nrlB,reduceCtorEq]
 (repeat' (first|refine ja ?_ ?_|intro _))<;>first|omega|exact jb|exact jc ‹False›|skip
 all_goals first|omega|assumption|(exact hf)|exact hf.1|(exact(hf.2 _ ‹_›).1)|(exact(hf.2 _ ‹_›).2)|(exact⟨hf,by decide⟩)|(exact⟨⟨hf,by decide⟩,‹_›⟩)|(exfalso;simp_all;done)|(simp_all;done)|(simp_all;omega)|(rcases hcd with h|h|h<;>simp_all;done)|trace_state
def Q7 (I:Alg):KU
 |[.v (.one (.ptr 0 0)),.v (.one (.p (.str nm)))],[.obj 170 [.ptr 1 0,.p (.str m),.p (.str t),.p (.int .i64 mi),.p (.list .fld f),.p (.int .i64 le)],.pack [.obj 54 [.ptr 1 0,.ptr 2 0],.pack [.obj 124 [.row 1,.p (.int .i64 n)],.row .upl 81 l],.pack [.obj 156 [.row 1,.p (.int .i64 s)],.row .byte 5 b]]]=>(fun(m t:Str) (f:List Fld) (l:List Upl) (b nm:Str)=>(some (.br (I.hid (WE f nm)) (.one ⟨I.hid ((FOk f∧nm.length≤1000000)∧WE f nm=true),(.ret (.v (.one (.p (.int .i64 (I.hid (zS f nm))))))),[.obj 170 [.ptr 1 0,.p (.str m),.p (.str t),.p (.int .i64 mi),.p (.list .fld f),.p (.int .i64 le)],.pack [.obj 54 [.ptr 1 0,.ptr 2 0],.pack [.obj 124 [.row 1,.p (.int .i64 n)],.row .upl 81 l],.pack [.obj 156 [.row 1,.p (.int .i64 s)],.row .byte 5 b]]]⟩) (.one ⟨I.hid ((FOk f∧nm.length≤1000000)∧WE f nm=false),(.pan (.ifc 165 true [.int .i64 400,.list .fld (I.hid ([])),.list .byte (I.hid ([]))])),[.obj 170 [.ptr 1 0,.p (.str m),.p (.str t),.p (.int .i64 mi),.p (.list .fld f),.p (.int .i64 le)],.pack [.obj 54 [.ptr 1 0,.ptr 2 0],.pack [.obj 124 [.row 1,.p (.int .i64 n)],.row .upl 81 l],.pack [.obj 156 [.row 1,.p (.int .i64 s)],.row .byte 5 b]]]⟩)):Option CT)) m t f l b nm
 |_,_=>none
theorem zld:zu Tryz.prog 178 (Q7 alg):=by
 intro args hp r h;unfold Q7 at h
 split at h
 · cases h;exact⟨fun _ hn=>zw5 _ _ _ _ _ _ _ _ _ _ hn,fun _ hn=>zw4 _ _ _ _ _ _ _ _ _ _ hn⟩
 · cases h
def sN:Know Tryz.prog:=⟨178,Q7,zld⟩
def sK:Know Tryz.prog:=⟨178,fun I=>zx I (Q7 I),zf zld⟩
theorem ztN (m t:Str) (mi:Int) (f:List Fld) (le:Int) (l:List Upl) (n:Int) (b:Str) (s:Int) (hneed:FOk f∧Uu f=true):Spc Tryz.prog 179 [.v (.one (.ptr 0 0))] [.obj 170 [.ptr 1 0,.p (.str m),.p (.str t),.p (.int .i64 mi),.p (.list .fld f),.p (.int .i64 le)],.pack [.obj 54 [.ptr 1 0,.ptr 2 0],.pack [.obj 124 [.row 1,.p (.int .i64 n)],.row .upl 81 l],.pack [.obj 156 [.row 1,.p (.int .i64 s)],.row .byte 5 b]]] (.ret (.v (.one (.p (.bool ((zhv f))))))) [.obj 170 [.ptr 1 0,.p (.str m),.p (.str t),.p (.int .i64 mi),.p (.list .fld f),.p (.int .i64 le)],.pack [.obj 54 [.ptr 1 0,.ptr 2 0],.pack [.obj 124 [.row 1,.p (.int .i64 n)],.row .upl 81 l],.pack [.obj 156 [.row 1,.p (.int .i64 s)],.row .byte 5 b]]]:=by
 obtain⟨hf,h9⟩:=hneed;have hcd:=Zz f zbt;unfold zbt at hcd
 refine spH Tryz.func179 (by kernel_rfl) { cfgT with keep:=some [0,2,3,4]} [zW,zV,wF,wE] (by kernel_rfl) ?_
 intro I X hI hX
 refine orcL ?_;go_invoke;refine orcS (by kernel_rfl) ?_
 simp only [zi,Nat.reduceAdd];subst hI;unfold Uu zbt at h9;unfold zhv zbt;simp only [nrmA,nrmB,nrlB,reduceCtorEq]
 (repeat' (first|refine ja ?_ ?_|intro _))<;>first|omega|exact jb|exact jc ‹False›|skip
 all_goals first|omega|assumption|(exact hf)|exact hf.1|(exact(hf.2 _ ‹_›).1)|(exact(hf.2 _ ‹_›).2)|(exact⟨hf,by decide⟩)|(exact⟨⟨hf,by decide⟩,‹_›⟩)|(exfalso;simp_all;done)|(simp_all;done)|(simp_all;omega)|(rcases hcd with h|h|h<;>simp_all;done)|trace_state
theorem ztM (m t:Str) (mi:Int) (f:List Fld) (le:Int) (l:List Upl) (n:Int) (b:Str) (s:Int) (hneed:FOk f∧Uu f=false):Spc Tryz.prog 179 [.v (.one (.ptr 0 0))] [.obj 170 [.ptr 1 0,.p (.str m),.p (.str t),.p (.int .i64 mi),.p (.list .fld f),.p (.int .i64 le)],.pack [.obj 54 [.ptr 1 0,.ptr 2 0],.pack [.obj 124 [.row 1,.p (.int .i64 n)],.row .upl 81 l],.pack [.obj 156 [.row 1,.p (.int .i64 s)],.row .byte 5 b]]] (.pan (.ifc 165 true [.int .i64 400,.list .fld ([]),.list .byte ([])])) [.obj 170 [.ptr 1 0,.p (.str m),.p (.str t),.p (.int .i64 mi),.p (.list .fld f),.p (.int .i64 le)],.pack [.obj 54 [.ptr 1 0,.ptr 2 0],.pack [.obj 124 [.row 1,.p (.int .i64 n)],.row .upl 81 l],.pack [.obj 156 [.row 1,.p (.int .i64 s)],.row .byte 5 b]]]:=by
 obtain⟨hf,h9⟩:=hneed;have hcd:=Zz f zbt;unfold zbt at hcd
 refine spH Tryz.func179 (by kernel_rfl) { cfgT with keep:=some [0,2,3,4]} [zW,zV,wF,wE] (by kernel_rfl) ?_
 intro I X hI hX
 refine orcL ?_;go_invoke;refine orcS (by kernel_rfl) ?_
 simp only [zi,Nat.reduceAdd];subst hI;unfold Uu zbt at h9;simp only [nrmA,nrmB,nrlB,reduceCtorEq]
 (repeat' (first|refine ja ?_ ?_|intro _))<;>first|omega|exact jb|exact jc ‹False›|skip
 all_goals first|omega|assumption|(exact hf)|exact hf.1|(exact(hf.2 _ ‹_›).1)|(exact(hf.2 _ ‹_›).2)|(exact⟨hf,by decide⟩)|(exact⟨⟨hf,by decide⟩,‹_›⟩)|(exfalso;simp_all;done)|(simp_all;done)|(simp_all;omega)|(rcases hcd with h|h|h<;>simp_all;done)|trace_state
def VA (I:Alg):KU
 |[.v (.one (.ptr 0 0))],[.obj 170 [.ptr 1 0,.p (.str m),.p (.str t),.p (.int .i64 mi),.p (.list .fld f),.p (.int .i64 le)],.pack [.obj 54 [.ptr 1 0,.ptr 2 0],.pack [.obj 124 [.row 1,.p (.int .i64 n)],.row .upl 81 l],.pack [.obj 156 [.row 1,.p (.int .i64 s)],.row .byte 5 b]]]=>(fun(m t:Str) (f:List Fld) (l:List Upl) (b:Str)=>(some (.br (I.hid (Uu f)) (.one ⟨I.hid (FOk f∧Uu f=true),(.ret (.v (.one (.p (.bool (I.hid (zhv f))))))),[.obj 170 [.ptr 1 0,.p (.str m),.p (.str t),.p (.int .i64 mi),.p (.list .fld f),.p (.int .i64 le)],.pack [.obj 54 [.ptr 1 0,.ptr 2 0],.pack [.obj 124 [.row 1,.p (.int .i64 n)],.row .upl 81 l],.pack [.obj 156 [.row 1,.p (.int .i64 s)],.row .byte 5 b]]]⟩) (.one ⟨I.hid (FOk f∧Uu f=false),(.pan (.ifc 165 true [.int .i64 400,.list .fld (I.hid ([])),.list .byte (I.hid ([]))])),[.obj 170 [.ptr 1 0,.p (.str m),.p (.str t),.p (.int .i64 mi),.p (.list .fld f),.p (.int .i64 le)],.pack [.obj 54 [.ptr 1 0,.ptr 2 0],.pack [.obj 124 [.row 1,.p (.int .i64 n)],.row .upl 81 l],.pack [.obj 156 [.row 1,.p (.int .i64 s)],.row .byte 5 b]]]⟩)):Option CT)) m t f l b
 |_,_=>none
theorem zgz:zu Tryz.prog 179 (VA alg):=by
 intro args hp r h;unfold VA at h
 split at h
 · cases h;exact⟨fun _ hn=>ztN _ _ _ _ _ _ _ _ _ hn,fun _ hn=>ztM _ _ _ _ _ _ _ _ _ hn⟩
 · cases h
def zpA:Know Tryz.prog:=⟨179,VA,zgz⟩
def zpz:Know Tryz.prog:=⟨179,fun I=>zx I (VA I),zf zgz⟩
theorem zyL (c:Int) (hneed:c=0):Spc Tryz.prog 133 [.v (.one (.p (.int .i64 c)))] [] (.ret (.tup [])) []:=by
 refine spH Tryz.func133 (by kernel_rfl) { keep:=some [0,2,9,16]} [zW,zV] (by kernel_rfl) ?_
 intro I X hI hX
 refine orcL ?_;go_invoke;refine orcS (by kernel_rfl) ?_
 simp only [zi,Nat.reduceAdd];subst hI;simp only [nrmA,nrmB,nrlB,reduceCtorEq]
 (repeat' (first|refine ja ?_ ?_|intro _))<;>first|omega|exact jb|exact jc ‹False›|skip
 all_goals first|omega|(simp_all;done)|trace_state
theorem zyK (c:Int) (hneed: ¬ c=0):Spc Tryz.prog 133 [.v (.one (.p (.int .i64 c)))] [] (.pan (.ifc 165 true [.int .i64 ((VG c)),.list .fld ([]),.list .byte ([])])) []:=by
 generalize hr:VG c=r;unfold VG at hr
 refine spH Tryz.func133 (by kernel_rfl) { keep:=some [0,2,9,16]} [zW,zV] (by kernel_rfl) ?_
 intro I X hI hX
 refine orcL ?_;go_invoke;refine orcS (by kernel_rfl) ?_
 simp only [zi,Nat.reduceAdd];subst hI;simp only [nrmA,nrmB,nrlB,reduceCtorEq]
 (repeat' (first|refine ja ?_ ?_|intro _))<;>first|omega|exact jb|exact jc ‹False›|skip
 all_goals first|omega|(((repeat(first|rewrite [if_pos (by first|omega|assumption|(simp only [*,or_self,or_true,true_or,or_false,false_or,jf,jg,jd,je,and_self,and_true,true_and];done)|(simp only [*];omega)|(simp [*];done)|(simp [*];omega))] at hr|rewrite [if_neg (by first|omega|assumption|(simp only [*,or_self,or_true,true_or,or_false,false_or,jf,jg,jd,je,and_self,and_true,true_and];done)|(simp only [*];omega)|(simp [*];done)|(simp [*];omega))] at hr)));omega)|(simp_all;done)|trace_state
def zeU (I:Alg):KU
 |[.v (.one (.p (.int .i64 c)))],[]=>some (.br (I.hid (decide (c=0))) (.one ⟨I.hid (c=0),(.ret (.tup [])),[]⟩) (.one ⟨I.hid (¬ c=0),(.pan (.ifc 165 true [.int .i64 (I.hid (VG c)),.list .fld (I.hid ([])),.list .byte (I.hid ([]))])),[]⟩))
 |_,_=>none
theorem zpv:zu Tryz.prog 133 (zeU alg):=by
 intro args hp r h;unfold zeU at h
 split at h
 · cases h;exact⟨fun _ hn=>zyL _ hn,fun _ hn=>zyK _ hn⟩
 · cases h
def vY:Know Tryz.prog:=⟨133,zeU,zpv⟩
def vX:Know Tryz.prog:=⟨133,fun I=>zx I (zeU I),zf zpv⟩
def zeX (I:Alg):KU
 |[.v (.agg [.p (.int .i64 id),.p (.int .i64 sz),.p (.str no),.p (.list .byte bb),.p (.int .i64 se)])],[]=>(fun(no bb:Str)=>(some (.one ⟨I.hid (sz<1000000000),(.ret (.v (.agg [.p (.str (I.hid ((lenF ⟨id,sz,no,bb,se⟩).name))),.p (.str (I.hid ((lenF ⟨id,sz,no,bb,se⟩).value)))]))),[]⟩):Option CT)) no bb
 |_,_=>none
theorem zpy:zu Tryz.prog 183 (zeX alg):=by
 intro args hp r h;unfold zeX at h;split at h<;>cases h
 rename_i id sz no bb se;simp only [CT.Good,zh];intro hneed;generalize hr:lenF ⟨id,sz,no,bb,se⟩=r;obtain⟨a,v⟩:=r;unfold lenF at hr
 refine spH Tryz.func183 (by kernel_rfl) { keep:=some [0,1,2]} [yE,yD,wH,wG] (by kernel_rfl) ?_
 intro I X hI hX
 refine orcL ?_;go_invoke;refine orcS (by kernel_rfl) ?_
 simp only [zi,Nat.reduceAdd];subst hI;simp only [nrmA,nrmB,nrlB,reduceCtorEq,V0.agg.injEq];simp only at hr
 (repeat' (first|refine ja ?_ ?_|intro _))<;>first|omega|exact jb|exact jc ‹False›|skip
 all_goals first|omega|(((repeat(first|rewrite [if_pos (by first|omega|assumption|(simp only [*,or_self,or_true,true_or,or_false,false_or,jf,jg,jd,je,and_self,and_true,true_and];done)|(simp only [*];omega)|(simp [*];done)|(simp [*];omega))] at hr|rewrite [if_neg (by first|omega|assumption|(simp only [*,or_self,or_true,true_or,or_false,false_or,jf,jg,jd,je,and_self,and_true,true_and];done)|(simp only [*];omega)|(simp [*];done)|(simp [*];omega))] at hr)));cases hr;rfl)|(((repeat(first|rewrite [if_pos (by first|omega|assumption|(simp only [*,or_self,or_true,true_or,or_false,false_or,jf,jg,jd,je,and_self,and_true,true_and];done)|(simp only [*];omega)|(simp [*];done)|(simp [*];omega))] at hr|rewrite [if_neg (by first|omega|assumption|(simp only [*,or_self,or_true,true_or,or_false,false_or,jf,jg,jd,je,and_self,and_true,true_and];done)|(simp only [*];omega)|(simp [*];done)|(simp [*];omega))] at hr)));cases hr;simp [zyA,zyB];done)|(simp_all;done)|trace_state
def zw7:Know Tryz.prog:=⟨183,zeX,zpy⟩
def zw6:Know Tryz.prog:=⟨183,fun I=>zx I (zeX I),zf zpy⟩
end Go.Proofs.YtkjepecoodjbmaaGreatDoor
namespace Go.Proofs.YtkjepecoodjbmaaGreatDoor
open Go Go.Sep Go.Ab
set_option maxRecDepth 100000
theorem zfx {f:List Fld} (hf:FOk f) (n:Str):(oneT f n).1.length≤1000000:=by
 unfold oneT oneF
 split
 · simp
 · split
   · rename_i h
     rw [jH]
     cases hq:(valsF f n)[0]? with
     |none=>simp
     | some y=>
       have:=List.mem_of_getElem? hq;unfold valsF at this;rw [List.mem_map] at this;obtain⟨x,hx,rfl⟩:=this;exact(hf.2 x (List.mem_filter.1 hx).1).2
   · simp
def Xv (I:Alg):KU
 |[.v (.one (.ptr 0 0))],[.obj 170 [.ptr 1 0,.p (.str m),.p (.str t),.p (.int .i64 mi),.p (.list .fld f),.p (.int .i64 le)],.pack [.obj 54 [.ptr 1 0,.ptr 2 0],.pack [.obj 124 [.row 1,.p (.int .i64 n)],.row .upl 81 l],.pack [.obj 156 [.row 1,.p (.int .i64 s)],.row .byte 5 b]]]=>(fun(m t:Str) (f:List Fld) (l:List Upl) (b:Str)=>(some (.one ⟨I.hid (FOk f∧zL l n∧n≤200000∧b.length≤100000),(.pan (.ifc 165 true [.int .i64 (I.hid ((xM ⟨l,n,b,s⟩ f).st)),.list .fld (I.hid ((xM ⟨l,n,b,s⟩ f).fs)),.list .byte (I.hid ([]))])),[.obj 170 [.ptr 1 0,.p (.str m),.p (.str t),.p (.int .i64 mi),.p (.list .fld f),.p (.int .i64 le)],.pack [.obj 54 [.ptr 1 0,.ptr 2 0],.pack [.obj 124 [.row 1,.p (.int .i64 (I.hid ((xM ⟨l,n,b,s⟩ f).q.n)))],.row .upl 81 (I.hid ((xM ⟨l,n,b,s⟩ f).q.l))],.pack [.obj 156 [.row 1,.p (.int .i64 (I.hid ((xM ⟨l,n,b,s⟩ f).q.s)))],.row .byte 5 (I.hid ((xM ⟨l,n,b,s⟩ f).q.b))]]]⟩):Option CT)) m t f l b
 |_,_=>none
set_option maxHeartbeats 2000000 in
theorem zdl:zu Tryz.prog 129 (Xv alg):=by
 intro args hp r h;unfold Xv at h;split at h<;>cases h
 rename_i m t mi f le n l s b
 revert f l;intro(f:List Fld) (l:List Upl)
 simp only [CT.Good,zh];intro hneed;obtain⟨hf,hs,hn,hb⟩:=hneed;have hn0:=hs.n0;have hdl:=xq (n+1);have hcm:=Zz f zje;have hol:=zfx hf zje;generalize hr:xM ⟨l,n,b,s⟩ f=r;obtain⟨st,fs,⟨l',n',b',s'⟩⟩:=r;unfold xM creE wsC wsS syS at hr
 refine spH Tryz.func129 (by kernel_rfl) { cfgT with keep:=some [0,2,3,4,6,7]} [RS,RQ,zN,zM,zW,zV,yE,yD,wH,wG,wF,wE,sN,sK,zpA,zpz,vY,vX] (by kernel_rfl) ?_
 intro I X hI hX
 refine orcL ?_;go_invoke;refine orcS (by kernel_rfl) ?_
 simp only [zi,Nat.reduceAdd];subst hI;unfold yQ zje at *;unfold locN vH at hr;simp only at hr;simp only [nrmA,nrmB,nrlB,reduceCtorEq,HO.pack.injEq,HO.obj.injEq]
 by_cases h1:WE f [117,112,108,111,97,100,45,108,101,110,103,116,104]=false
 · rw [if_pos h1] at hr
   cases hr
   (repeat' (first|refine ja ?_ ?_|intro _))<;>first|omega|exact jb|exact jc ‹False›|skip
   all_goals first
    |omega
    |assumption
    |exact hs
    |exact hf.1
    |(exact(hf.2 _ ‹_›).1)
    |(exact(hf.2 _ ‹_›).2)
    |(simp only [jh,ji];omega)
    |(simp_all;done)
    |(exfalso;simp_all;done)
    |(simp only [wrtL,wrtN,wrtB,if_neg h5];done)
 rw [if_neg h1] at hr;simp only [Bool.not_eq_false] at h1
 by_cases h2:Uu f=false
 · rw [if_pos h2] at hr
   cases hr
   (repeat' (first|refine ja ?_ ?_|intro _))<;>first|omega|exact jb|exact jc ‹False›|skip
   all_goals first
    |omega
    |assumption
    |exact hs
    |exact hf.1
    |(exact(hf.2 _ ‹_›).1)
    |(exact(hf.2 _ ‹_›).2)
    |(simp only [jh,ji];omega)
    |(simp_all;done)
    |(exfalso;simp_all;done)
    |(simp only [wrtL,wrtN,wrtB,if_neg h5];done)
 rw [if_neg h2] at hr;simp only [Bool.not_eq_false] at h2
 by_cases h3:decide (0≤zS f [117,112,108,111,97,100,45,108,101,110,103,116,104])=zhv f
 · rw [if_pos h3] at hr
   cases hr
   (repeat' (first|refine ja ?_ ?_|intro _))<;>first|omega|exact jb|exact jc ‹False›|skip
   all_goals first
    |omega
    |assumption
    |exact hs
    |exact hf.1
    |(exact(hf.2 _ ‹_›).1)
    |(exact(hf.2 _ ‹_›).2)
    |(simp only [jh,ji];omega)
    |(simp_all;done)
    |(exfalso;simp_all;done)
    |(simp only [wrtL,wrtN,wrtB,if_neg h5];done)
 rw [if_neg h3] at hr
 by_cases h4:(oneT f [117,112,108,111,97,100,45,109,101,116,97,100,97,116,97]).2=9
 · rw [if_pos h4] at hr
   cases hr
   (repeat' (first|refine ja ?_ ?_|intro _))<;>first|omega|exact jb|exact jc ‹False›|skip
   all_goals first
    |omega
    |assumption
    |exact hs
    |exact hf.1
    |(exact(hf.2 _ ‹_›).1)
    |(exact(hf.2 _ ‹_›).2)
    |(simp only [jh,ji];omega)
    |(simp_all;done)
    |(exfalso;simp_all;done)
    |(simp only [wrtL,wrtN,wrtB,if_neg h5];done)
 rw [if_neg h4] at hr;generalize(oneT f [117,112,108,111,97,100,45,109,101,116,97,100,97,116,97]).1=mt at *;generalize zS f [117,112,108,111,97,100,45,108,101,110,103,116,104]=nv at *
 by_cases h5:wrtC l n b ⟨1,n+1,nv,mt⟩=0
 · rw [if_neg (fun h=>h h5)] at hr
   cases hr;simp only [h5,if_true] at *
   (repeat' (first|refine ja ?_ ?_|intro _))<;>first|omega|exact jb|exact jc ‹False›|skip
   all_goals first
    |omega
    |assumption
    |exact hs
    |exact hf.1
    |(exact(hf.2 _ ‹_›).1)
    |(exact(hf.2 _ ‹_›).2)
    |(simp only [jh,ji];omega)
    |(simp_all;done)
    |(exfalso;simp_all;done)
    |(simp only [wrtL,wrtN,wrtB,if_neg h5];done)
 · rw [if_pos h5] at hr
   cases hr
   (repeat' (first|refine ja ?_ ?_|intro _))<;>first|omega|exact jb|exact jc ‹False›|skip
   all_goals first
    |omega
    |assumption
    |exact hs
    |exact hf.1
    |(exact(hf.2 _ ‹_›).1)
    |(exact(hf.2 _ ‹_›).2)
    |(simp only [jh,ji];omega)
    |(simp_all;done)
    |(exfalso;simp_all;done)
    |(simp only [wrtL,wrtN,wrtB,if_neg h5];done)
def Zv:Know Tryz.prog:=⟨129,Xv,zdl⟩
def Zu:Know Tryz.prog:=⟨129,fun I=>zx I (Xv I),zf zdl⟩
theorem zyJ (m t:Str) (mi:Int) (f:List Fld) (le:Int) (l:List Upl) (n:Int) (b:Str) (s:Int) (hneed:zL l n∧uplB ⟨l,n,b,s⟩ t=true):Spc Tryz.prog 130 [.v (.one (.ptr 0 0))] [.obj 170 [.ptr 1 0,.p (.str m),.p (.str t),.p (.int .i64 mi),.p (.list .fld f),.p (.int .i64 le)],.pack [.obj 54 [.ptr 1 0,.ptr 2 0],.pack [.obj 124 [.row 1,.p (.int .i64 n)],.row .upl 81 l],.pack [.obj 156 [.row 1,.p (.int .i64 s)],.row .byte 5 b]]] (.ret (.v (.agg [.p (.int .i64 ((getU l (idV t)).id)),.p (.int .i64 ((getU l (idV t)).size)),.p (.str ((getU l (idV t)).note)),.p (.list .byte ((getU l (idV t)).bytes)),.p (.int .i64 ((getU l (idV t)).sent))]))) [.obj 170 [.ptr 1 0,.p (.str m),.p (.str t),.p (.int .i64 mi),.p (.list .fld f),.p (.int .i64 le)],.pack [.obj 54 [.ptr 1 0,.ptr 2 0],.pack [.obj 124 [.row 1,.p (.int .i64 n)],.row .upl 81 l],.pack [.obj 156 [.row 1,.p (.int .i64 s)],.row .byte 5 b]]]:=by
 obtain⟨hs,hu⟩:=hneed;have hnn:=vN (t.drop 7);have hnx:=vN (Lib.trimPrefix t vH)
 have htp:Lib.hasPrefix t vH=true→Lib.trimPrefix t vH=t.drop 7:=fun h=>by unfold Lib.trimPrefix;rw [if_pos h];rfl
 unfold uplB idB idV at hu
 try unfold idV
 refine spH Tryz.func130 (by kernel_rfl) { cfgT with keep:=some [0,2,3,4,5,6,7]} [rM,rJ,uM,uK,Ze,Zd,Qz,Qy,zW,zV,wH,wG] (by kernel_rfl) ?_
 intro I X hI hX
 refine orcL ?_;go_invoke;refine orcS (by kernel_rfl) ?_
 simp only [zi,Nat.reduceAdd];subst hI;rw [show([47,102,105,108,101,115,47]:Str)=vH from rfl];simp only [nrmA,nrmB,nrlB,reduceCtorEq,HO.pack.injEq,HO.obj.injEq];generalize Lib.hasPrefix t vH=hb at *
 cases hb with
 | true=>
   rw [htp rfl] at *;generalize t.drop 7=tt at *;generalize numA tt 10 9=na at *;obtain⟨nv,ok⟩:=na;simp only [Bool.true_and] at *
   (repeat' (first|refine ja ?_ ?_|intro _))<;>first|omega|exact jb|exact jc ‹False›|skip
   all_goals first|omega|assumption|exact hs|(simp_all;done)|trace_state
 | false=>
   simp only [Bool.false_and] at *
   (repeat' (first|refine ja ?_ ?_|intro _))<;>first|omega|exact jb|exact jc ‹False›|skip
   all_goals first|omega|assumption|exact hs|(simp_all;done)|trace_state
theorem zyI (m t:Str) (mi:Int) (f:List Fld) (le:Int) (l:List Upl) (n:Int) (b:Str) (s:Int) (hneed:zL l n∧uplB ⟨l,n,b,s⟩ t=false):Spc Tryz.prog 130 [.v (.one (.ptr 0 0))] [.obj 170 [.ptr 1 0,.p (.str m),.p (.str t),.p (.int .i64 mi),.p (.list .fld f),.p (.int .i64 le)],.pack [.obj 54 [.ptr 1 0,.ptr 2 0],.pack [.obj 124 [.row 1,.p (.int .i64 n)],.row .upl 81 l],.pack [.obj 156 [.row 1,.p (.int .i64 s)],.row .byte 5 b]]] (.pan (.ifc 165 true [.int .i64 404,.list .fld ([]),.list .byte ([])])) [.obj 170 [.ptr 1 0,.p (.str m),.p (.str t),.p (.int .i64 mi),.p (.list .fld f),.p (.int .i64 le)],.pack [.obj 54 [.ptr 1 0,.ptr 2 0],.pack [.obj 124 [.row 1,.p (.int .i64 n)],.row .upl 81 l],.pack [.obj 156 [.row 1,.p (.int .i64 s)],.row .byte 5 b]]]:=by
 obtain⟨hs,hu⟩:=hneed;have hnn:=vN (t.drop 7);have hnx:=vN (Lib.trimPrefix t vH)
 have htp:Lib.hasPrefix t vH=true→Lib.trimPrefix t vH=t.drop 7:=fun h=>by unfold Lib.trimPrefix;rw [if_pos h];rfl
 unfold uplB idB idV at hu
 try unfold idV
 refine spH Tryz.func130 (by kernel_rfl) { cfgT with keep:=some [0,2,3,4,5,6,7]} [rM,rJ,uM,uK,Ze,Zd,Qz,Qy,zW,zV,wH,wG] (by kernel_rfl) ?_
 intro I X hI hX
 refine orcL ?_;go_invoke;refine orcS (by kernel_rfl) ?_
 simp only [zi,Nat.reduceAdd];subst hI;rw [show([47,102,105,108,101,115,47]:Str)=vH from rfl];simp only [nrmA,nrmB,nrlB,reduceCtorEq,HO.pack.injEq,HO.obj.injEq];generalize Lib.hasPrefix t vH=hb at *
 cases hb with
 | true=>
   rw [htp rfl] at *;generalize t.drop 7=tt at *;generalize numA tt 10 9=na at *;obtain⟨nv,ok⟩:=na;simp only [Bool.true_and] at *
   (repeat' (first|refine ja ?_ ?_|intro _))<;>first|omega|exact jb|exact jc ‹False›|skip
   all_goals first|omega|assumption|exact hs|(simp_all;done)|trace_state
 | false=>
   simp only [Bool.false_and] at *
   (repeat' (first|refine ja ?_ ?_|intro _))<;>first|omega|exact jb|exact jc ‹False›|skip
   all_goals first|omega|assumption|exact hs|(simp_all;done)|trace_state
def zeT (I:Alg):KU
 |[.v (.one (.ptr 0 0))],[.obj 170 [.ptr 1 0,.p (.str m),.p (.str t),.p (.int .i64 mi),.p (.list .fld f),.p (.int .i64 le)],.pack [.obj 54 [.ptr 1 0,.ptr 2 0],.pack [.obj 124 [.row 1,.p (.int .i64 n)],.row .upl 81 l],.pack [.obj 156 [.row 1,.p (.int .i64 s)],.row .byte 5 b]]]=>(fun(m t:Str) (f:List Fld) (l:List Upl) (b:Str)=>(some (.br (I.hid (uplB ⟨l,n,b,s⟩ t)) (.one ⟨I.hid (zL l n∧uplB ⟨l,n,b,s⟩ t=true),(.ret (.v (.agg [.p (.int .i64 (I.hid ((getU l (idV t)).id))),.p (.int .i64 (I.hid ((getU l (idV t)).size))),.p (.str (I.hid ((getU l (idV t)).note))),.p (.list .byte (I.hid ((getU l (idV t)).bytes))),.p (.int .i64 (I.hid ((getU l (idV t)).sent)))]))),[.obj 170 [.ptr 1 0,.p (.str m),.p (.str t),.p (.int .i64 mi),.p (.list .fld f),.p (.int .i64 le)],.pack [.obj 54 [.ptr 1 0,.ptr 2 0],.pack [.obj 124 [.row 1,.p (.int .i64 n)],.row .upl 81 l],.pack [.obj 156 [.row 1,.p (.int .i64 s)],.row .byte 5 b]]]⟩) (.one ⟨I.hid (zL l n∧uplB ⟨l,n,b,s⟩ t=false),(.pan (.ifc 165 true [.int .i64 404,.list .fld (I.hid ([])),.list .byte (I.hid ([]))])),[.obj 170 [.ptr 1 0,.p (.str m),.p (.str t),.p (.int .i64 mi),.p (.list .fld f),.p (.int .i64 le)],.pack [.obj 54 [.ptr 1 0,.ptr 2 0],.pack [.obj 124 [.row 1,.p (.int .i64 n)],.row .upl 81 l],.pack [.obj 156 [.row 1,.p (.int .i64 s)],.row .byte 5 b]]]⟩)):Option CT)) m t f l b
 |_,_=>none
theorem zps:zu Tryz.prog 130 (zeT alg):=by
 intro args hp r h;unfold zeT at h
 split at h
 · cases h;exact⟨fun _ hn=>zyJ _ _ _ _ _ _ _ _ _ hn,fun _ hn=>zyI _ _ _ _ _ _ _ _ _ hn⟩
 · cases h
def zbB:Know Tryz.prog:=⟨130,zeT,zps⟩
def zbA:Know Tryz.prog:=⟨130,fun I=>zx I (zeT I),zf zps⟩
def QY (I:Alg):KU
 |[.v (.one (.ptr 0 0)),.v (.agg [.p (.int .i64 ui),.p (.int .i64 uz),.p (.str uo),.p (.list .byte ub),.p (.int .i64 us)])],[.obj 170 [.ptr 1 0,.p (.str m),.p (.str t),.p (.int .i64 mi),.p (.list .fld f),.p (.int .i64 le)],.pack [.obj 54 [.ptr 1 0,.ptr 2 0],.pack [.obj 124 [.row 1,.p (.int .i64 n)],.row .upl 81 l],.pack [.obj 156 [.row 1,.p (.int .i64 s)],.row .byte 5 b]]]=>(fun(m t:Str) (f:List Fld) (l:List Upl) (b uo ub:Str)=>(some (.one ⟨I.hid (uz<1000000000∧ub.length<1000000),(.pan (.ifc 165 true [.int .i64 200,.list .fld (I.hid (zc6 ⟨ui,uz,uo,ub,us⟩)),.list .byte (I.hid ([]))])),[.obj 170 [.ptr 1 0,.p (.str m),.p (.str t),.p (.int .i64 mi),.p (.list .fld f),.p (.int .i64 le)],.pack [.obj 54 [.ptr 1 0,.ptr 2 0],.pack [.obj 124 [.row 1,.p (.int .i64 n)],.row .upl 81 l],.pack [.obj 156 [.row 1,.p (.int .i64 s)],.row .byte 5 b]]]⟩):Option CT)) m t f l b uo ub
 |_,_=>none
theorem zla:zu Tryz.prog 131 (QY alg):=by
 intro args hp r h;unfold QY at h;split at h<;>cases h
 rename_i ui uz uo ub us m t mi f le n l s b
 revert f l;intro(f:List Fld) (l:List Upl)
 simp only [CT.Good,zh];intro hneed;obtain⟨h1,h2⟩:=hneed;generalize hr:zc6 ⟨ui,uz,uo,ub,us⟩=r;unfold zc6 at hr;generalize hl:lenF ⟨ui,uz,uo,ub,us⟩=lf at hr;obtain⟨ln,lv⟩:=lf
 refine spH Tryz.func131 (by kernel_rfl) { cfgT with keep:=some [0,1,3,4]} [zW,zV,yE,yD,wH,wG,zw7,zw6] (by kernel_rfl) ?_
 intro I X hI hX
 refine orcL ?_;go_invoke;refine orcS (by kernel_rfl) ?_
 simp only [zi,Nat.reduceAdd];subst hI;simp only at hr;simp only [nrmA,nrmB,nrlB,reduceCtorEq,HO.pack.injEq,HO.obj.injEq];rw [hl]
 (repeat' (first|refine ja ?_ ?_|intro _))<;>first|omega|exact jb|exact jc ‹False›|skip
 all_goals first|omega|with_reducible assumption|(subst hr;simp_all;done)|(subst hr;(simp_all [zbs,zz7,zzm,zc3]);done)|trace_state
def Vx:Know Tryz.prog:=⟨131,QY,zla⟩
def Vw:Know Tryz.prog:=⟨131,fun I=>zx I (QY I),zf zla⟩
end Go.Proofs.YtkjepecoodjbmaaGreatDoor
namespace Go.Proofs.YtkjepecoodjbmaaGreatDoor
open Go Go.Sep Go.Ab
set_option maxRecDepth 100000
theorem Zq {l:List Upl} {n:Int} {b:Str} {e:Ent} (h:e.kind≠1):wrtN l n b e=n:=by
 unfold wrtN Sv;rw [if_neg h]
 split<;>rfl
def Vz (I:Alg):KU
 |[.v (.one (.ptr 0 0)),.v (.agg [.p (.int .i64 ui),.p (.int .i64 uz),.p (.str uo),.p (.list .byte ub),.p (.int .i64 us)]),.v (.one (.p (.list .byte body)))],[.obj 170 [.ptr 1 0,.p (.str m),.p (.str t),.p (.int .i64 mi),.p (.list .fld f),.p (.int .i64 le)],.pack [.obj 54 [.ptr 1 0,.ptr 2 0],.pack [.obj 124 [.row 1,.p (.int .i64 n)],.row .upl 81 l],.pack [.obj 156 [.row 1,.p (.int .i64 s)],.row .byte 5 b]]]=>(fun(m t:Str) (f:List Fld) (l:List Upl) (b uo ub body:Str)=>(some (.one ⟨I.hid (FOk f∧zL l n∧n≤200000∧b.length≤100000∧body.length≤100000∧ub.length≤1000000∧uz≤1000000),(.pan (.ifc 165 true [.int .i64 (I.hid ((vw ⟨l,n,b,s⟩ ⟨ui,uz,uo,ub,us⟩ f body).st)),.list .fld (I.hid ((vw ⟨l,n,b,s⟩ ⟨ui,uz,uo,ub,us⟩ f body).fs)),.list .byte (I.hid ([]))])),[.obj 170 [.ptr 1 0,.p (.str m),.p (.str t),.p (.int .i64 mi),.p (.list .fld f),.p (.int .i64 le)],.pack [.obj 54 [.ptr 1 0,.ptr 2 0],.pack [.obj 124 [.row 1,.p (.int .i64 (I.hid ((vw ⟨l,n,b,s⟩ ⟨ui,uz,uo,ub,us⟩ f body).q.n)))],.row .upl 81 (I.hid ((vw ⟨l,n,b,s⟩ ⟨ui,uz,uo,ub,us⟩ f body).q.l))],.pack [.obj 156 [.row 1,.p (.int .i64 (I.hid ((vw ⟨l,n,b,s⟩ ⟨ui,uz,uo,ub,us⟩ f body).q.s)))],.row .byte 5 (I.hid ((vw ⟨l,n,b,s⟩ ⟨ui,uz,uo,ub,us⟩ f body).q.b))]]]⟩):Option CT)) m t f l b uo ub body
 |_,_=>none
set_option maxHeartbeats 8000000 in
theorem zgy:zu Tryz.prog 132 (Vz alg):=by
 intro args hp r h;unfold Vz at h;split at h<;>cases h
 rename_i ui uz uo ub us body m t mi f le n l s b
 revert f l;intro(f:List Fld) (l:List Upl)
 simp only [CT.Good,zh];intro hneed;obtain⟨hf,hs,hn,hb,hbl,hub,huz⟩:=hneed;have hn0:=hs.n0;have hcm:=Zz f Yk;have hol:=zfx hf Yk;have hs2:=zbk hs b (apE ui body)
 have hnn:wrtN l n b (apE ui body)=n:=Zq (by simp [apE])
 have hbb:=ZJ (l:=l) (n:=n) (b:=b) (apE ui body) hb;generalize hr:vw ⟨l,n,b,s⟩ ⟨ui,uz,uo,ub,us⟩ f body=r;obtain⟨st,fs,⟨l',n',b',s'⟩⟩:=r;unfold vw wsC wsS syS at hr;simp only at hr
 refine spH Tryz.func132 (by kernel_rfl) { cfgT with seam:=[5,10,17],keep:=some [0,1,2,4,6,8,9,10,11]} [vC,vz,y9,y8,yZ,yY,zN,zM,yX,yV,zW,zV,yE,yD,wH,wG,wF,wE,sN,sK,vY,vX] (by kernel_rfl) ?_
 intro I X hI hX
 refine orcL ?_;go_invoke;refine orcS (by kernel_rfl) ?_
 simp only [zi,Nat.reduceAdd]
 have hh: ∀ {α:Type} (x:α),I.hid x=x:=by subst hI;intros;rfl
 have key17: ∀ (nv sz:Int),nv=(ub.length:Int)→(if(if apG l ui nv then 17 else wrtC l n b (apE ui body))≠0 then(⟨VG (if apG l ui nv then 17 else wrtC l n b (apE ui body)),[],⟨l,n,b,s⟩⟩:TA)
  else if 0≤sz∧uz<0 then
   if wrtC (wrtL l n b (apE ui body)) (wrtN l n b (apE ui body)) (wrtB l n b (apE ui body)) ⟨3,ui,sz,[]⟩≠0 then(⟨VG (wrtC (wrtL l n b (apE ui body)) (wrtN l n b (apE ui body)) (wrtB l n b (apE ui body)) ⟨3,ui,sz,[]⟩),[],⟨wrtL l n b (apE ui body),wrtN l n b (apE ui body),wrtB l n b (apE ui body),s⟩⟩:TA)
   else(⟨204,[⟨zbs,decS (nv+(body.length:Int))⟩],⟨wrtL (wrtL l n b (apE ui body)) (wrtN l n b (apE ui body)) (wrtB l n b (apE ui body)) ⟨3,ui,sz,[]⟩,wrtN (wrtL l n b (apE ui body)) (wrtN l n b (apE ui body)) (wrtB l n b (apE ui body)) ⟨3,ui,sz,[]⟩,wrtB (wrtL l n b (apE ui body)) (wrtN l n b (apE ui body)) (wrtB l n b (apE ui body)) ⟨3,ui,sz,[]⟩,((wrtB (wrtL l n b (apE ui body)) (wrtN l n b (apE ui body)) (wrtB l n b (apE ui body)) ⟨3,ui,sz,[]⟩).length:Int)⟩⟩:TA)
  else(⟨204,[⟨zbs,decS (nv+(body.length:Int))⟩],⟨wrtL l n b (apE ui body),wrtN l n b (apE ui body),wrtB l n b (apE ui body),((wrtB l n b (apE ui body)).length:Int)⟩⟩:TA))=⟨st,fs,⟨l',n',b',s'⟩⟩→Ok Tryz.prog X (fun o h=>o=AOut.pan (C.ifc 165 true [P.int IntKind.i64 st,P.list U.fld fs,P.list U.byte []])∧h=[HO.obj 170 [C.ptr 1 0,C.p (P.str m),C.p (P.str t),C.p (P.int IntKind.i64 mi),C.p (P.list U.fld f),C.p (P.int IntKind.i64 le)],HO.pack [HO.obj 54 [C.ptr 1 0,C.ptr 2 0],HO.pack [HO.obj 124 [C.row 1,C.p (P.int IntKind.i64 n')],HO.row U.upl 81 l'],HO.pack [HO.obj 156 [C.row 1,C.p (P.int IntKind.i64 s')],HO.row U.byte 5 b']]]) (go I tab { cfgT with seam:=[5,10,17],keep:=some [0,1,2,4,6,8,9,10,11]} [vC,vz,y9,y8,yZ,yY,zN,zM,yX,yV,zW,zV,yE,yD,wH,wG,wF,wE,sN,sK,vY,vX] [⟨vI Tryz.f132,finK I tab { cfgT with seam:=[5,10,17],keep:=some [0,1,2,4,6,8,9,10,11]} 2 Tryz.f132⟩] 0 [1,1,1,1,1,1,1,1,0] ⟨[(0,.v (.one (.ptr 0 0))),(1,.v (.agg [.p (.int .i64 ui),.p (.int .i64 uz),.p (.str uo),.p (.list .byte ub),.p (.int .i64 us)])),(2,.v (.one (.p (.list .byte body)))),(4,.v (.one (.ptr 2 0))),(10,.v (.one (.p (.int .i64 nv)))),(11,.v (.one (.p (.int .i64 sz))))],[.obj 170 [.ptr 1 0,.p (.str m),.p (.str t),.p (.int .i64 mi),.p (.list .fld f),.p (.int .i64 le)],.pack [.obj 54 [.ptr 1 0,.ptr 2 0],.pack [.obj 124 [.row 1,.p (.int .i64 n)],.row .upl 81 l],.pack [.obj 156 [.row 1,.p (.int .i64 s)],.row .byte 5 b]],.pack [.obj 81 [.p (.int .i64 ui),.p (.int .i64 uz),.p (.str uo),.p (.list .byte ub),.p (.int .i64 us)]]],131,none⟩):=by
  intro nv sz hnv hr
  refine orcL ?_;go_invoke;refine orcS (by kernel_rfl) ?_
  simp only [zi,Nat.reduceAdd];clear hX hcm hol;unfold zbs at hr;unfold apE at *;subst hI;simp only [nrmA,nrmB,nrlB,reduceCtorEq,HO.pack.injEq,HO.obj.injEq]
  by_cases hg:apG l ui nv=true
  · simp only [hg,if_true] at hr ⊢
    rw [if_pos (by decide)] at hr
    clear hs2 hnn hbb;simp only [TA.mk.injEq,Sto.mk.injEq] at hr;obtain⟨q1,q2,q3,q4,q5,q6⟩:=hr;subst q1 q2 q3 q4 q5 q6;simp only [nrmA,nrmB,nrlB,reduceCtorEq,HO.pack.injEq,HO.obj.injEq,decide_true,decide_false,je,jd,forall_const,false_implies,true_implies,jf,jg]
    (repeat' (first|refine ja ?_ ?_|intro _))<;>first|omega|exact jb|exact jc ‹False›|skip
    all_goals first
     |with_reducible rfl
     |with_reducible assumption
     |omega
     |exact hs
     |exact hf.1
     |(exact(hf.2 _ ‹_›).1)
     |(exact(hf.2 _ ‹_›).2)
     |exact⟨hf,by decide⟩
     |exact⟨⟨hf,by decide⟩,by assumption⟩
     |(simp only [jh,ji];omega)
     |(exfalso;simp_all;done)
  simp only [hg,jd,if_false] at hr ⊢;clear hg
  by_cases h1:wrtC l n b ⟨2,ui,0,body⟩=0
  · rw [if_neg (fun h=>h h1)] at hr
    simp only [h1] at ⊢
    clear h1;generalize wrtL l n b ⟨2,ui,0,body⟩=l2 at *;generalize wrtN l n b ⟨2,ui,0,body⟩=n2 at *;generalize wrtB l n b ⟨2,ui,0,body⟩=b2 at *
    by_cases h2:0≤sz∧uz<0
    · rw [if_pos h2] at hr
      by_cases h3:wrtC l2 n2 b2 ⟨3,ui,sz,[]⟩=0
      · rw [if_neg (fun h=>h h3)] at hr
        simp only [TA.mk.injEq,Sto.mk.injEq] at hr;obtain⟨q1,q2,q3,q4,q5,q6⟩:=hr;subst q1 q2 q3 q4 q5 q6
        simp only [h3] at ⊢
        clear h3;simp only [nrmA,nrmB,nrlB,reduceCtorEq,HO.pack.injEq,HO.obj.injEq,decide_true,decide_false,je,jd,forall_const,false_implies,true_implies,jf,jg]
        (repeat' (first|refine ja ?_ ?_|intro _))<;>first|omega|exact jb|exact jc ‹False›|skip
        all_goals first
         |with_reducible rfl
         |with_reducible assumption
         |omega
         |exact hs
         |exact hf.1
         |(exact(hf.2 _ ‹_›).1)
         |(exact(hf.2 _ ‹_›).2)
         |exact⟨hf,by decide⟩
         |exact⟨⟨hf,by decide⟩,by assumption⟩
         |(simp only [jh,ji];omega)
         |(exfalso;simp_all;done)
      · rw [if_pos h3] at hr
        simp only [TA.mk.injEq,Sto.mk.injEq] at hr;obtain⟨q1,q2,q3,q4,q5,q6⟩:=hr;subst q1 q2 q3 q4 q5 q6
        have e1:wrtL l2 n2 b2 ⟨3,ui,sz,[]⟩=l2:=by simp only [wrtL,if_neg h3]
        have e2:wrtN l2 n2 b2 ⟨3,ui,sz,[]⟩=n2:=by simp only [wrtN,if_neg h3]
        have e3:wrtB l2 n2 b2 ⟨3,ui,sz,[]⟩=b2:=by simp only [wrtB,if_neg h3]
        rw [e1,e2,e3];clear e1 e2 e3;generalize wrtC l2 n2 b2 ⟨3,ui,sz,[]⟩=c3 at *;simp only [nrmA,nrmB,nrlB,reduceCtorEq,HO.pack.injEq,HO.obj.injEq,decide_true,decide_false,je,jd,forall_const,false_implies,true_implies,jf,jg,h3]
        (repeat' (first|refine ja ?_ ?_|intro _))<;>first|omega|exact jb|exact jc ‹False›|skip
        all_goals first
         |with_reducible rfl
         |with_reducible assumption
         |omega
         |exact hs
         |exact hf.1
         |(exact(hf.2 _ ‹_›).1)
         |(exact(hf.2 _ ‹_›).2)
         |exact⟨hf,by decide⟩
         |exact⟨⟨hf,by decide⟩,by assumption⟩
         |(simp only [jh,ji];omega)
         |(exfalso;simp_all;done)
    · rw [if_neg h2] at hr
      simp only [TA.mk.injEq,Sto.mk.injEq] at hr;obtain⟨q1,q2,q3,q4,q5,q6⟩:=hr;subst q1 q2 q3 q4 q5 q6;simp only [nrmA,nrmB,nrlB,reduceCtorEq,HO.pack.injEq,HO.obj.injEq,decide_true,decide_false,je,jd,forall_const,false_implies,true_implies,jf,jg]
      (repeat' (first|refine ja ?_ ?_|intro _))<;>first|omega|exact jb|exact jc ‹False›|skip
      all_goals first
       |with_reducible rfl
       |with_reducible assumption
       |omega
       |exact hs
       |exact hf.1
       |(exact(hf.2 _ ‹_›).1)
       |(exact(hf.2 _ ‹_›).2)
       |exact⟨hf,by decide⟩
       |exact⟨⟨hf,by decide⟩,by assumption⟩
       |(simp only [jh,ji];omega)
       |(exfalso;simp_all;done)
  · rw [if_pos h1] at hr
    simp only [TA.mk.injEq,Sto.mk.injEq] at hr;obtain⟨q1,q2,q3,q4,q5,q6⟩:=hr;subst q1 q2 q3 q4 q5 q6
    have e1:wrtL l n b ⟨2,ui,0,body⟩=l:=by simp only [wrtL,if_neg h1]
    have e2:wrtN l n b ⟨2,ui,0,body⟩=n:=by simp only [wrtN,if_neg h1]
    have e3:wrtB l n b ⟨2,ui,0,body⟩=b:=by simp only [wrtB,if_neg h1]
    rw [e1,e2,e3];clear e1 e2 e3 hs2 hnn hbb;generalize wrtC l n b ⟨2,ui,0,body⟩=c2 at *;simp only [nrmA,nrmB,nrlB,reduceCtorEq,HO.pack.injEq,HO.obj.injEq,decide_true,decide_false,je,jd,forall_const,false_implies,true_implies,jf,jg,h1]
    (repeat' (first|refine ja ?_ ?_|intro _))<;>first|omega|exact jb|exact jc ‹False›|skip
    all_goals first
     |with_reducible rfl
     |with_reducible assumption
     |omega
     |exact hs
     |exact hf.1
     |(exact(hf.2 _ ‹_›).1)
     |(exact(hf.2 _ ‹_›).2)
     |exact⟨hf,by decide⟩
     |exact⟨⟨hf,by decide⟩,by assumption⟩
     |(simp only [jh,ji];omega)
     |(exfalso;simp_all;done)
 have key10: ∀ (nv:Int),nv=(ub.length:Int)→(if WE f yQ=false then(⟨400,[],⟨l,n,b,s⟩⟩:TA)
  else if 0≤zS f yQ∧0≤uz∧zS f yQ≠uz then(⟨400,[],⟨l,n,b,s⟩⟩:TA)
  else if 0≤zS f yQ∧uz<0∧(2000<zS f yQ∨zS f yQ<nv+(body.length:Int)) then(⟨413,[],⟨l,n,b,s⟩⟩:TA)
  else if TY b ((body.length:Int)+60)=false then(⟨507,[],⟨l,n,b,s⟩⟩:TA)
  else(if(if apG l ui nv then 17 else wrtC l n b (apE ui body))≠0 then(⟨VG (if apG l ui nv then 17 else wrtC l n b (apE ui body)),[],⟨l,n,b,s⟩⟩:TA)
  else if 0≤(zS f yQ)∧uz<0 then
   if wrtC (wrtL l n b (apE ui body)) (wrtN l n b (apE ui body)) (wrtB l n b (apE ui body)) ⟨3,ui,(zS f yQ),[]⟩≠0 then(⟨VG (wrtC (wrtL l n b (apE ui body)) (wrtN l n b (apE ui body)) (wrtB l n b (apE ui body)) ⟨3,ui,(zS f yQ),[]⟩),[],⟨wrtL l n b (apE ui body),wrtN l n b (apE ui body),wrtB l n b (apE ui body),s⟩⟩:TA)
   else(⟨204,[⟨zbs,decS (nv+(body.length:Int))⟩],⟨wrtL (wrtL l n b (apE ui body)) (wrtN l n b (apE ui body)) (wrtB l n b (apE ui body)) ⟨3,ui,(zS f yQ),[]⟩,wrtN (wrtL l n b (apE ui body)) (wrtN l n b (apE ui body)) (wrtB l n b (apE ui body)) ⟨3,ui,(zS f yQ),[]⟩,wrtB (wrtL l n b (apE ui body)) (wrtN l n b (apE ui body)) (wrtB l n b (apE ui body)) ⟨3,ui,(zS f yQ),[]⟩,((wrtB (wrtL l n b (apE ui body)) (wrtN l n b (apE ui body)) (wrtB l n b (apE ui body)) ⟨3,ui,(zS f yQ),[]⟩).length:Int)⟩⟩:TA)
  else(⟨204,[⟨zbs,decS (nv+(body.length:Int))⟩],⟨wrtL l n b (apE ui body),wrtN l n b (apE ui body),wrtB l n b (apE ui body),((wrtB l n b (apE ui body)).length:Int)⟩⟩:TA)))=⟨st,fs,⟨l',n',b',s'⟩⟩→Ok Tryz.prog X (fun o h=>o=AOut.pan (C.ifc 165 true [P.int IntKind.i64 st,P.list U.fld fs,P.list U.byte []])∧h=[HO.obj 170 [C.ptr 1 0,C.p (P.str m),C.p (P.str t),C.p (P.int IntKind.i64 mi),C.p (P.list U.fld f),C.p (P.int IntKind.i64 le)],HO.pack [HO.obj 54 [C.ptr 1 0,C.ptr 2 0],HO.pack [HO.obj 124 [C.row 1,C.p (P.int IntKind.i64 n')],HO.row U.upl 81 l'],HO.pack [HO.obj 156 [C.row 1,C.p (P.int IntKind.i64 s')],HO.row U.byte 5 b']]]) (go I tab { cfgT with seam:=[5,10,17],keep:=some [0,1,2,4,6,8,9,10,11]} [vC,vz,y9,y8,yZ,yY,zN,zM,yX,yV,zW,zV,yE,yD,wH,wG,wF,wE,sN,sK,vY,vX] [⟨vI Tryz.f132,finK I tab { cfgT with seam:=[5,10,17],keep:=some [0,1,2,4,6,8,9,10,11]} 2 Tryz.f132⟩] 0 [1,1,1,1,1,1,0] ⟨[(0,.v (.one (.ptr 0 0))),(1,.v (.agg [.p (.int .i64 ui),.p (.int .i64 uz),.p (.str uo),.p (.list .byte ub),.p (.int .i64 us)])),(2,.v (.one (.p (.list .byte body)))),(4,.v (.one (.ptr 2 0))),(10,.v (.one (.p (.int .i64 nv))))],[.obj 170 [.ptr 1 0,.p (.str m),.p (.str t),.p (.int .i64 mi),.p (.list .fld f),.p (.int .i64 le)],.pack [.obj 54 [.ptr 1 0,.ptr 2 0],.pack [.obj 124 [.row 1,.p (.int .i64 n)],.row .upl 81 l],.pack [.obj 156 [.row 1,.p (.int .i64 s)],.row .byte 5 b]],.pack [.obj 81 [.p (.int .i64 ui),.p (.int .i64 uz),.p (.str uo),.p (.list .byte ub),.p (.int .i64 us)]]],131,none⟩):=by
  intro nv hnv hr
  refine orcL ?_;go_invoke;refine orcS (by kernel_rfl) ?_
  simp only [zi,Nat.reduceAdd];clear hcm hol hs2 hnn hbb;subst hI;unfold yQ at *;simp only [nrmA,nrmB,nrlB,reduceCtorEq,HO.pack.injEq,HO.obj.injEq];generalize zS f [117,112,108,111,97,100,45,108,101,110,103,116,104]=sz at *
  by_cases hd1:WE f [117,112,108,111,97,100,45,108,101,110,103,116,104]=false
  · rw [if_pos hd1] at hr
    simp only [TA.mk.injEq,Sto.mk.injEq] at hr;obtain⟨q1,q2,q3,q4,q5,q6⟩:=hr;subst q1 q2 q3 q4 q5 q6;simp only [nrmA,nrmB,nrlB,reduceCtorEq,HO.pack.injEq,HO.obj.injEq,decide_true,decide_false,je,jd,forall_const,false_implies,true_implies,jf,jg,hd1]
    (repeat' (first|refine ja ?_ ?_|intro _))<;>first|omega|exact jb|exact jc ‹False›|skip
    all_goals first
     |with_reducible rfl
     |with_reducible assumption
     |omega
     |exact hs
     |exact hf.1
     |(exact(hf.2 _ ‹_›).1)
     |(exact(hf.2 _ ‹_›).2)
     |exact⟨hf,by decide⟩
     |exact⟨⟨hf,by decide⟩,by assumption⟩
     |(simp only [jh,ji];omega)
     |(exfalso;simp_all;done)
  rw [if_neg hd1] at hr
  try simp only [Bool.not_eq_false] at hd1
  simp only [nrmA,nrmB,nrlB,reduceCtorEq,HO.pack.injEq,HO.obj.injEq,decide_true,decide_false,je,jd,forall_const,false_implies,true_implies,jf,jg,hd1]
  by_cases hd2:0≤sz∧0≤uz∧sz≠uz
  · rw [if_pos hd2] at hr
    simp only [TA.mk.injEq,Sto.mk.injEq] at hr;obtain⟨q1,q2,q3,q4,q5,q6⟩:=hr;subst q1 q2 q3 q4 q5 q6
    (repeat' (first|refine ja ?_ ?_|intro _))<;>first|omega|exact jb|exact jc ‹False›|skip
    all_goals first
     |with_reducible rfl
     |with_reducible assumption
     |omega
     |exact hs
     |exact hf.1
     |(exact(hf.2 _ ‹_›).1)
     |(exact(hf.2 _ ‹_›).2)
     |exact⟨hf,by decide⟩
     |exact⟨⟨hf,by decide⟩,by assumption⟩
     |(simp only [jh,ji];omega)
     |(exfalso;simp_all;done)
  rw [if_neg hd2] at hr
  by_cases hd3:0≤sz∧uz<0∧(2000<sz∨sz<nv+(body.length:Int))
  · rw [if_pos hd3] at hr
    simp only [TA.mk.injEq,Sto.mk.injEq] at hr;obtain⟨q1,q2,q3,q4,q5,q6⟩:=hr;subst q1 q2 q3 q4 q5 q6
    (repeat' (first|refine ja ?_ ?_|intro _))<;>first|omega|exact jb|exact jc ‹False›|skip
    all_goals first
     |with_reducible rfl
     |with_reducible assumption
     |omega
     |exact hs
     |exact hf.1
     |(exact(hf.2 _ ‹_›).1)
     |(exact(hf.2 _ ‹_›).2)
     |exact⟨hf,by decide⟩
     |exact⟨⟨hf,by decide⟩,by assumption⟩
     |(simp only [jh,ji];omega)
     |(exfalso;simp_all;done)
  rw [if_neg hd3] at hr
  by_cases hd4:TY b ((body.length:Int)+60)=false
  · rw [if_pos hd4] at hr
    simp only [TA.mk.injEq,Sto.mk.injEq] at hr;obtain⟨q1,q2,q3,q4,q5,q6⟩:=hr;subst q1 q2 q3 q4 q5 q6;simp only [nrmA,nrmB,nrlB,reduceCtorEq,HO.pack.injEq,HO.obj.injEq,decide_true,decide_false,je,jd,forall_const,false_implies,true_implies,jf,jg,hd4]
    (repeat' (first|refine ja ?_ ?_|intro _))<;>first|omega|exact jb|exact jc ‹False›|skip
    all_goals first
     |with_reducible rfl
     |with_reducible assumption
     |omega
     |exact hs
     |exact hf.1
     |(exact(hf.2 _ ‹_›).1)
     |(exact(hf.2 _ ‹_›).2)
     |exact⟨hf,by decide⟩
     |exact⟨⟨hf,by decide⟩,by assumption⟩
     |(simp only [jh,ji];omega)
     |(exfalso;simp_all;done)
  rw [if_neg hd4] at hr
  try simp only [Bool.not_eq_false] at hd4
  simp only [nrmA,nrmB,nrlB,reduceCtorEq,HO.pack.injEq,HO.obj.injEq,decide_true,decide_false,je,jd,forall_const,false_implies,true_implies,jf,jg,hd4]
  (repeat' (first|refine ja ?_ ?_|intro _))<;>first|omega|exact jb|exact jc ‹False›|skip
  all_goals first
   |(with_reducible show Ok _ _ _ _;(try(exfalso;omega));exact seam rfl uT mixed [vC,vz,y9,y8,yZ,yY,zN,zM,yX,yV,zW,zV,yE,yD,wH,wG,wF,wE,sN,sK,vY,vX] hX [0,1,2,4,10,11] ⟨[(0,.v (.one (.ptr 0 0))),(1,.v (.agg [.p (.int .i64 ui),.p (.int .i64 uz),.p (.str uo),.p (.list .byte ub),.p (.int .i64 us)])),(2,.v (.one (.p (.list .byte body)))),(4,.v (.one (.ptr 2 0))),(10,.v (.one (.p (.int .i64 nv)))),(11,.v (.one (.p (.int .i64 sz))))],[.obj 170 [.ptr 1 0,.p (.str m),.p (.str t),.p (.int .i64 mi),.p (.list .fld f),.p (.int .i64 le)],.pack [.obj 54 [.ptr 1 0,.ptr 2 0],.pack [.obj 124 [.row 1,.p (.int .i64 n)],.row .upl 81 l],.pack [.obj 156 [.row 1,.p (.int .i64 s)],.row .byte 5 b]],.pack [.obj 81 [.p (.int .i64 ui),.p (.int .i64 uz),.p (.str uo),.p (.list .byte ub),.p (.int .i64 us)]]],131,none⟩ (by kernel_rfl) (key17 nv sz hnv hr))
   |with_reducible rfl
   |with_reducible assumption
   |omega
   |exact hs
   |exact hf.1
   |(exact(hf.2 _ ‹_›).1)
   |(exact(hf.2 _ ‹_›).2)
   |exact⟨hf,by decide⟩
   |exact⟨⟨hf,by decide⟩,by assumption⟩
   |(simp only [jh,ji];omega)
   |(exfalso;simp_all;done)
 have key5: ∀ (_u:Unit),(if WE f Zc=false then(⟨400,[],⟨l,n,b,s⟩⟩:TA)
  else if zS f Zc<0 then(⟨400,[],⟨l,n,b,s⟩⟩:TA)
  else if zS f Zc≠(ub.length:Int) then(⟨409,[],⟨l,n,b,s⟩⟩:TA)
  else(if WE f yQ=false then(⟨400,[],⟨l,n,b,s⟩⟩:TA)
  else if 0≤zS f yQ∧0≤uz∧zS f yQ≠uz then(⟨400,[],⟨l,n,b,s⟩⟩:TA)
  else if 0≤zS f yQ∧uz<0∧(2000<zS f yQ∨zS f yQ<(zS f Zc)+(body.length:Int)) then(⟨413,[],⟨l,n,b,s⟩⟩:TA)
  else if TY b ((body.length:Int)+60)=false then(⟨507,[],⟨l,n,b,s⟩⟩:TA)
  else(if(if apG l ui (zS f Zc) then 17 else wrtC l n b (apE ui body))≠0 then(⟨VG (if apG l ui (zS f Zc) then 17 else wrtC l n b (apE ui body)),[],⟨l,n,b,s⟩⟩:TA)
  else if 0≤(zS f yQ)∧uz<0 then
   if wrtC (wrtL l n b (apE ui body)) (wrtN l n b (apE ui body)) (wrtB l n b (apE ui body)) ⟨3,ui,(zS f yQ),[]⟩≠0 then(⟨VG (wrtC (wrtL l n b (apE ui body)) (wrtN l n b (apE ui body)) (wrtB l n b (apE ui body)) ⟨3,ui,(zS f yQ),[]⟩),[],⟨wrtL l n b (apE ui body),wrtN l n b (apE ui body),wrtB l n b (apE ui body),s⟩⟩:TA)
   else(⟨204,[⟨zbs,decS ((zS f Zc)+(body.length:Int))⟩],⟨wrtL (wrtL l n b (apE ui body)) (wrtN l n b (apE ui body)) (wrtB l n b (apE ui body)) ⟨3,ui,(zS f yQ),[]⟩,wrtN (wrtL l n b (apE ui body)) (wrtN l n b (apE ui body)) (wrtB l n b (apE ui body)) ⟨3,ui,(zS f yQ),[]⟩,wrtB (wrtL l n b (apE ui body)) (wrtN l n b (apE ui body)) (wrtB l n b (apE ui body)) ⟨3,ui,(zS f yQ),[]⟩,((wrtB (wrtL l n b (apE ui body)) (wrtN l n b (apE ui body)) (wrtB l n b (apE ui body)) ⟨3,ui,(zS f yQ),[]⟩).length:Int)⟩⟩:TA)
  else(⟨204,[⟨zbs,decS ((zS f Zc)+(body.length:Int))⟩],⟨wrtL l n b (apE ui body),wrtN l n b (apE ui body),wrtB l n b (apE ui body),((wrtB l n b (apE ui body)).length:Int)⟩⟩:TA))))=⟨st,fs,⟨l',n',b',s'⟩⟩→Ok Tryz.prog X (fun o h=>o=AOut.pan (C.ifc 165 true [P.int IntKind.i64 st,P.list U.fld fs,P.list U.byte []])∧h=[HO.obj 170 [C.ptr 1 0,C.p (P.str m),C.p (P.str t),C.p (P.int IntKind.i64 mi),C.p (P.list U.fld f),C.p (P.int IntKind.i64 le)],HO.pack [HO.obj 54 [C.ptr 1 0,C.ptr 2 0],HO.pack [HO.obj 124 [C.row 1,C.p (P.int IntKind.i64 n')],HO.row U.upl 81 l'],HO.pack [HO.obj 156 [C.row 1,C.p (P.int IntKind.i64 s')],HO.row U.byte 5 b']]]) (go I tab { cfgT with seam:=[5,10,17],keep:=some [0,1,2,4,6,8,9,10,11]} [vC,vz,y9,y8,yZ,yY,zN,zM,yX,yV,zW,zV,yE,yD,wH,wG,wF,wE,sN,sK,vY,vX] [⟨vI Tryz.f132,finK I tab { cfgT with seam:=[5,10,17],keep:=some [0,1,2,4,6,8,9,10,11]} 2 Tryz.f132⟩] 0 [1,1,1,1,0] ⟨[(0,.v (.one (.ptr 0 0))),(1,.v (.agg [.p (.int .i64 ui),.p (.int .i64 uz),.p (.str uo),.p (.list .byte ub),.p (.int .i64 us)])),(2,.v (.one (.p (.list .byte body)))),(4,.v (.one (.ptr 2 0)))],[.obj 170 [.ptr 1 0,.p (.str m),.p (.str t),.p (.int .i64 mi),.p (.list .fld f),.p (.int .i64 le)],.pack [.obj 54 [.ptr 1 0,.ptr 2 0],.pack [.obj 124 [.row 1,.p (.int .i64 n)],.row .upl 81 l],.pack [.obj 156 [.row 1,.p (.int .i64 s)],.row .byte 5 b]],.pack [.obj 81 [.p (.int .i64 ui),.p (.int .i64 uz),.p (.str uo),.p (.list .byte ub),.p (.int .i64 us)]]],131,none⟩):=by
  intro _ hr
  refine orcL ?_;go_invoke;refine orcS (by kernel_rfl) ?_
  simp only [zi,Nat.reduceAdd];clear hcm hol hs2 hnn hbb key17;subst hI;unfold Zc at *;simp only [nrmA,nrmB,nrlB,reduceCtorEq,HO.pack.injEq,HO.obj.injEq];generalize zS f [117,112,108,111,97,100,45,111,102,102,115,101,116]=nv at *
  by_cases hd5:WE f [117,112,108,111,97,100,45,111,102,102,115,101,116]=false
  · rw [if_pos hd5] at hr
    simp only [TA.mk.injEq,Sto.mk.injEq] at hr;obtain⟨q1,q2,q3,q4,q5,q6⟩:=hr;subst q1 q2 q3 q4 q5 q6;simp only [nrmA,nrmB,nrlB,reduceCtorEq,HO.pack.injEq,HO.obj.injEq,decide_true,decide_false,je,jd,forall_const,false_implies,true_implies,jf,jg,hd5]
    (repeat' (first|refine ja ?_ ?_|intro _))<;>first|omega|exact jb|exact jc ‹False›|skip
    all_goals first
     |with_reducible rfl
     |with_reducible assumption
     |omega
     |exact hs
     |exact hf.1
     |(exact(hf.2 _ ‹_›).1)
     |(exact(hf.2 _ ‹_›).2)
     |exact⟨hf,by decide⟩
     |exact⟨⟨hf,by decide⟩,by assumption⟩
     |(simp only [jh,ji];omega)
     |(exfalso;simp_all;done)
  rw [if_neg hd5] at hr
  try simp only [Bool.not_eq_false] at hd5
  simp only [nrmA,nrmB,nrlB,reduceCtorEq,HO.pack.injEq,HO.obj.injEq,decide_true,decide_false,je,jd,forall_const,false_implies,true_implies,jf,jg,hd5]
  by_cases hd6:nv<0
  · rw [if_pos hd6] at hr
    simp only [TA.mk.injEq,Sto.mk.injEq] at hr;obtain⟨q1,q2,q3,q4,q5,q6⟩:=hr;subst q1 q2 q3 q4 q5 q6
    (repeat' (first|refine ja ?_ ?_|intro _))<;>first|omega|exact jb|exact jc ‹False›|skip
    all_goals first
     |with_reducible rfl
     |with_reducible assumption
     |omega
     |exact hs
     |exact hf.1
     |(exact(hf.2 _ ‹_›).1)
     |(exact(hf.2 _ ‹_›).2)
     |exact⟨hf,by decide⟩
     |exact⟨⟨hf,by decide⟩,by assumption⟩
     |(simp only [jh,ji];omega)
     |(exfalso;simp_all;done)
  rw [if_neg hd6] at hr
  by_cases hd7:nv≠(ub.length:Int)
  · rw [if_pos hd7] at hr
    simp only [TA.mk.injEq,Sto.mk.injEq] at hr;obtain⟨q1,q2,q3,q4,q5,q6⟩:=hr;subst q1 q2 q3 q4 q5 q6
    (repeat' (first|refine ja ?_ ?_|intro _))<;>first|omega|exact jb|exact jc ‹False›|skip
    all_goals first
     |with_reducible rfl
     |with_reducible assumption
     |omega
     |exact hs
     |exact hf.1
     |(exact(hf.2 _ ‹_›).1)
     |(exact(hf.2 _ ‹_›).2)
     |exact⟨hf,by decide⟩
     |exact⟨⟨hf,by decide⟩,by assumption⟩
     |(simp only [jh,ji];omega)
     |(exfalso;simp_all;done)
  rw [if_neg hd7] at hr
  (repeat' (first|refine ja ?_ ?_|intro _))<;>first|omega|exact jb|exact jc ‹False›|skip
  all_goals first
   |(with_reducible show Ok _ _ _ _;(try(exfalso;omega));exact seam rfl uT mixed [vC,vz,y9,y8,yZ,yY,zN,zM,yX,yV,zW,zV,yE,yD,wH,wG,wF,wE,sN,sK,vY,vX] hX [0,1,2,4,10] ⟨[(0,.v (.one (.ptr 0 0))),(1,.v (.agg [.p (.int .i64 ui),.p (.int .i64 uz),.p (.str uo),.p (.list .byte ub),.p (.int .i64 us)])),(2,.v (.one (.p (.list .byte body)))),(4,.v (.one (.ptr 2 0))),(10,.v (.one (.p (.int .i64 nv))))],[.obj 170 [.ptr 1 0,.p (.str m),.p (.str t),.p (.int .i64 mi),.p (.list .fld f),.p (.int .i64 le)],.pack [.obj 54 [.ptr 1 0,.ptr 2 0],.pack [.obj 124 [.row 1,.p (.int .i64 n)],.row .upl 81 l],.pack [.obj 156 [.row 1,.p (.int .i64 s)],.row .byte 5 b]],.pack [.obj 81 [.p (.int .i64 ui),.p (.int .i64 uz),.p (.str uo),.p (.list .byte ub),.p (.int .i64 us)]]],131,none⟩ (by kernel_rfl) (key10 nv (by omega) hr))
   |with_reducible rfl
   |with_reducible assumption
   |omega
   |exact hs
   |exact hf.1
   |(exact(hf.2 _ ‹_›).1)
   |(exact(hf.2 _ ‹_›).2)
   |exact⟨hf,by decide⟩
   |exact⟨⟨hf,by decide⟩,by assumption⟩
   |(simp only [jh,ji];omega)
   |(exfalso;simp_all;done)
 clear hs2 hnn hbb key17 key10;subst hI;rw [show([99,111,110,116,101,110,116,45,116,121,112,101]:Str)=Yk from rfl];rw [show([97,112,112,108,105,99,97,116,105,111,110,47,111,102,102,115,101,116,43,111,99,116,101,116,45,115,116,114,101,97,109]:Str)=octS from rfl];simp only [nrmA,nrmB,nrlB,reduceCtorEq,HO.pack.injEq,HO.obj.injEq]
 have hcl:Yk.length≤1000000:=by decide
 generalize oneT f Yk=oc at *;obtain⟨ov,oc⟩:=oc
 try simp only at *
 generalize x9 ov=pm at *;obtain⟨⟨pw,pp⟩,pc⟩:=pm
 try simp only at *
 by_cases hd8:oc=9
 · rw [if_pos hd8] at hr
   simp only [TA.mk.injEq,Sto.mk.injEq] at hr;obtain⟨q1,q2,q3,q4,q5,q6⟩:=hr;subst q1 q2 q3 q4 q5 q6;simp only [nrmA,nrmB,nrlB,reduceCtorEq,HO.pack.injEq,HO.obj.injEq,decide_true,decide_false,je,jd,forall_const,false_implies,true_implies,jf,jg,hd8]
   (repeat' (first|refine ja ?_ ?_|intro _))<;>first|omega|exact jb|exact jc ‹False›|skip
   all_goals first
    |with_reducible rfl
    |with_reducible assumption
    |omega
    |exact hs
    |exact hf.1
    |(exact(hf.2 _ ‹_›).1)
    |(exact(hf.2 _ ‹_›).2)
    |exact⟨hf,by decide⟩
    |exact⟨⟨hf,by decide⟩,by assumption⟩
    |(simp only [jh,ji];omega)
    |(exfalso;simp_all;done)
 rw [if_neg hd8] at hr
 try simp only [Bool.not_eq_false] at hd8
 simp only [nrmA,nrmB,nrlB,reduceCtorEq,HO.pack.injEq,HO.obj.injEq,decide_true,decide_false,je,jd,forall_const,false_implies,true_implies,jf,jg,hd8]
 by_cases hd9:pc≠0∨pw≠octS
 · rw [if_pos hd9] at hr
   simp only [TA.mk.injEq,Sto.mk.injEq] at hr;obtain⟨q1,q2,q3,q4,q5,q6⟩:=hr;subst q1 q2 q3 q4 q5 q6
   (repeat' (first|refine ja ?_ ?_|intro _))<;>first|omega|exact jb|exact jc ‹False›|skip
   all_goals first
    |with_reducible rfl
    |with_reducible assumption
    |omega
    |exact hs
    |exact hf.1
    |(exact(hf.2 _ ‹_›).1)
    |(exact(hf.2 _ ‹_›).2)
    |exact⟨hf,by decide⟩
    |exact⟨⟨hf,by decide⟩,by assumption⟩
    |(simp only [jh,ji];omega)
    |(exfalso;simp_all;done)
 rw [if_neg hd9] at hr;simp only [not_or,ne_eq,Decidable.not_not] at hd9;obtain⟨g1,g2⟩:=hd9;clear hcm;subst g1 g2;simp only [nrmA,nrmB,nrlB,reduceCtorEq,HO.pack.injEq,HO.obj.injEq,jf,false_implies,true_and,and_true]
 (repeat' (first|refine ja ?_ ?_|intro _))<;>first|omega|exact jb|exact jc ‹False›|skip
 all_goals first
  |(with_reducible show Ok _ _ _ _;(try(exfalso;omega));exact seam rfl uT mixed [vC,vz,y9,y8,yZ,yY,zN,zM,yX,yV,zW,zV,yE,yD,wH,wG,wF,wE,sN,sK,vY,vX] hX [0,1,2,4] ⟨[(0,.v (.one (.ptr 0 0))),(1,.v (.agg [.p (.int .i64 ui),.p (.int .i64 uz),.p (.str uo),.p (.list .byte ub),.p (.int .i64 us)])),(2,.v (.one (.p (.list .byte body)))),(4,.v (.one (.ptr 2 0)))],[.obj 170 [.ptr 1 0,.p (.str m),.p (.str t),.p (.int .i64 mi),.p (.list .fld f),.p (.int .i64 le)],.pack [.obj 54 [.ptr 1 0,.ptr 2 0],.pack [.obj 124 [.row 1,.p (.int .i64 n)],.row .upl 81 l],.pack [.obj 156 [.row 1,.p (.int .i64 s)],.row .byte 5 b]],.pack [.obj 81 [.p (.int .i64 ui),.p (.int .i64 uz),.p (.str uo),.p (.list .byte ub),.p (.int .i64 us)]]],131,none⟩ (by kernel_rfl) (key5 () hr))
  |with_reducible rfl
  |with_reducible assumption
  |omega
  |exact hs
  |exact hf.1
  |(exact(hf.2 _ ‹_›).1)
  |(exact(hf.2 _ ‹_›).2)
  |exact⟨hf,by decide⟩
  |exact⟨⟨hf,by decide⟩,by assumption⟩
  |(simp only [jh,ji];omega)
  |(exfalso;simp_all;done)
  |skip
 exact seam rfl uT mixed [vC,vz,y9,y8,yZ,yY,zN,zM,yX,yV,zW,zV,yE,yD,wH,wG,wF,wE,sN,sK,vY,vX] hX [0,1,2,4] ⟨[(0,.v (.one (.ptr 0 0))),(1,.v (.agg [.p (.int .i64 ui),.p (.int .i64 uz),.p (.str uo),.p (.list .byte ub),.p (.int .i64 us)])),(2,.v (.one (.p (.list .byte body)))),(4,.v (.one (.ptr 2 0)))],[.obj 170 [.ptr 1 0,.p (.str m),.p (.str t),.p (.int .i64 mi),.p (.list .fld f),.p (.int .i64 le)],.pack [.obj 54 [.ptr 1 0,.ptr 2 0],.pack [.obj 124 [.row 1,.p (.int .i64 n)],.row .upl 81 l],.pack [.obj 156 [.row 1,.p (.int .i64 s)],.row .byte 5 b]],.pack [.obj 81 [.p (.int .i64 ui),.p (.int .i64 uz),.p (.str uo),.p (.list .byte ub),.p (.int .i64 us)]]],131,none⟩ (by kernel_rfl) (key5 () hr)
def YM:Know Tryz.prog:=⟨132,Vz,zgy⟩
def YL:Know Tryz.prog:=⟨132,fun I=>zx I (Vz I),zf zgy⟩
end Go.Proofs.YtkjepecoodjbmaaGreatDoor
namespace Go.Proofs.YtkjepecoodjbmaaGreatDoor
open Go Go.Sep Go.Ab
set_option maxRecDepth 100000
theorem zoC {l:List Upl} {n:Int} (h:zL l n) (id:Int):(getU l id).bytes.length≤2000∧(getU l id).size≤2000:=by
 unfold getU
 split
 · rename_i hi
   rw [wJ hi];have:=h.each _ (List.getElem_mem hi);exact⟨this.bl,this.s2⟩
 · decide
def Vy (I:Alg):KU
 |[.v (.one (.ptr 0 0)),.v (.one (.p (.list .byte body)))],[.obj 170 [.ptr 1 0,.p (.str m),.p (.str t),.p (.int .i64 mi),.p (.list .fld f),.p (.int .i64 le)],.pack [.obj 54 [.ptr 1 0,.ptr 2 0],.pack [.obj 124 [.row 1,.p (.int .i64 n)],.row .upl 81 l],.pack [.obj 156 [.row 1,.p (.int .i64 s)],.row .byte 5 b]]]=>(fun(m t:Str) (f:List Fld) (l:List Upl) (b body:Str)=>(some (.one ⟨I.hid (FOk f∧zL l n∧n≤200000∧b.length≤100000∧body.length≤100000),(.pan (.ifc 165 true [.int .i64 (I.hid ((yG ⟨l,n,b,s⟩ m t f body).st)),.list .fld (I.hid ((yG ⟨l,n,b,s⟩ m t f body).fs)),.list .byte (I.hid ([]))])),[.obj 170 [.ptr 1 0,.p (.str m),.p (.str t),.p (.int .i64 mi),.p (.list .fld f),.p (.int .i64 le)],.pack [.obj 54 [.ptr 1 0,.ptr 2 0],.pack [.obj 124 [.row 1,.p (.int .i64 (I.hid ((yG ⟨l,n,b,s⟩ m t f body).q.n)))],.row .upl 81 (I.hid ((yG ⟨l,n,b,s⟩ m t f body).q.l))],.pack [.obj 156 [.row 1,.p (.int .i64 (I.hid ((yG ⟨l,n,b,s⟩ m t f body).q.s)))],.row .byte 5 (I.hid ((yG ⟨l,n,b,s⟩ m t f body).q.b))]]]⟩):Option CT)) m t f l b body
 |_,_=>none
set_option maxHeartbeats 8000000 in
theorem zgx:zu Tryz.prog 88 (Vy alg):=by
 intro args hp r h;unfold Vy at h;split at h<;>cases h
 rename_i body m t mi f le n l s b
 revert f l;intro(f:List Fld) (l:List Upl)
 simp only [CT.Good,zh];intro hneed;obtain⟨hf,hs,hn,hb,hbl⟩:=hneed;have hn0:=hs.n0;have hus:=zoC hs (idV t);generalize hr:yG ⟨l,n,b,s⟩ m t f body=r;obtain⟨st,fs,⟨l',n',b',s'⟩⟩:=r;unfold yG at hr
 try simp only at hr
 refine spH Tryz.func88 (by kernel_rfl) { cfgT with seam:=[3,10],keep:=some [0,1,4,5,7,55]} [wB,wz,zN,zM,zW,zV,yE,yD,wH,wG,wF,wE,vY,vX,Zv,Zu,zbB,zbA,Vx,Vw,YM,YL] (by kernel_rfl) ?_
 intro I X hI hX
 refine orcL ?_;go_invoke;refine orcS (by kernel_rfl) ?_
 simp only [zi,Nat.reduceAdd]
 have key10: ∀ (_u:Unit),(if uplB ⟨l,n,b,s⟩ t=false then(⟨404,[],⟨l,n,b,s⟩⟩:TA)
  else if m=zu6 then(⟨200,zc6 (getU l (idV t)),⟨l,n,b,s⟩⟩:TA)
  else if m=zb3 then vw ⟨l,n,b,s⟩ (getU l (idV t)) f body
  else if m=zvL then U4 ⟨l,n,b,s⟩ (getU l (idV t))
  else(⟨405,[],⟨l,n,b,s⟩⟩:TA))=⟨st,fs,⟨l',n',b',s'⟩⟩→Ok Tryz.prog X (fun o h=>o=AOut.pan (C.ifc 165 true [P.int IntKind.i64 st,P.list U.fld fs,P.list U.byte []])∧h=[HO.obj 170 [C.ptr 1 0,C.p (P.str m),C.p (P.str t),C.p (P.int IntKind.i64 mi),C.p (P.list U.fld f),C.p (P.int IntKind.i64 le)],HO.pack [HO.obj 54 [C.ptr 1 0,C.ptr 2 0],HO.pack [HO.obj 124 [C.row 1,C.p (P.int IntKind.i64 n')],HO.row U.upl 81 l'],HO.pack [HO.obj 156 [C.row 1,C.p (P.int IntKind.i64 s')],HO.row U.byte 5 b']]]) (go I tab { cfgT with seam:=[3,10],keep:=some [0,1,4,5,7,55]} [wB,wz,zN,zM,zW,zV,yE,yD,wH,wG,wF,wE,vY,vX,Zv,Zu,zbB,zbA,Vx,Vw,YM,YL] [⟨vI Tryz.f88,finK I tab { cfgT with seam:=[3,10],keep:=some [0,1,4,5,7,55]} 2 Tryz.f88⟩] 0 [1,1,1,1,0] ⟨[(0,.v (.one (.ptr 0 0))),(1,.v (.one (.p (.list .byte body))))],[.obj 170 [.ptr 1 0,.p (.str m),.p (.str t),.p (.int .i64 mi),.p (.list .fld f),.p (.int .i64 le)],.pack [.obj 54 [.ptr 1 0,.ptr 2 0],.pack [.obj 124 [.row 1,.p (.int .i64 n)],.row .upl 81 l],.pack [.obj 156 [.row 1,.p (.int .i64 s)],.row .byte 5 b]]],84,none⟩):=by
  intro _ hr
  refine orcL ?_;go_invoke;refine orcS (by kernel_rfl) ?_
  simp only [zi,Nat.reduceAdd];subst hI;unfold zu6 zb3 zvL at hr;unfold U4 wsC wsS syS at hr
  try simp only at hr
  simp only [nrmA,nrmB,nrlB,reduceCtorEq,HO.pack.injEq,HO.obj.injEq];generalize getU l (idV t)=u at *;obtain⟨ui,uz,uo,ub,us⟩:=u
  try simp only at *
  by_cases hd1:uplB ⟨l,n,b,s⟩ t=false
  · rw [if_pos hd1] at hr
    simp only [TA.mk.injEq,Sto.mk.injEq] at hr;obtain⟨q1,q2,q3,q4,q5,q6⟩:=hr;subst q1 q2 q3 q4 q5 q6
    try simp only [nrmA,nrmB,nrlB,reduceCtorEq,HO.pack.injEq,HO.obj.injEq,decide_true,decide_false,je,jd,forall_const,false_implies,true_implies,jf,jg,hd1]
    (repeat' (first|refine ja ?_ ?_|intro _))<;>first|omega|exact jb|exact jc ‹False›|skip
    all_goals first
     |with_reducible rfl
     |with_reducible assumption
     |omega
     |exact hs
     |exact hf.1
     |(exact(hf.2 _ ‹_›).1)
     |(exact(hf.2 _ ‹_›).2)
     |exact⟨hf,by decide⟩
     |exact⟨⟨hf,by decide⟩,by assumption⟩
     |(simp only [jh,ji];omega)
     |(exfalso;simp_all;done)
  rw [if_neg hd1] at hr
  try simp only [Bool.not_eq_false,ne_eq,Decidable.not_not] at hd1
  try simp only [nrmA,nrmB,nrlB,reduceCtorEq,HO.pack.injEq,HO.obj.injEq,decide_true,decide_false,je,jd,forall_const,false_implies,true_implies,jf,jg,hd1]
  by_cases hd2:m=[72,69,65,68]
  · rw [if_pos hd2] at hr
    simp only [TA.mk.injEq,Sto.mk.injEq] at hr;obtain⟨q1,q2,q3,q4,q5,q6⟩:=hr;subst q1 q2 q3 q4 q5 q6
    try simp only [nrmA,nrmB,nrlB,reduceCtorEq,HO.pack.injEq,HO.obj.injEq,decide_true,decide_false,je,jd,forall_const,false_implies,true_implies,jf,jg,hd2]
    (repeat' (first|refine ja ?_ ?_|intro _))<;>first|omega|exact jb|exact jc ‹False›|skip
    all_goals first
     |with_reducible rfl
     |with_reducible assumption
     |omega
     |exact hs
     |exact hf.1
     |(exact(hf.2 _ ‹_›).1)
     |(exact(hf.2 _ ‹_›).2)
     |exact⟨hf,by decide⟩
     |exact⟨⟨hf,by decide⟩,by assumption⟩
     |(simp only [jh,ji];omega)
     |(exfalso;simp_all;done)
  rw [if_neg hd2] at hr
  try simp only [Bool.not_eq_false,ne_eq,Decidable.not_not] at hd2
  try simp only [nrmA,nrmB,nrlB,reduceCtorEq,HO.pack.injEq,HO.obj.injEq,decide_true,decide_false,je,jd,forall_const,false_implies,true_implies,jf,jg,hd2]
  by_cases hd3:m=[80,65,84,67,72]
  · rw [if_pos hd3] at hr
    simp only [nrmA,nrmB,nrlB,reduceCtorEq,HO.pack.injEq,HO.obj.injEq,decide_true,decide_false,je,jd,forall_const,false_implies,true_implies,jf,jg,hd3,hr]
    (repeat' (first|refine ja ?_ ?_|intro _))<;>first|omega|exact jb|exact jc ‹False›|skip
    all_goals first
     |with_reducible rfl
     |with_reducible assumption
     |omega
     |exact hs
     |exact hf.1
     |(exact(hf.2 _ ‹_›).1)
     |(exact(hf.2 _ ‹_›).2)
     |exact⟨hf,by decide⟩
     |exact⟨⟨hf,by decide⟩,by assumption⟩
     |(simp only [jh,ji];omega)
     |(exfalso;simp_all;done)
  rw [if_neg hd3] at hr
  try simp only [Bool.not_eq_false,ne_eq,Decidable.not_not] at hd3
  try simp only [nrmA,nrmB,nrlB,reduceCtorEq,HO.pack.injEq,HO.obj.injEq,decide_true,decide_false,je,jd,forall_const,false_implies,true_implies,jf,jg,hd3]
  by_cases hd:m=[68,69,76,69,84,69]
  · rw [if_pos hd] at hr
    by_cases h1:wrtC l n b ⟨4,ui,0,[]⟩=0
    · rw [if_neg (fun h=>h h1)] at hr
      simp only [TA.mk.injEq,Sto.mk.injEq] at hr;obtain⟨q1,q2,q3,q4,q5,q6⟩:=hr;subst q1 q2 q3 q4 q5 q6;simp only [nrmA,nrmB,nrlB,reduceCtorEq,HO.pack.injEq,HO.obj.injEq,decide_true,decide_false,je,jd,forall_const,false_implies,true_implies,jf,jg,hd,h1]
      (repeat' (first|refine ja ?_ ?_|intro _))<;>first|omega|exact jb|exact jc ‹False›|skip
      all_goals first
       |with_reducible rfl
       |with_reducible assumption
       |omega
       |exact hs
       |exact hf.1
       |(exact(hf.2 _ ‹_›).1)
       |(exact(hf.2 _ ‹_›).2)
       |exact⟨hf,by decide⟩
       |exact⟨⟨hf,by decide⟩,by assumption⟩
       |(simp only [jh,ji];omega)
       |(exfalso;simp_all;done)
    · rw [if_pos h1] at hr
      simp only [TA.mk.injEq,Sto.mk.injEq] at hr;obtain⟨q1,q2,q3,q4,q5,q6⟩:=hr;subst q1 q2 q3 q4 q5 q6
      have e1:wrtL l n b ⟨4,ui,0,[]⟩=l:=by simp only [wrtL,if_neg h1]
      have e2:wrtN l n b ⟨4,ui,0,[]⟩=n:=by simp only [wrtN,if_neg h1]
      have e3:wrtB l n b ⟨4,ui,0,[]⟩=b:=by simp only [wrtB,if_neg h1]
      try rw [e1,e2,e3]
      simp only [nrmA,nrmB,nrlB,reduceCtorEq,HO.pack.injEq,HO.obj.injEq,decide_true,decide_false,je,jd,forall_const,false_implies,true_implies,jf,jg,hd,h1]
      (repeat' (first|refine ja ?_ ?_|intro _))<;>first|omega|exact jb|exact jc ‹False›|skip
      all_goals first
       |with_reducible rfl
       |with_reducible assumption
       |omega
       |exact hs
       |exact hf.1
       |(exact(hf.2 _ ‹_›).1)
       |(exact(hf.2 _ ‹_›).2)
       |exact⟨hf,by decide⟩
       |exact⟨⟨hf,by decide⟩,by assumption⟩
       |(simp only [jh,ji];omega)
       |(exfalso;simp_all;done)
  · rw [if_neg hd] at hr
    simp only [TA.mk.injEq,Sto.mk.injEq] at hr;obtain⟨q1,q2,q3,q4,q5,q6⟩:=hr;subst q1 q2 q3 q4 q5 q6;simp only [nrmA,nrmB,nrlB,reduceCtorEq,HO.pack.injEq,HO.obj.injEq,decide_true,decide_false,je,jd,forall_const,false_implies,true_implies,jf,jg,hd]
    (repeat' (first|refine ja ?_ ?_|intro _))<;>first|omega|exact jb|exact jc ‹False›|skip
    all_goals first
     |with_reducible rfl
     |with_reducible assumption
     |omega
     |exact hs
     |exact hf.1
     |(exact(hf.2 _ ‹_›).1)
     |(exact(hf.2 _ ‹_›).2)
     |exact⟨hf,by decide⟩
     |exact⟨⟨hf,by decide⟩,by assumption⟩
     |(simp only [jh,ji];omega)
     |(exfalso;simp_all;done)
 have key3: ∀ (q:Bool),q=decide (t=qj)→(if(oneT f zjh).2=9 then(⟨400,[],⟨l,n,b,s⟩⟩:TA)
  else if(oneT f zjh).1≠verS then(⟨412,[⟨zpj,verS⟩],⟨l,n,b,s⟩⟩:TA)
  else if t=qj then(if m≠YV then(⟨405,[],⟨l,n,b,s⟩⟩:TA) else xM ⟨l,n,b,s⟩ f)
  else(if uplB ⟨l,n,b,s⟩ t=false then(⟨404,[],⟨l,n,b,s⟩⟩:TA)
  else if m=zu6 then(⟨200,zc6 (getU l (idV t)),⟨l,n,b,s⟩⟩:TA)
  else if m=zb3 then vw ⟨l,n,b,s⟩ (getU l (idV t)) f body
  else if m=zvL then U4 ⟨l,n,b,s⟩ (getU l (idV t))
  else(⟨405,[],⟨l,n,b,s⟩⟩:TA)))=⟨st,fs,⟨l',n',b',s'⟩⟩→Ok Tryz.prog X (fun o h=>o=AOut.pan (C.ifc 165 true [P.int IntKind.i64 st,P.list U.fld fs,P.list U.byte []])∧h=[HO.obj 170 [C.ptr 1 0,C.p (P.str m),C.p (P.str t),C.p (P.int IntKind.i64 mi),C.p (P.list U.fld f),C.p (P.int IntKind.i64 le)],HO.pack [HO.obj 54 [C.ptr 1 0,C.ptr 2 0],HO.pack [HO.obj 124 [C.row 1,C.p (P.int IntKind.i64 n')],HO.row U.upl 81 l'],HO.pack [HO.obj 156 [C.row 1,C.p (P.int IntKind.i64 s')],HO.row U.byte 5 b']]]) (go I tab { cfgT with seam:=[3,10],keep:=some [0,1,4,5,7,55]} [wB,wz,zN,zM,zW,zV,yE,yD,wH,wG,wF,wE,vY,vX,Zv,Zu,zbB,zbA,Vx,Vw,YM,YL] [⟨vI Tryz.f88,finK I tab { cfgT with seam:=[3,10],keep:=some [0,1,4,5,7,55]} 2 Tryz.f88⟩] 0 [1,1,0,0] ⟨[(0,.v (.one (.ptr 0 0))),(1,.v (.one (.p (.list .byte body)))),(4,.v (.one (.p (.bool q))))],[.obj 170 [.ptr 1 0,.p (.str m),.p (.str t),.p (.int .i64 mi),.p (.list .fld f),.p (.int .i64 le)],.pack [.obj 54 [.ptr 1 0,.ptr 2 0],.pack [.obj 124 [.row 1,.p (.int .i64 n)],.row .upl 81 l],.pack [.obj 156 [.row 1,.p (.int .i64 s)],.row .byte 5 b]]],84,none⟩):=by
  intro q hq hr
  refine orcL ?_;go_invoke;refine orcS (by kernel_rfl) ?_
  simp only [zi,Nat.reduceAdd];subst hI;rw [show([116,117,115,45,114,101,115,117,109,97,98,108,101]:Str)=zjh from rfl];unfold verS YV at hr;unfold zpj at hr
  have htl:zjh.length≤1000000:=by decide
  simp only [nrmA,nrmB,nrlB,reduceCtorEq,HO.pack.injEq,HO.obj.injEq];generalize oneT f zjh=oc at *;obtain⟨ov,oc⟩:=oc
  try simp only at *
  by_cases hd4:oc=9
  · rw [if_pos hd4] at hr
    simp only [TA.mk.injEq,Sto.mk.injEq] at hr;obtain⟨q1,q2,q3,q4,q5,q6⟩:=hr;subst q1 q2 q3 q4 q5 q6
    try simp only [nrmA,nrmB,nrlB,reduceCtorEq,HO.pack.injEq,HO.obj.injEq,decide_true,decide_false,je,jd,forall_const,false_implies,true_implies,jf,jg,hd4]
    (repeat' (first|refine ja ?_ ?_|intro _))<;>first|omega|exact jb|exact jc ‹False›|skip
    all_goals first
     |with_reducible rfl
     |with_reducible assumption
     |omega
     |exact hs
     |exact hf.1
     |(exact(hf.2 _ ‹_›).1)
     |(exact(hf.2 _ ‹_›).2)
     |exact⟨hf,by decide⟩
     |exact⟨⟨hf,by decide⟩,by assumption⟩
     |(simp only [jh,ji];omega)
     |(exfalso;simp_all;done)
  rw [if_neg hd4] at hr
  try simp only [Bool.not_eq_false,ne_eq,Decidable.not_not] at hd4
  try simp only [nrmA,nrmB,nrlB,reduceCtorEq,HO.pack.injEq,HO.obj.injEq,decide_true,decide_false,je,jd,forall_const,false_implies,true_implies,jf,jg,hd4]
  by_cases hd5:ov≠[49,46,48,46,48]
  · rw [if_pos hd5] at hr
    simp only [TA.mk.injEq,Sto.mk.injEq] at hr;obtain⟨q1,q2,q3,q4,q5,q6⟩:=hr;subst q1 q2 q3 q4 q5 q6
    try simp only [nrmA,nrmB,nrlB,reduceCtorEq,HO.pack.injEq,HO.obj.injEq,decide_true,decide_false,je,jd,forall_const,false_implies,true_implies,jf,jg,hd5]
    (repeat' (first|refine ja ?_ ?_|intro _))<;>first|omega|exact jb|exact jc ‹False›|skip
    all_goals first
     |with_reducible rfl
     |with_reducible assumption
     |omega
     |exact hs
     |exact hf.1
     |(exact(hf.2 _ ‹_›).1)
     |(exact(hf.2 _ ‹_›).2)
     |exact⟨hf,by decide⟩
     |exact⟨⟨hf,by decide⟩,by assumption⟩
     |(simp only [jh,ji];omega)
     |(exfalso;simp_all;done)
  rw [if_neg hd5] at hr
  try simp only [Bool.not_eq_false,ne_eq,Decidable.not_not] at hd5
  try simp only [nrmA,nrmB,nrlB,reduceCtorEq,HO.pack.injEq,HO.obj.injEq,decide_true,decide_false,je,jd,forall_const,false_implies,true_implies,jf,jg,hd5]
  by_cases hff:t=qj
  · rw [if_pos hff] at hr
    rw [decide_eq_true hff] at hq;subst hq;simp only [nrmA,nrmB,nrlB,reduceCtorEq,HO.pack.injEq,HO.obj.injEq,decide_true,decide_false,je,jd,forall_const,false_implies,true_implies,jf,jg]
    by_cases hd6:m≠[80,79,83,84]
    · rw [if_pos hd6] at hr
      simp only [TA.mk.injEq,Sto.mk.injEq] at hr;obtain⟨q1,q2,q3,q4,q5,q6⟩:=hr;subst q1 q2 q3 q4 q5 q6
      try simp only [nrmA,nrmB,nrlB,reduceCtorEq,HO.pack.injEq,HO.obj.injEq,decide_true,decide_false,je,jd,forall_const,false_implies,true_implies,jf,jg,hd6]
      (repeat' (first|refine ja ?_ ?_|intro _))<;>first|omega|exact jb|exact jc ‹False›|skip
      all_goals first
       |with_reducible rfl
       |with_reducible assumption
       |omega
       |exact hs
       |exact hf.1
       |(exact(hf.2 _ ‹_›).1)
       |(exact(hf.2 _ ‹_›).2)
       |exact⟨hf,by decide⟩
       |exact⟨⟨hf,by decide⟩,by assumption⟩
       |(simp only [jh,ji];omega)
       |(exfalso;simp_all;done)
    rw [if_neg hd6] at hr
    try simp only [Bool.not_eq_false,ne_eq,Decidable.not_not] at hd6
    try simp only [nrmA,nrmB,nrlB,reduceCtorEq,HO.pack.injEq,HO.obj.injEq,decide_true,decide_false,je,jd,forall_const,false_implies,true_implies,jf,jg,hd6]
    simp only [nrmA,nrmB,nrlB,reduceCtorEq,HO.pack.injEq,HO.obj.injEq,decide_true,decide_false,je,jd,forall_const,false_implies,true_implies,jf,jg,hr]
    (repeat' (first|refine ja ?_ ?_|intro _))<;>first|omega|exact jb|exact jc ‹False›|skip
    all_goals first
     |with_reducible rfl
     |with_reducible assumption
     |omega
     |exact hs
     |exact hf.1
     |(exact(hf.2 _ ‹_›).1)
     |(exact(hf.2 _ ‹_›).2)
     |exact⟨hf,by decide⟩
     |exact⟨⟨hf,by decide⟩,by assumption⟩
     |(simp only [jh,ji];omega)
     |(exfalso;simp_all;done)
  · rw [if_neg hff] at hr
    rw [decide_eq_false hff] at hq;subst hq;simp only [nrmA,nrmB,nrlB,reduceCtorEq,HO.pack.injEq,HO.obj.injEq,decide_true,decide_false,je,jd,forall_const,false_implies,true_implies,jf,jg]
    (repeat' (first|refine ja ?_ ?_|intro _))<;>first|omega|exact jb|exact jc ‹False›|skip
    all_goals first
     |((with_reducible show Ok _ _ _ _);(try(exfalso;omega));exact seam rfl uT mixed [wB,wz,zN,zM,zW,zV,yE,yD,wH,wG,wF,wE,vY,vX,Zv,Zu,zbB,zbA,Vx,Vw,YM,YL] hX [0,1] ⟨[(0,.v (.one (.ptr 0 0))),(1,.v (.one (.p (.list .byte body))))],[.obj 170 [.ptr 1 0,.p (.str m),.p (.str t),.p (.int .i64 mi),.p (.list .fld f),.p (.int .i64 le)],.pack [.obj 54 [.ptr 1 0,.ptr 2 0],.pack [.obj 124 [.row 1,.p (.int .i64 n)],.row .upl 81 l],.pack [.obj 156 [.row 1,.p (.int .i64 s)],.row .byte 5 b]]],84,none⟩ (by kernel_rfl) (key10 () hr))
     |with_reducible rfl
     |with_reducible assumption
     |omega
     |exact hs
     |exact hf.1
     |(exact(hf.2 _ ‹_›).1)
     |(exact(hf.2 _ ‹_›).2)
     |exact⟨hf,by decide⟩
     |exact⟨⟨hf,by decide⟩,by assumption⟩
     |(simp only [jh,ji];omega)
     |(exfalso;simp_all;done)
 clear key10;subst hI;unfold zzf zpj verS zyF zyH zyG at hr;rw [show([47,102,105,108,101,115]:Str)=qj from rfl];simp only [nrmA,nrmB,nrlB,reduceCtorEq,HO.pack.injEq,HO.obj.injEq]
 by_cases hd7:t=qj∧m=[79,80,84,73,79,78,83]
 · rw [if_pos hd7] at hr
   simp only [TA.mk.injEq,Sto.mk.injEq] at hr;obtain⟨q1,q2,q3,q4,q5,q6⟩:=hr;subst q1 q2 q3 q4 q5 q6
   try simp only [nrmA,nrmB,nrlB,reduceCtorEq,HO.pack.injEq,HO.obj.injEq,decide_true,decide_false,je,jd,forall_const,false_implies,true_implies,jf,jg,hd7]
   (repeat' (first|refine ja ?_ ?_|intro _))<;>first|omega|exact jb|exact jc ‹False›|skip
   all_goals first
    |with_reducible rfl
    |with_reducible assumption
    |omega
    |exact hs
    |exact hf.1
    |(exact(hf.2 _ ‹_›).1)
    |(exact(hf.2 _ ‹_›).2)
    |exact⟨hf,by decide⟩
    |exact⟨⟨hf,by decide⟩,by assumption⟩
    |(simp only [jh,ji];omega)
    |(exfalso;simp_all;done)
 rw [if_neg hd7] at hr
 try simp only [Bool.not_eq_false,ne_eq,Decidable.not_not] at hd7
 try simp only [nrmA,nrmB,nrlB,reduceCtorEq,HO.pack.injEq,HO.obj.injEq,decide_true,decide_false,je,jd,forall_const,false_implies,true_implies,jf,jg,hd7]
 have hbeq:(t == qj)=decide (t=qj):=by rw [Bool.eq_iff_iff];simp
 (repeat' (first|refine ja ?_ ?_|intro _))<;>first|omega|exact jb|exact jc ‹False›|skip
 all_goals first
  |((with_reducible show Ok _ _ _ _);(try(exfalso;omega));exact seam rfl uT mixed [wB,wz,zN,zM,zW,zV,yE,yD,wH,wG,wF,wE,vY,vX,Zv,Zu,zbB,zbA,Vx,Vw,YM,YL] hX [0,1,4] ⟨[(0,.v (.one (.ptr 0 0))),(1,.v (.one (.p (.list .byte body)))),(4,.v (.one (.p (.bool ((t == qj))))))],[.obj 170 [.ptr 1 0,.p (.str m),.p (.str t),.p (.int .i64 mi),.p (.list .fld f),.p (.int .i64 le)],.pack [.obj 54 [.ptr 1 0,.ptr 2 0],.pack [.obj 124 [.row 1,.p (.int .i64 n)],.row .upl 81 l],.pack [.obj 156 [.row 1,.p (.int .i64 s)],.row .byte 5 b]]],84,none⟩ (by kernel_rfl) (key3 _ hbeq hr))
  |with_reducible rfl
  |with_reducible assumption
  |omega
  |exact hs
  |exact hf.1
  |(exact(hf.2 _ ‹_›).1)
  |(exact(hf.2 _ ‹_›).2)
  |exact⟨hf,by decide⟩
  |exact⟨⟨hf,by decide⟩,by assumption⟩
  |(simp only [jh,ji];omega)
  |(exfalso;simp_all;done)
def zpu:Know Tryz.prog:=⟨88,Vy,zgx⟩
def zpt:Know Tryz.prog:=⟨88,fun I=>zx I (Vy I),zf zgx⟩
end Go.Proofs.YtkjepecoodjbmaaGreatDoor
namespace Go.Proofs.YtkjepecoodjbmaaGreatDoor
open Go Go.Sep Go.Ab
set_option maxRecDepth 100000
theorem te {c:Prop} [Decidable c] {a b:TA} (ha:a.fs.length≤4) (hb:b.fs.length≤4):(if c then a else b).fs.length≤4:=by split<;>assumption
theorem zds (q:Sto) (m t:Str) (f:List Fld) (body:Str):(yG q m t f body).fs.length≤4:=by
 have h1:(xM q f).fs.length≤4:=by
  unfold xM
  repeat' split
  all_goals simp
 have h2: ∀ u,(vw q u f body).fs.length≤4:=fun u=>by
  unfold vw
  repeat' refine te ?_ ?_
  all_goals simp
 have h3: ∀ u,(U4 q u).fs.length≤4:=fun u=>by unfold U4;split<;>simp
 have h4: ∀ u,(zc6 u).length≤4:=fun u=>by unfold zc6;split<;>simp
 unfold yG
 repeat' split
 all_goals first|exact h1|exact h2 _|exact h3 _|exact h4 _|simp
theorem zyO (m t:Str) (mi:Int) (f:List Fld) (le:Int) (l:List Upl) (n:Int) (b:Str) (s st:Int) (fs:List Fld) (hfs:fs.length≤1000):SpcD Tryz.prog 86 [.ptr 2 0] (.pan (.ifc 165 true [.int .i64 st,.list .fld fs,.list .byte []])) [.pack [.obj 54 [.ptr 1 0,.ptr 2 0],.pack [.obj 124 [.row 1,.p (.int .i64 n)],.row .upl 81 l],.pack [.obj 156 [.row 1,.p (.int .i64 s)],.row .byte 5 b]],.obj 30 [.p (.str m),.p (.str t),.p (.int .i64 mi),.p (.list .fld f),.p (.int .i64 le)],.obj 128 [.p (.int .i64 0),.nilS,.nilS],.obj 170 [.ptr 0 0,.p (.str m),.p (.str t),.p (.int .i64 mi),.p (.list .fld f),.p (.int .i64 le)]] .ret [.pack [.obj 54 [.ptr 1 0,.ptr 2 0],.pack [.obj 124 [.row 1,.p (.int .i64 n)],.row .upl 81 l],.pack [.obj 156 [.row 1,.p (.int .i64 s)],.row .byte 5 b]],.pack [.obj 30 [.p (.str m),.p (.str t),.p (.int .i64 mi),.p (.list .fld f),.p (.int .i64 le)]],.pack [.obj 128 [.p (.int .i64 st),.row 1,.p (.list .byte [])],.row .fld 108 (resT::fs)],.obj 170 [.ptr 0 0,.p (.str m),.p (.str t),.p (.int .i64 mi),.p (.list .fld f),.p (.int .i64 le)]]:=by
 refine TR uT mixed Tryz.func86 (by kernel_rfl) cfgT [yE,yD] (rest:=_) rfl (by kernel_rfl) ?_
 intro I X hI hX
 refine orcL ?_;go_invoke;refine orcS (by kernel_rfl) ?_
 simp only [zi,Nat.reduceAdd];subst hI;simp only [nrmA,nrmB,nrlB,reduceCtorEq,HO.pack.injEq,HO.obj.injEq,jh,ji,List.cons_append,List.nil_append];unfold resT zyD verS
 (repeat' (first|refine ja ?_ ?_|intro _))<;>first|omega|exact jb|exact jc ‹False›|skip
 all_goals first|omega|trivial|rfl|trace_state
def zAj:Door Tryz.prog where
 g:=86
 c :=fun _ m caps hp=>match m,caps,hp with
   |.pan (.ifc 165 true [.int .i64 st,.list .fld fs,.list .byte bb]),[.ptr 2 0],[.pack [.obj 54 [.ptr 1 0,.ptr 2 0],.pack [.obj 124 [.row 1,.p (.int .i64 n)],.row .upl 81 l],.pack [.obj 156 [.row 1,.p (.int .i64 s)],.row .byte 5 b]],.obj 30 [.p (.str m),.p (.str t),.p (.int .i64 mi),.p (.list .fld f),.p (.int .i64 le)],.obj 128 [.p (.int .i64 z0),.nilS,.nilS],.obj 170 [.ptr 0 0,.p (.str m1),.p (.str t1),.p (.int .i64 mi1),.p (.list .fld f1),.p (.int .i64 le1)]]=>some (fs.length≤1000∧bb=[]∧z0=0∧m1=m∧t1=t∧mi1=mi∧f1=f∧le1=le,.ret,[.pack [.obj 54 [.ptr 1 0,.ptr 2 0],.pack [.obj 124 [.row 1,.p (.int .i64 n)],.row .upl 81 l],.pack [.obj 156 [.row 1,.p (.int .i64 s)],.row .byte 5 b]],.pack [.obj 30 [.p (.str m),.p (.str t),.p (.int .i64 mi),.p (.list .fld f),.p (.int .i64 le)]],.pack [.obj 128 [.p (.int .i64 st),.row 1,.p (.list .byte [])],.row .fld 108 (resT::fs)],.obj 170 [.ptr 0 0,.p (.str m),.p (.str t),.p (.int .i64 mi),.p (.list .fld f),.p (.int .i64 le)]])
   |_,_,_=>none
 ok:=by
  intro m caps hp p m' hp' h hp1
  split at h
  · cases h
    obtain⟨h1,rfl,rfl,rfl,rfl,rfl,rfl,rfl⟩:=hp1;exact zyO _ _ _ _ _ _ _ _ _ _ _ h1
  · cases h
def zle (I:Alg):KU
 |[.v (.one (.ptr 0 0)),.v (.agg [.p (.str m),.p (.str t),.p (.int .i64 mi),.p (.list .fld f),.p (.int .i64 le)]),.v (.one (.p (.list .byte body)))],[.pack [.obj 54 [.ptr 1 0,.ptr 2 0],.pack [.obj 124 [.row 1,.p (.int .i64 n)],.row .upl 81 l],.pack [.obj 156 [.row 1,.p (.int .i64 s)],.row .byte 5 b]]]=>(fun(m t:Str) (f:List Fld) (l:List Upl) (b body:Str)=>(some (.one ⟨I.hid (FOk f∧zL l n∧n≤200000∧b.length≤100000∧body.length≤100000),(.ret (.v (.agg [.p (.int .i64 (I.hid ((yG ⟨l,n,b,s⟩ m t f body).st))),.p (.list .fld (I.hid (resT::(yG ⟨l,n,b,s⟩ m t f body).fs))),.p (.list .byte (I.hid ([])))]))),[.pack [.obj 54 [.ptr 1 0,.ptr 2 0],.pack [.obj 124 [.row 1,.p (.int .i64 (I.hid ((yG ⟨l,n,b,s⟩ m t f body).q.n)))],.row .upl 81 (I.hid ((yG ⟨l,n,b,s⟩ m t f body).q.l))],.pack [.obj 156 [.row 1,.p (.int .i64 (I.hid ((yG ⟨l,n,b,s⟩ m t f body).q.s)))],.row .byte 5 (I.hid ((yG ⟨l,n,b,s⟩ m t f body).q.b))]]]⟩):Option CT)) m t f l b body
 |_,_=>none
theorem zv1:zu Tryz.prog 49 (zle alg):=by
 intro args hp r h;unfold zle at h;split at h<;>cases h
 rename_i m t mi f le body n l s b
 revert f l;intro(f:List Fld) (l:List Upl)
 simp only [CT.Good,zh];intro hneed;have hfew:=zds ⟨l,n,b,s⟩ m t f body;generalize hr:yG ⟨l,n,b,s⟩ m t f body=r at hfew;obtain⟨st,fs,⟨l',n',b',s'⟩⟩:=r
 refine zyQ uT mixed Tryz.func49 (by kernel_rfl) { cfgT with keep:=some [0,1,2,4,6,7]} [zpu,zpt] zAj (by kernel_rfl) ?_
 intro I X hI hX
 refine orcL ?_;go_invoke;refine orcS (by kernel_rfl) ?_
 simp only [zi,Nat.reduceAdd];subst hI;simp only at hfew;simp only [nrmA,nrmB,nrlB,reduceCtorEq,V0.agg.injEq,HO.pack.injEq,HO.obj.injEq];simp only [hr]
 (repeat' (first|refine ja ?_ ?_|intro _))<;>first|omega|exact jb|exact jc ‹False›|skip
 all_goals first|omega|rfl|assumption|exact hneed.2.1|exact hneed.1.1|(exact(hneed.1.2 _ ‹_›).1)|(exact(hneed.1.2 _ ‹_›).2)|trace_state
def zpC:Know Tryz.prog:=⟨49,zle,zv1⟩
def zpB:Know Tryz.prog:=⟨49,fun I=>zx I (zle I),zf zv1⟩
def zhd (t:Str):Bool:=decide (t=qj)||Lib.hasPrefix t vH
def Q5 (I:Alg):KU
 |[.v (.one (.p (.str t)))],[]=>(fun(t:Str)=>(some (.one ⟨I.hid (t.length≤1000000),(.ret (.v (.one (.p (.bool (I.hid (zhd t))))))),[]⟩):Option CT)) t
 |_,_=>none
theorem zlc:zu Tryz.prog 124 (Q5 alg):=by
 intro args hp r h;unfold Q5 at h;split at h<;>cases h
 rename_i t;simp only [CT.Good,zh];intro hneed;generalize hr:zhd t=r;unfold zhd at hr
 refine spH Tryz.func124 (by kernel_rfl) { cfgT with keep:=some [0,2]} [xO,xN] (by kernel_rfl) ?_
 intro I X hI hX
 refine orcL ?_;go_invoke;refine orcS (by kernel_rfl) ?_
 simp only [zi,Nat.reduceAdd];subst hI;rw [show([47,102,105,108,101,115]:Str)=qj from rfl]
 try rw [show([47,102,105,108,101,115,47]:Str)=vH from rfl]
 simp only [nrmA,nrmB,nrlB,reduceCtorEq,V0.agg.injEq]
 by_cases h1:t=qj
 · rw [decide_eq_true h1,Bool.true_or] at hr
   subst hr;simp only [nrmA,nrmB,nrlB,reduceCtorEq,h1]
   (repeat' (first|refine ja ?_ ?_|intro _))<;>first|omega|exact jb|exact jc ‹False›|skip
   all_goals first|omega|rfl|assumption|(simp_all;done)|trace_state
 · rw [decide_eq_false h1,Bool.false_or] at hr
   simp only [nrmA,nrmB,nrlB,reduceCtorEq,h1]
   (repeat' (first|refine ja ?_ ?_|intro _))<;>first|omega|exact jb|exact jc ‹False›|skip
   all_goals first|omega|rfl|assumption|(simp_all;done)|trace_state
def ztL:Know Tryz.prog:=⟨124,Q5,zlc⟩
def ztK:Know Tryz.prog:=⟨124,fun I=>zx I (Q5 I),zf zlc⟩
end Go.Proofs.YtkjepecoodjbmaaGreatDoor
namespace Go.Proofs.YtkjepecoodjbmaaGreatDoor
open Go Go.Sep Go.Ab
def zzF:Str:=[47,102,111,114,109]
def zoL:Str:=[102,105,108,101,110,97,109,101,32]
def zzo:Str:=[109,117,108,116,105,112,97,114,116,47,102,111,114,109,45,100,97,116,97]
def bndT:Str:=[98,111,117,110,100,97,114,121]
structure GA where
 r:Rpl
 q:Sto
def TG (st:Int):Rpl:=⟨st,[],[]⟩
def rV (f:List Fld) (body:Str):List Prt × Int:=
 if(oneT f Yk).2≠0 then([],415)
 else if(x9 (oneT f Yk).1).2≠0∨(x9 (oneT f Yk).1).1.word≠zzo∨(getP (x9 (oneT f Yk).1).1.params bndT).2=false then([],415)
 else if(YU (getP (x9 (oneT f Yk).1).1.params bndT).1 body).2≠0 then([],400)
 else((YU (getP (x9 (oneT f Yk).1).1.params bndT).1 body).1,0)
def apCd (q:Sto) (id off:Int) (x:Str):Int:=if apG q.l id off then 17 else wsC q (apE id x)
def apQ (q:Sto) (id off:Int) (x:Str):Sto:=if apG q.l id off then q else wsS q (apE id x)
def zdd (id:Int):Ent:=⟨4,id,0,[]⟩
def su (q:Sto) (p:Prt):Ent:=creE q (p.bytes.length:Int) (zoL++p.file)
def zfE (q:Sto) (p:Prt):Int:=if wsC q (su q p)≠0 then wsC q (su q p) else apCd (wsS q (su q p)) (q.n+1) 0 p.bytes
def sU (q:Sto) (p:Prt):Sto:=
 if wsC q (su q p)≠0 then wsS q (su q p)
 else if apCd (wsS q (su q p)) (q.n+1) 0 p.bytes≠0 then wsS (apQ (wsS q (su q p)) (q.n+1) 0 p.bytes) (zdd (q.n+1))
 else apQ (wsS q (su q p)) (q.n+1) 0 p.bytes
def WR (q:Sto):List Int→Sto
 |[]=>q
 |k::r=>WR (wsS q (zdd k)) r
def znW (t:Str) (id:Int) (p:Prt):Str:=t++(decS id++[32]++p.file++[10])
def um (q:Sto) (ids:List Int) (t:Str):List Prt→GA
 |[]=>⟨⟨201,[],t⟩,syS q⟩
 | p::r=>
   if p.file=[] then um q ids t r
   else if zfE q p≠0 then⟨TG (if zfE q p=4 then 413 else 507),syS (WR (sU q p) ids)⟩
   else um (sU q p) (ids++[q.n+1]) (znW t (q.n+1) p) r
def WX:List Prt→Int
 |[]=>0
 |p::r=>((p.bytes.length:Int)+200)+WX r
def WG (q:Sto) (f:List Fld) (body:Str):GA:=
 if(rV f body).2≠0 then⟨TG (rV f body).2,q⟩
 else if TY q.b (WX (rV f body).1)=false then⟨TG 507,q⟩
 else um q [] [] (rV f body).1
def rplT (x:TA):Rpl:=⟨x.st,resT::x.fs,[]⟩
def ansG (q:Sto) (m t:Str) (f:List Fld) (body:Str):GA:=
 if zhd t then⟨rplT (yG q m t f body),(yG q m t f body).q⟩
 else if t≠zzF then⟨TG 404,q⟩
 else if m≠YV then⟨TG 405,q⟩
 else WG q f body
def ziY (r:Rpl):Str:=writeT r.status r.fields r.body
structure GE where
 q:Sto
 h:Hd
 b:Str
 i:Bool
 w:Bool
 o:Str
def zzR (c:Int):Rpl:=TG (if c=4 then 413 else 400)
def evG (x:GE) (e:Evt):GE:=
 if e.kind=1 then { x with h:=e.head,b:=[],i:=true,w:=true}
 else if e.kind=2 then { x with b:=x.b++e.bytes}
 else if e.kind=3 then⟨(ansG x.q x.h.method x.h.target x.h.fields x.b).q,x.h,x.b,false,false,x.o++ziY (ansG x.q x.h.method x.h.target x.h.fields x.b).r⟩
 else if e.kind=4 then { x with i:=false,o:=x.o++ziY (zzR e.code)}
 else x
def evsG (x:GE) (l:List Evt):GE:=l.foldl evG x
def fedE (q:Sto) (c:Cn) (b:Str):GE:=evsG ⟨q,c.h,c.body,c.live,c.own,[]⟩ (yO (zT c.q b).out)
def fedC (q:Sto) (c:Cn) (b:Str):Cn:=⟨zT c.q b,(fedE q c b).h,(fedE q c b).b,(fedE q c b).i,(fedE q c b).w⟩
def cn0:Cn:=⟨rq0,hd0,[],false,true⟩
structure GS where
 q:Sto
 c0:Cn
 c1:Cn
 c2:Cn
 c3:Cn
def GS.at (g:GS) (k:Int):Cn:=if k=0 then g.c0 else if k=1 then g.c1 else if k=2 then g.c2 else g.c3
def GS.put (g:GS) (k:Int) (c:Cn) (q:Sto):GS:=⟨q,if k=0 then c else g.c0,if k=1 then c else g.c1,if k=2 then c else g.c2,if k=3 then c else g.c3⟩
def inG (k:Int):Bool:=decide (0≤k)&&decide (k<4)
def zu7 (c:Cn):Bool:=c.live&&(decide (c.h.method=zb3)&&(decide (c.body≠[])&&Lib.hasPrefix c.h.target vH))
def Y6 (q:Sto) (c:Cn):Sto:=if zu7 c then(yG q c.h.method c.h.target c.h.fields c.body).q else q
def gs0:GS:=⟨⟨[],0,[],0⟩,cn0,cn0,cn0,cn0⟩
end Go.Proofs.YtkjepecoodjbmaaGreatDoor
namespace Go.Proofs.YtkjepecoodjbmaaGreatDoor
open Go Go.Sep Go.Ab
set_option maxRecDepth 100000
def zeL (I:Alg):KU
 |[.v (.one (.p (.int .i64 n)))],[]=>some (.one ⟨I.hid (True),(.ret (.v (.one (.p (.str (I.hid (TP n))))))),[]⟩)
 |_,_=>none
theorem zpe:zu Tryz.prog 174 (zeL alg):=by
 intro args hp r h;unfold zeL at h;split at h<;>cases h
 rename_i n;simp only [CT.Good,zh];intro _;generalize hr:TP n=r
 refine spH Tryz.func174 (by kernel_rfl) { keep:=some [0,2,3]} [] (by kernel_rfl) ?_
 intro I X hI hX
 refine orcL ?_;go_invoke;refine orcS (by kernel_rfl) ?_
 simp only [zi,Nat.reduceAdd];subst hI;simp only [nrmA,nrmB];unfold TP at hr
 (repeat' (first|refine ja ?_ ?_|intro _))<;>first|omega|exact jb|exact jc ‹False›|skip
 all_goals((repeat(first|rewrite [if_pos (by first|omega|assumption|(simp only [*,or_self,or_true,true_or,or_false,false_or,jf,jg,jd,je,and_self,and_true,true_and];done)|(simp only [*];omega)|(simp [*];done)|(simp [*];omega))] at hr|rewrite [if_neg (by first|omega|assumption|(simp only [*,or_self,or_true,true_or,or_false,false_or,jf,jg,jd,je,and_self,and_true,true_and];done)|(simp only [*];omega)|(simp [*];done)|(simp [*];omega))] at hr));exact hr)
def zpd:Know Tryz.prog:=⟨174,zeL,zpe⟩
def zpc:Know Tryz.prog:=⟨174,fun I=>zx I (zeL I),zf zpe⟩
theorem zi3 {fs:List Fld} {i:Nat} (h:i<fs.length):badF (fs.drop i)=if(textF (fs.getD i ⟨[],[]⟩)).2=0 then badF (fs.drop (i+1)) else(textF (fs.getD i ⟨[],[]⟩)).2:=by
 rw [jE h,badF];simp [h]
theorem zet {fs:List Fld} {i:Nat} (h:i<fs.length):xE (fs.take (i+1))=xE (fs.take i)++(textF (fs.getD i ⟨[],[]⟩)).1++[13,10]:=by
 rw [jB h,zsj];simp [xE,h]
theorem zrP {st:Int} (h:TP st≠[]):(zj6 st).length≤100:=by
 have:=xq st;have:=(zbn h).2.2;unfold zj6
 simp;omega
def V8 (I:Alg):KU
 |[.v (.agg [.p (.int .i64 st),.p (.list .fld fs),.p (.list .byte b)])],[]=>(fun(fs:List Fld) (b:Str)=>(some (.one ⟨I.hid ((fs.length≤100∧∀ f ∈ fs,f.name.length≤1000000∧f.value.length≤1000000)∧b.length≤9000),(.ret (.tup [.one (.p (.list .byte (I.hid (writeT st fs b)))),.one (.p (.int .i64 (I.hid (zdh st fs))))])),[]⟩):Option CT)) fs b
 |_,_=>none
set_option maxHeartbeats 4000000 in
theorem zg3:zu Tryz.prog 123 (V8 alg):=by
 intro args hp r h;unfold V8 at h;split at h<;>cases h
 rename_i st fs b
 revert fs;intro(fs:List Fld)
 simp only [CT.Good,zh];intro hneed;obtain⟨⟨hfl,hf⟩,hb⟩:=hneed;generalize hc:zdh st fs=c;generalize ht:writeT st fs b=t;have hwf:=zbn (n:=st);have hdl:=xq st;have hhl:=zrP (st:=st);have hbl:=xq (b.length:Int);have hclen:[99,111,110,116,101,110,116,45,108,101,110,103,116,104]=zyn:=rfl
 refine spH Tryz.func123 (by kernel_rfl) { rl:=[0],keep:=some [0,1,2,3,4,6,7,8,37,38,39]} [zeQ,zeP,Vo,Vm,Zj,Zi,zpd,zpc] (by kernel_rfl) ?_
 intro I X hI hX
 refine orcL ?_;go_invoke;refine orcS (by kernel_rfl) ?_
 simp only [zi,Nat.reduceAdd];rw [hclen]
 (repeat' (first|refine ja ?_ ?_|intro _))
 all_goals try(subst hI;(simp only [nrmA,nrmB,nrlB,reduceCtorEq] at *);first|done|trivial|(unfold writeT at ht;unfold zdh at ht hc;((repeat(first|rewrite [if_pos (by first|omega|assumption|(simp only [*,or_self,or_true,true_or,or_false,false_or,jf,jg,jd,je,and_self,and_true,true_and];done)|(simp only [*];omega)|(simp [*];done)|(simp [*];omega))] at hc|rewrite [if_neg (by first|omega|assumption|(simp only [*,or_self,or_true,true_or,or_false,false_or,jf,jg,jd,je,and_self,and_true,true_and];done)|(simp only [*];omega)|(simp [*];done)|(simp [*];omega))] at hc)));subst hc;((repeat(first|rewrite [if_pos (by first|omega|assumption|(simp only [*,or_self,or_true,true_or,or_false,false_or,jf,jg,jd,je,and_self,and_true,true_and];done)|(simp only [*];omega)|(simp [*];done)|(simp [*];omega))] at ht|rewrite [if_neg (by first|omega|assumption|(simp only [*,or_self,or_true,true_or,or_false,false_or,jf,jg,jd,je,and_self,and_true,true_and];done)|(simp only [*];omega)|(simp [*];done)|(simp [*];omega))] at ht)));subst ht;exact⟨rfl,rfl⟩)|(have:=hwf ‹_›;simp only [jk,jh,ji];omega)|(have:=hwf ‹_›;omega)|exact⟨by omega,by decide,hf⟩)
 have hok:TP st≠[]∧fs.length<16∧¬ 0<(valsF fs zyn).length:=by
  subst hI;simp only [nrmA,nrmB,nrlB,reduceCtorEq] at *
  exact⟨by assumption,by omega,by omega⟩
 have hc2:c=badF fs:=by
  rw [← hc,zdh,if_neg hok.1,if_neg (by omega),if_neg hok.2.2]
 have ht2:badF fs=0→t=zj6 st++xE fs++YE b.length++b:=fun h=>by
  rw [← ht,writeT,hc,hc2,if_pos h]
 have ht3:badF fs≠0→t=[]:=fun h=>by rw [← ht,writeT,hc,hc2,if_neg h]
 refine lpH hI [zeQ,zeP,Vo,Vm,Zj,Zi,zpd,zpc] hX [1,3,4,37,38,39] (fun(g:Nat × Str)=>match g with|(i,o)=>i≤fs.length∧o=zj6 st++xE (fs.take i)∧badF fs=badF (fs.drop i)) (fun(g:Nat × Str)=>match g with|(i,o)=>⟨[(1,.v (.one (.ptr 0 0))),(3,.v (.one (.p (.int .i64 0)))),(4,.v (.one (.row 1))),(37,.v (.one (.p (.list .fld fs)))),(38,.v (.one (.p (.int .i64 ((I.len (α:=Fld) fs)))))),(39,.v (.one (.p (.int .i64 i))))],[.pack [.obj 128 [.p (.int .i64 st),.p (.list .fld fs),.p (.list .byte b)]],.row .byte 5 o],68,none⟩) (fun(g:Nat × Str)=>match g with|(i,o)=>fs.length - i) (0,(I.app (I.app (I.app (I.app ([72,84,84,80,47,49,46,49,32]:Str) (I.hid (decS st))) [32]) (I.hid (TP st))) [13,10])) (by kernel_rfl) (by kernel_rfl) ?_ ?_
 · refine⟨jM _,?_,rfl⟩
   subst hI;simp only [Xm,zh,zj6,List.take_zero,xE,List.append_nil]
 rintro⟨i,o⟩ ⟨h1,h2,h3⟩ A hA;simp only at hA h1 h2 h3
 refine orcL ?_;go_invoke;refine orcS (by kernel_rfl) ?_
 simp only [zi,Nat.reduceAdd];subst hI;simp only [nrmA,nrmB,nrlB,reduceCtorEq]
 have hx:i<fs.length→(fs.getD i ⟨[],[]⟩) ∈ fs:=fun h=>by rw [show fs.getD i ⟨[],[]⟩=fs[i] by simp [h]];exact List.getElem_mem h
 have hd:i<fs.length→_:=fun h=>zi3 (fs:=fs) (i:=i) h;have hk:i<fs.length→_:=fun h=>zet (fs:=fs) (i:=i) h
 have hol:(xE (fs.take i)).length≤202 * 16:=by
  have:=Xa (fs.take i);rw [jv] at this;have:=hok.2.1;omega
 have hhl:=hhl hok.1
 have hol2:o.length≤4000:=by rw [h2,jk];omega
 have hend: ¬ i<fs.length→badF fs=0∧xE (fs.take i)=xE fs:=fun h=>by
  rw [h3,jF (by omega),jq (by omega)];exact⟨rfl,rfl⟩
 have hfi:=fun h=>hf _ (hx h);have htl:=fun f=>zby f;generalize fs.getD i ⟨[],[]⟩=x at *;have e0:(⟨x.name,x.value⟩:Fld)=x:=rfl;rw [e0];have htl:=htl x
 refine⟨fun c1=>⟨⟨by omega,by omega⟩,⟨by omega,by omega⟩,hfi (by omega),fun c2=> ?_,fun c2=>⟨?_,?_,by omega,?_⟩⟩,fun c1=> ?_⟩
 · have hd:=hd (by omega)
   rw [if_neg c2] at hd
   exact⟨(ht3 (by rw [h3,hd];exact c2)).symm,by rw [hc2,h3,hd]⟩
 · simp only [jh,ji];omega
 · simp only [jk,jh,ji];omega
 · have hd:=hd (by omega)
   rw [if_pos c2] at hd
   exact hA (i+1,o++((textF x).1++[13,10])) ⟨by simp only;omega,by simp only;rw [hk (by omega),h2];simp only [jo],by simp only;rw [h3,hd]⟩ (by simp only;omega)
 · obtain⟨e1,e2⟩:=hend (by omega)
   simp only [jk,jh,ji]
   refine⟨by omega,by omega,by omega,by omega,by omega,?_,by rw [hc2,e1]⟩
   rw [ht2 e1,h2,e2];unfold YE;simp only [jo]
def zqO:Know Tryz.prog:=⟨123,V8,zg3⟩
def zqN:Know Tryz.prog:=⟨123,fun I=>zx I (V8 I),zf zg3⟩
end Go.Proofs.YtkjepecoodjbmaaGreatDoor
namespace Go.Proofs.YtkjepecoodjbmaaGreatDoor
open Go Go.Sep Go.Ab
set_option maxRecDepth 100000
def zcS (s p:Str):Str × Bool:=if s.length<p.length∨lowS (s.take p.length)≠p then([],false) else(s.drop p.length,true)
def zfW (I:Alg):KU
 |[.v (.one (.p (.str s))),.v (.one (.p (.str p)))],[]=>(fun(s p:Str)=>(some (.one ⟨I.hid (s.length≤1000000∧p.length≤100),(.ret (.tup [.one (.p (.str (I.hid ((zcS s p).1)))),.one (.p (.bool (I.hid ((zcS s p).2))))])),[]⟩):Option CT)) s p
 |_,_=>none
theorem zst:zu Tryz.prog 301 (zfW alg):=by
 intro args hp r h;unfold zfW at h;split at h<;>cases h
 rename_i s p;simp only [CT.Good,zh];intro hneed;obtain⟨h1,h2⟩:=hneed;generalize hr:zcS s p=r;obtain⟨a,k⟩:=r
 refine spH Tryz.func301 (by kernel_rfl) { keep:=some [0,1,4,5]} [wX,wW] (by kernel_rfl) ?_
 intro I X hI hX
 refine orcL ?_;go_invoke;refine orcS (by kernel_rfl) ?_
 simp only [zi,Nat.reduceAdd];subst hI;unfold zcS at hr;simp only [nrmA,nrmB,nrlB,reduceCtorEq]
 (repeat' (first|refine ja ?_ ?_|intro _))<;>first|omega|exact jb|exact jc ‹False›|skip
 all_goals first
  |omega
  |(simp only [jv];omega)
  |(rw [if_pos (Or.inl (by omega))] at hr;cases hr;rfl)
  |(rw [if_pos (Or.inr ‹_›)] at hr;cases hr;rfl)
  |(rw [if_neg (fun h=>h.elim (fun h=>by omega) (fun h=>h ‹_›))] at hr;cases hr;first|rfl|exact jq (by simp))
def zss:Know Tryz.prog:=⟨301,zfW,zst⟩
def zsr:Know Tryz.prog:=⟨301,fun I=>zx I (zfW I),zf zst⟩
theorem zAz {r:Str} {i:Nat} (h:i<r.length) (k: ¬ r.getD i 0=37):pctM (r.drop i)=(pctM (r.drop (i+1))).map (r.getD i 0:: ·):=by
 have e:r.getD i 0=r[i]:=by simp [h]
 rw [e] at k;rw [jE h,pctM.eq_def];simp only;rw [if_pos k,e]
theorem zAy {r:Str} {i:Nat} (h:i<r.length) (k:r.getD i 0=37) (h2:r.length≤i+2):pctM (r.drop i)=none:=by
 have e:r.getD i 0=r[i]:=by simp [h]
 rw [e] at k;rw [jE h,pctM.eq_def];simp only [k,ne_eq,jf,if_false]
 have hl:(r.drop (i+1)).length≤1:=by rw [jC];omega
 match hd:r.drop (i+1),hl with
 |[],_=>rfl
 |[_],_=>rfl
 |_::_::_,h=>simp at h
theorem zAA {r:Str} {i:Nat} (h:i+2<r.length) (k:r.getD i 0=37):pctM (r.drop i)=if hexK ((r.getD (i+1) 0).toNat:Int)<0∨hexK ((r.getD (i+2) 0).toNat:Int)<0 then none else(pctM (r.drop (i+3))).map (UInt8.ofNat (16 * hexK ((r.getD (i+1) 0).toNat:Int)+hexK ((r.getD (i+2) 0).toNat:Int)).toNat:: ·):=by
 have h0:i<r.length:=by omega
 have h1:i+1<r.length:=by omega
 have e0:r.getD i 0=r[i]:=by simp [h0]
 have e1:r.getD (i+1) 0=r[i+1]:=by simp [h1]
 have e2:r.getD (i+2) 0=r[i+2]:=by simp [h]
 rw [e0] at k
 rw [jE h0,jE h1,jE h,pctM,if_neg (by simp [k]),e1,e2]
def zfV (I:Alg):KU
 |[.v (.one (.p (.str s)))],[]=>(fun(s:Str)=>(some (.one ⟨I.hid (s.length≤1000000),(.ret (.tup [.one (.p (.str (I.hid (extV s)))),.one (.p (.bool (I.hid (extB s))))])),[]⟩):Option CT)) s
 |_,_=>none
theorem zsq:zu Tryz.prog 299 (zfV alg):=by
 intro args hp r h;unfold zfV at h;split at h<;>cases h
 rename_i s;simp only [CT.Good,zh];intro hneed;unfold extV extB;generalize hr:extM s=r
 refine spH Tryz.func299 (by kernel_rfl) { nr:=[6],keep:=some [0,2,3,4,5,6,7]} [zd3,zd2,zss,zsr] (by kernel_rfl) ?_
 intro I X hI hX
 refine orcL ?_;go_invoke;refine orcS (by kernel_rfl) ?_
 simp only [zi,Nat.reduceAdd];rw [show([117,116,102,45,56,39,39]:Str)=utfS from rfl]
 have hc:extM s=if(zcS s utfS).2=false then none else pctM (zcS s utfS).1:=by
  unfold extM zcS
  by_cases h:s.length<7∨lowS (s.take 7)≠utfS
  · rw [if_pos h,if_pos (show s.length<utfS.length∨lowS (s.take utfS.length)≠utfS from h)];rfl
  · rw [if_neg h,if_neg (show ¬ (s.length<utfS.length∨lowS (s.take utfS.length)≠utfS) from h)];rfl
 have hl:(zcS s utfS).1.length≤1000000:=by
  unfold zcS
  split
  · simp
  · simp only [jC];omega
 rw [hc] at hr;generalize(zcS s utfS).2=k at *;generalize(zcS s utfS).1=R at *
 have h7:utfS.length≤100:=by decide
 (repeat' (first|refine ja ?_ ?_|intro _))
 all_goals try(subst hI;(simp only [nrmA,nrmB,nrlB,reduceCtorEq] at *);first|done|trivial|omega|exact⟨hneed,h7⟩|(rw [if_pos ‹_›] at hr;rw [← hr];exact⟨rfl,rfl⟩))
 have hk:k=true:=by
  subst hI;simp only [nrmA,nrmB,nrlB,reduceCtorEq] at *
  simpa using ‹_›
 rw [hk] at hr;simp only [je,if_false] at hr
 rw [show I.hid R=R by subst hI;rfl]
 refine lpH hI [zd3,zd2,zss,zsr] hX [4,6,7] (fun(g:Nat × Str)=>match g with|(i,b)=>i≤R.length∧b.length≤i∧r=(pctM (R.drop i)).map (b++ ·)) (fun(g:Nat × Str)=>match g with|(i,b)=>⟨[(4,.v (.one (.p (.str R)))),(6,.v (.one (.row 0))),(7,.v (.one (.p (.int .i64 i))))],[.row .byte 5 b],72,none⟩) (fun(g:Nat × Str)=>match g with|(i,b)=>R.length - i) (0,[]) (by kernel_rfl) (by kernel_rfl) ?_ ?_
 · refine⟨jM _,jL _,?_⟩
   rw [List.drop_zero,hr]
   cases r<;>rfl
 rintro⟨i,b⟩ ⟨h1,h2,h3⟩ A hA;simp only at hA h1 h2 h3
 refine orcL ?_;go_invoke;refine orcS (by kernel_rfl) ?_
 simp only [zi,Nat.reduceAdd];subst hI;simp only [nrmA,nrmB,nrlB,reduceCtorEq]
 have e1:((i:Int)+1).toNat=i+1:=by omega
 have e2:((i:Int)+2).toNat=i+2:=by omega
 rw [e1,e2]
 have b37:(R.getD i 0).toNat=37↔R.getD i 0=37:=⟨fun h=>UInt8.toNat_inj.1 h,fun h=>by rw [h];rfl⟩
 have g0:i<R.length→¬ R.getD i 0=37→_:=fun h k=>zAz h k;have g1:i<R.length→R.getD i 0=37→R.length≤i+2→_:=fun h k=>zAy h k;have g2:i+2<R.length→R.getD i 0=37→_:=fun h k=>zAA h k;have l0:=(R.getD i 0).toNat_lt;have l1:=(R.getD (i+1) 0).toNat_lt;have l2:=(R.getD (i+2) 0).toNat_lt
 have m1:=SL (k:=((R.getD (i+1) 0).toNat:Int)) ⟨by omega,by omega⟩
 have m2:=SL (k:=((R.getD (i+2) 0).toNat:Int)) ⟨by omega,by omega⟩
 have hend: ¬ i<R.length→r=some b:=fun h=>by rw [h3,jF (by omega)];simp [pctM]
 have hA2:=fun(c:UInt8) (j:Nat) (h:i<j) (hj:j≤R.length) (e:pctM (R.drop i)=(pctM (R.drop j)).map (c:: ·))=>hA (j,b++[c]) ⟨hj,by rw [jk,jr];omega,by rw [h3,e,Option.map_map];congr 1;funext x;simp⟩ (by simp only;omega)
 generalize R.getD i 0=x0 at *;generalize R.getD (i+1) 0=x1 at *;generalize R.getD (i+2) 0=x2 at *
 refine⟨fun c=>⟨by omega,fun c2=>⟨by omega,by omega,by simp only [jr];omega,by omega,?_⟩,fun c2=> ?_⟩,fun c=> ?_⟩
 · have:=hA2 x0 (i+1) (by omega) (by omega) (g0 (by omega) (fun h=>c2 (by have:=b37.2 h;omega)))
   simp only [Int.natCast_add,Int.natCast_one] at this;exact this
 · have hx:x0=37:=b37.1 (by omega)
   subst hx
   have gs:R.length≤i+2→r=none:=fun h=>by rw [h3,g1 (by omega) rfl h];rfl
   have gm:=fun h=>g2 h rfl
   have gn:i+2<R.length→(hexK (x1.toNat:Int)<0∨hexK (x2.toNat:Int)<0)→r=none:=fun h k=>by rw [h3,gm h,if_pos k];rfl
   have gy:i+2<R.length→¬ hexK (x1.toNat:Int)<0→¬ hexK (x2.toNat:Int)<0→_:=fun h k k2=>hA2 (UInt8.ofNat (16 * hexK (x1.toNat:Int)+hexK (x2.toNat:Int)).toNat) (i+3) (by omega) (by omega) (by rw [gm h,if_neg (fun q=>q.elim k k2)])
   have wr: ¬ hexK (x1.toNat:Int)<0→¬ hexK (x2.toNat:Int)<0→IntKind.u8.wrap (16 * hexK (x1.toNat:Int)+hexK (x2.toNat:Int))=16 * hexK (x1.toNat:Int)+hexK (x2.toNat:Int):=fun k k2=>zAh _ ⟨by omega,by omega⟩
   (repeat' (first|refine ja ?_ ?_|intro _))<;>first|omega|exact jb|exact jc ‹False›|skip
   all_goals first
    |omega
    |(rw [gs (by omega)];done)
    |(rw [gs (by omega)];rfl)
    |(rw [gn (by omega) (Or.inl ‹_›)];rfl)
    |(rw [gn (by omega) (Or.inr ‹_›)];rfl)
    |(rw [wr ‹_› ‹_›];omega)
    |(simp only [jr];omega)
    |(rw [wr ‹_› ‹_›,show(i:Int)+2+1=((i+3:Nat):Int) by omega];exact gy (by omega) ‹_› ‹_›)
 · rw [hend (by omega)]
   exact⟨rfl,rfl⟩
def zyi:Know Tryz.prog:=⟨299,zfV,zsq⟩
def zyh:Know Tryz.prog:=⟨299,fun I=>zx I (zfV I),zf zsq⟩
end Go.Proofs.YtkjepecoodjbmaaGreatDoor
namespace Go.Proofs.YtkjepecoodjbmaaGreatDoor
open Go Go.Sep Go.Ab
set_option maxRecDepth 100000
theorem zfi: ∀ (n:Nat) (r:Str),r.length≤n→∀ v,pctM r=some v→v.length≤r.length
 |n,[],_,v,h=>by rw [pctM] at h;cases h;exact jL _
 |0,c::r,h,_,_=>by simp at h
 | n + 1,c::r,hl,v,h=>by
   rw [jh] at hl;rw [pctM.eq_def] at h;simp only at h
   split at h
   · cases hp:pctM r with
     |none=>rw [hp] at h;cases h
     | some u=>
       rw [hp] at h;cases h
       have:=zfi n r (by omega) u hp
       simp only [jh];omega
   · split at h
     · rename_i a b r'
       split at h
       · cases h
       · cases hp:pctM r' with
         |none=>rw [hp] at h;cases h
         | some u=>
           rw [hp] at h;cases h
           have:=zfi n r' (by simp only [jh] at hl;omega) u hp
           simp only [jh];omega
     · cases h
theorem zvA (s:Str):(extV s).length≤s.length:=by
 unfold extV extM
 split
 · simp
 · cases h:pctM (s.drop 7) with
   |none=>simp
   | some v=>
     have:=zfi _ _ (jL _) v h;rw [jC] at this;simp only [Option.getD_some];omega
def PsOk (N:Nat) (l:List Fld):Prop:=l.length≤8∧∀ f ∈ l,f.value.length≤N
theorem zrn (N:Nat): ∀ (n:Nat) (s:Str) (ps:List Fld),s.length≤N→PsOk N ps→PsOk N (medL n s ps).2.1
 |0,s,ps,_,h=>h
 | n + 1, s,ps,hs,h=>by
   rw [medL];have h1:=vM (s.drop 1);have h2:=zfj (skS (s.drop 1));have h3:=vM (parM (skS (s.drop 1))).2.2;rw [jC] at h1
   split
   · split
     · exact h
     · split
       · exact h
       · split
         · exact h
         · rename_i h8
           refine zrn N n _ _ (by omega) ⟨by rw [jk,jr];have:=h.1;omega,fun f hf=> ?_⟩
           rcases List.mem_append.1 hf with h5|h5
           · exact h.2 f h5
           · rw [List.mem_singleton.1 h5];omega
   · split<;>exact h
theorem zg8 (s:Str):PsOk s.length (x9 s).1.params:=by
 have h0:PsOk s.length []:=⟨by decide,fun f h=>by cases h⟩
 have hb: ∀ w t:Str,t.length≤s.length→PsOk s.length (medB w t).2.1.params:=fun w t ht=>by
  have h1:=vM t
  exact zrn s.length _ _ [] (by omega) h0
 have h1:=vM s;have h2:=vV (skS s);have h3:=vV ((tokE (skS s)).drop 1);rw [jC] at h3
 have hm:PsOk s.length (wP s).2.1.params:=by
  unfold wP medA
  split
  · exact h0
  · split
    · split
      · exact h0
      · exact hb _ _ (by omega)
    · exact hb _ _ (by omega)
 unfold x9
 split
 · exact h0
 · split
   · exact hm
   · exact h0
theorem zmQ {N:Nat} {l:List Fld} (h: ∀ f ∈ l,f.value.length≤N) (n:Str):(getP l n).1.length≤N:=by
 unfold getP
 cases hf:l.find? (fun f=>f.name == n) with
 |none=>simp
 |some f=>exact h f (List.mem_of_find?_eq_some hf)
theorem zuN {N:Nat} {l:List Fld} (h: ∀ f ∈ l,f.value.length≤N) (n:Str):(oneF (valsF l n)).1.length≤N:=by
 unfold oneF
 split
 · simp
 · split
   · rename_i h1
     match hv:valsF l n,h1 with
     | [x],_=>
       have:x ∈ valsF l n:=by rw [hv];exact List.mem_singleton.2 rfl
       unfold valsF at this;obtain⟨f,hf,rfl⟩:=List.mem_map.1 this;exact h f (List.mem_filter.1 hf).1
   · simp
def za6 (I:Alg):KU
 |[.v (.one (.p (.list .fld l)))],[]=>(fun(l:List Fld)=>(some (.one ⟨I.hid (l.length≤1000∧∀ f ∈ l,f.name.length≤1000000∧f.value.length≤1000000),(.ret (.tup [.agg [.p (.str (I.hid ((ZY l).1.name))),.p (.str (I.hid ((ZY l).1.file))),.p (.str (I.hid ((ZY l).1.type))),.nilS],.one (.p (.int .i64 (I.hid ((ZY l).2))))])),[]⟩):Option CT)) l
 |_,_=>none
theorem znd:zu Tryz.prog 298 (za6 alg):=by
 intro args hp r h;unfold za6 at h;split at h<;>cases h
 rename_i l
 revert l;intro(l:List Fld)
 simp only [CT.Good,zh];intro hneed;obtain⟨hl,hf⟩:=hneed;generalize hr:ZY l=r
 refine spH Tryz.func298 (by kernel_rfl) { raw:=true,keep:=some [0,2,3,4,5,6,7,8,9,10,11,12,13,77]} [Xf,Xe,zvx,zvw,zyi,zyh,SE,SC,vC,vz] (by kernel_rfl) ?_
 intro I X hI hX
 refine orcL ?_;go_invoke;refine orcS (by kernel_rfl) ?_
 simp only [zi,Nat.reduceAdd]
 try rw [show([99,111,110,116,101,110,116,45,100,105,115,112,111,115,105,116,105,111,110]:Str)=qp from rfl]
 try rw [show([99,111,110,116,101,110,116,45,116,121,112,101]:Str)=znt from rfl]
 try rw [show([102,111,114,109,45,100,97,116,97]:Str)=zwG from rfl]
 try rw [show([102,105,108,101,110,97,109,101]:Str)=zvt from rfl]
 try rw [show([102,105,108,101,110,97,109,101,42]:Str)=ziA from rfl]
 try rw [show([110,97,109,101]:Str)=zxD from rfl]
 have hk1:qp.length≤1000000:=by decide
 have hk2:znt.length≤1000000:=by decide
 have hv:=zuN (fun f h=>(hf f h).2) qp;have hp:=zg8 (oneF (valsF l qp)).1;have hg:=fun n=>zmQ hp.2 n;have hg1:=hg ziA;have hg2:=hg zvt;have hx:=zvA (getP (x9 (oneF (valsF l qp)).1).1.params ziA).1;unfold ZY at hr;subst hI;simp only [nrmA,nrmB,nrlB,reduceCtorEq];have hpl:=hp.1;clear hp hg;generalize oneF (valsF l znt)=t at *;generalize getP (x9 (oneF (valsF l qp)).1).1.params ziA=x at *;generalize getP (x9 (oneF (valsF l qp)).1).1.params zvt=f at *;generalize getP (x9 (oneF (valsF l qp)).1).1.params zxD=n at *;generalize x9 (oneF (valsF l qp)).1=m at *;generalize oneF (valsF l qp)=a at *;unfold zuG zxr partT at hr
 (repeat' (first|refine ja ?_ ?_|intro _))<;>first|omega|exact jb|exact jc ‹False›|skip
 all_goals first
  |omega
  |exact hl
  |exact hk1
  |exact hk2
  |exact(hf _ ‹_›).1
  |exact(hf _ ‹_›).2
  |exact absurd (‹extB x.fst=true›.symm.trans ‹extB x.fst=false›) (by decide)
  |(subst hr;clear hf hX hv hg1 hg2 hx hpl hl hk1 hk2;simp [*,prt0];done)
def znc:Know Tryz.prog:=⟨298,za6,znd⟩
def znb:Know Tryz.prog:=⟨298,fun I=>zx I (za6 I),zf znd⟩
end Go.Proofs.YtkjepecoodjbmaaGreatDoor
namespace Go.Proofs.YtkjepecoodjbmaaGreatDoor
open Go Go.Sep Go.Ab
set_option maxRecDepth 100000
def zyo:Cfg:= { sl:=[⟨207,0,.byte,some 5⟩]}
def zaO (I:Alg):KU
 |[],[]=>some (.one ⟨I.hid (True),(.ret (.v (.one (.ptr 0 0)))),[.pack [.obj 207 [.row 1,.p (.bool false),.p (.int .i64 0)],.row .byte 5 (I.hid ([]))]]⟩)
 |_,_=>none
theorem zmE:zu Tryz.prog 89 (zaO alg):=by
 intro args hp r h;unfold zaO at h;split at h<;>cases h
 simp only [CT.Good,zh];intro _
 refine spH Tryz.func89 (by kernel_rfl) { zyo with keep:=some [0]} [] (by kernel_rfl) ?_
 intro I X hI hX
 refine orcL ?_;go_invoke;refine orcS (by kernel_rfl) ?_
 simp only [zi,Nat.reduceAdd];trivial
def zaN:Know Tryz.prog:=⟨89,zaO,zmE⟩
def zaM:Know Tryz.prog:=⟨89,fun I=>zx I (zaO I),zf zmE⟩
def Uo (I:Alg):KU
 |[.v (.one (.ptr 0 0)),.v (.one (.p (.int .i64 c)))],[.pack [.obj 207 [.row 1,.p (.bool cr),.p (.int .i64 code)],.row .byte 5 b]]=>(fun(b:Str)=>(some (.one ⟨I.hid (True),(.ret (.tup [.one (.p (.str (I.hid ([])))),.one (.p (.bool false)),.one (.p (.int .i64 c))])),[.pack [.obj 207 [.row 1,.p (.bool cr),.p (.int .i64 c)],.row .byte 5 b]]⟩):Option CT)) b
 |_,_=>none
theorem zhp:zu Tryz.prog 169 (Uo alg):=by
 intro args hp r h;unfold Uo at h;split at h<;>cases h
 rename_i c cr code b;simp only [CT.Good,zh];intro _
 refine spH Tryz.func169 (by kernel_rfl) { zyo with keep:=some [0,1,4,5,6]} [] (by kernel_rfl) ?_
 intro I X hI hX
 refine orcL ?_;go_invoke;refine orcS (by kernel_rfl) ?_
 simp only [zi,Nat.reduceAdd];subst hI;simp only [nrmA,nrmB,nrlB,reduceCtorEq,HO.pack.injEq,HO.obj.injEq]
 try trivial
def zru:Know Tryz.prog:=⟨169,Uo,zhp⟩
def zrt:Know Tryz.prog:=⟨169,fun I=>zx I (Uo I),zf zhp⟩
def Un (I:Alg):KU
 |[.v (.one (.ptr 0 0)),.v (.one (.p (.int .u8 k)))],[.pack [.obj 207 [.row 1,.p (.bool cr),.p (.int .i64 code)],.row .byte 5 b]]=>(fun(b:Str)=>(some (.one ⟨I.hid (0≤k∧k≤255∧b.length≤1000000),(.ret (.tup [.one (.p (.str (I.hid ((lnF ⟨b,cr,code⟩ (UInt8.ofNat k.toNat)).2.1)))),.one (.p (.bool (I.hid ((lnF ⟨b,cr,code⟩ (UInt8.ofNat k.toNat)).2.2.1)))),.one (.p (.int .i64 (I.hid ((lnF ⟨b,cr,code⟩ (UInt8.ofNat k.toNat)).2.2.2))))])),[.pack [.obj 207 [.row 1,.p (.bool (I.hid ((lnF ⟨b,cr,code⟩ (UInt8.ofNat k.toNat)).1.cr))),.p (.int .i64 (I.hid ((lnF ⟨b,cr,code⟩ (UInt8.ofNat k.toNat)).1.code)))],.row .byte 5 (I.hid ((lnF ⟨b,cr,code⟩ (UInt8.ofNat k.toNat)).1.b))]]⟩):Option CT)) b
 |_,_=>none
set_option maxHeartbeats 4000000 in
theorem zho:zu Tryz.prog 121 (Un alg):=by
 intro args hp r h;unfold Un at h;split at h<;>cases h
 rename_i k cr code b;simp only [CT.Good,zh];intro hneed;obtain⟨hk0,hk1,hbl⟩:=hneed
 have hkk:((UInt8.ofNat k.toNat).toNat:Int)=k:=by rw [UInt8.toNat_ofNat',Nat.mod_eq_of_lt (by omega)];omega
 generalize hr:lnF ⟨b,cr,code⟩ (UInt8.ofNat k.toNat)=r
 have h10:UInt8.ofNat k.toNat=10↔k=10:=⟨fun h=>by rw [h] at hkk;exact hkk.symm,fun h=>by subst h;rfl⟩
 have h13:UInt8.ofNat k.toNat=13↔k=13:=⟨fun h=>by rw [h] at hkk;exact hkk.symm,fun h=>by subst h;rfl⟩
 unfold lnF zjv at hr;rw [hkk] at hr;simp only [h10,h13] at hr;obtain⟨⟨rb,rc,rcode⟩,rt,ro,re⟩:=r
 refine spH Tryz.func121 (by kernel_rfl) { zyo with nr:=[8],keep:=some [0,1,4,5,6,7]} [rC,Xo,zru,zrt] (by kernel_rfl) ?_
 intro I X hI hX
 refine orcL ?_;go_invoke;refine orcS (by kernel_rfl) ?_
 simp only [zi,Nat.reduceAdd];subst hI;simp only [nrmA,nrmB,nrlB,reduceCtorEq,HO.pack.injEq,HO.obj.injEq];generalize UInt8.ofNat k.toNat=c at *;cases cr
 all_goals simp only [jd,if_false,if_true] at hr
 all_goals(repeat' (first|refine ja ?_ ?_|intro _))<;>first|omega|exact jb|exact jc ‹False›|skip
 all_goals first
  |omega
  |(exfalso;simp at *;done)
  |(((repeat(first|rewrite [if_pos (by first|omega|assumption|(simp only [*,or_self,or_true,true_or,or_false,false_or,jf,jg,jd,je,and_self,and_true,true_and];done)|(simp only [*];omega)|(simp [*];done)|(simp [*];omega))] at hr|rewrite [if_neg (by first|omega|assumption|(simp only [*,or_self,or_true,true_or,or_false,false_or,jf,jg,jd,je,and_self,and_true,true_and];done)|(simp only [*];omega)|(simp [*];done)|(simp [*];omega))] at hr)));cases hr;first|rfl|done|with_reducible assumption|exact⟨rfl,rfl,rfl⟩|(simp;done)|(simp;omega))
def rY:Know Tryz.prog:=⟨121,Un,zho⟩
def rX:Know Tryz.prog:=⟨121,fun I=>zx I (Un I),zf zho⟩
end Go.Proofs.YtkjepecoodjbmaaGreatDoor
namespace Go.Proofs.YtkjepecoodjbmaaGreatDoor
open Go Go.Sep Go.Ab
set_option maxRecDepth 100000
def cfgF:Cfg:= { sl:=[⟨207,0,.byte,some 5⟩,⟨310,0,.byte,some 5⟩,⟨310,1,.int,some 3⟩,⟨302,3,.fld,some 108⟩,⟨302,7,.evt,some 34⟩]}
def vU (f:Fm):Prop:=f.out.length≤10000000
def fm9 (f:Fm):Prop:=f.out.length≤9000000
theorem u8k {k:Int} (h0:0≤k) (h1:k≤255) (n:Nat) (hn:n<256):(UInt8.ofNat k.toNat=UInt8.ofNat n)=(k=n):=by
 rw [← UInt8.toNat_inj,UInt8.toNat_ofNat',UInt8.toNat_ofNat',Nat.mod_eq_of_lt hn,Nat.mod_eq_of_lt (by omega)]
 exact propext ⟨fun h=>by omega,fun h=>by omega⟩
def UN (I:Alg):KU
 |[.v (.one (.ptr 0 0)),.v (.agg [.p (.int .i64 k),.p (.str ea),.p (.str eb),.p (.int .i64 ei),.p (.list .fld ef),.p (.int .i64 en),.p (.list .byte ebs),.p (.str ex),.p (.str ey),.p (.str ez),.p (.nl et),.p (.int .i64 ec)])],[.abs (.fm ⟨m,hd,bs,p,none,fs,pa,sk,co,out⟩)]=>(fun(m:Str) (bs:List Int) (fs:List Fld) (out:List Evt) (ea eb:Str) (ef:List Fld) (ebs ex ey ez et:Str)=>(some (.one ⟨I.hid (vU ⟨m,hd,bs,p,none,fs,pa,sk,co,out⟩),(.ret (.tup [])),[.abs (.fm ⟨m,hd,bs,p,none,fs,pa,sk,co,(I.hid (out++[⟨k,⟨ea,eb,ei,ef,en⟩,ebs,⟨ex,ey,ez,et⟩,ec⟩]))⟩)]⟩):Option CT)) m bs fs out ea eb ef ebs ex ey ez et
 |_,_=>none
theorem zij:zu Tryz.prog 296 (UN alg):=by
 intro args hp r h;unfold UN at h;split at h<;>cases h
 rename_i k ea eb ei ef en ebs ex ey ez et ec m hd bs p fs pa sk co out
 revert ef bs fs out;intro(ef:List Fld) (bs:List Int) (fs:List Fld) (out:List Evt)
 simp only [CT.Good,zh];intro hneed;unfold vU at hneed;simp only at hneed
 refine spH Tryz.func296 (by kernel_rfl) { cfgF with keep:=some [0,1,3]} [] (by kernel_rfl) ?_
 intro I X hI hX
 refine orcL ?_;go_invoke;refine orcS (by kernel_rfl) ?_
 simp only [zi,Nat.reduceAdd];subst hI;simp only [nrmA,nrmB,nrlB,reduceCtorEq,HO.abs.injEq,Gh.fm.injEq,Fm.mk.injEq]
 (repeat' (first|refine ja ?_ ?_|intro _))<;>first|omega|exact jb|exact jc ‹False›|skip
 all_goals first
  |omega
  |rfl
  |with_reducible assumption
  |(simp only [jh,ji];omega)
  |(unfold vU;simp only;omega)
  |(simp;done)
def uh:Know Tryz.prog:=⟨296,UN,zij⟩
def ug:Know Tryz.prog:=⟨296,fun I=>zx I (UN I),zf zij⟩
def UM (I:Alg):KU
 |[.v (.one (.ptr 0 0)),.v (.agg [.p (.int .i64 k),.p (.str ea),.p (.str eb),.p (.int .i64 ei),.p (.list .fld ef),.p (.int .i64 en),.p (.list .byte ebs),.p (.str ex),.p (.str ey),.p (.str ez),.p (.nl et),.p (.int .i64 ec)])],[.abs (.fm ⟨m,hd,bs,p,some ln,fs,pa,sk,co,out⟩)]=>(fun(m:Str) (bs:List Int) (fs:List Fld) (out:List Evt) (ea eb:Str) (ef:List Fld) (ebs ex ey ez et:Str)=>(some (.one ⟨I.hid (vU ⟨m,hd,bs,p,some ln,fs,pa,sk,co,out⟩),(.ret (.tup [])),[.abs (.fm ⟨m,hd,bs,p,some ln,fs,pa,sk,co,(I.hid (out++[⟨k,⟨ea,eb,ei,ef,en⟩,ebs,⟨ex,ey,ez,et⟩,ec⟩]))⟩)]⟩):Option CT)) m bs fs out ea eb ef ebs ex ey ez et
 |_,_=>none
theorem zii:zu Tryz.prog 296 (UM alg):=by
 intro args hp r h;unfold UM at h;split at h<;>cases h
 rename_i k ea eb ei ef en ebs ex ey ez et ec m hd bs p ln fs pa sk co out
 revert ef bs fs out;intro(ef:List Fld) (bs:List Int) (fs:List Fld) (out:List Evt)
 simp only [CT.Good,zh];intro hneed;unfold vU at hneed;simp only at hneed
 refine spH Tryz.func296 (by kernel_rfl) { cfgF with keep:=some [0,1,3]} [uh,ug] (by kernel_rfl) ?_
 intro I X hI hX
 refine orcL ?_;go_invoke;refine orcS (by kernel_rfl) ?_
 simp only [zi,Nat.reduceAdd];subst hI;simp only [nrmA,nrmB,nrlB,reduceCtorEq,HO.abs.injEq,Gh.fm.injEq,Fm.mk.injEq]
 (repeat' (first|refine ja ?_ ?_|intro _))<;>first|omega|exact jb|exact jc ‹False›|skip
 all_goals first
  |omega
  |rfl
  |with_reducible assumption
  |(simp only [jh,ji];omega)
  |(unfold vU;simp only;omega)
  |(simp;done)
def tN:Know Tryz.prog:=⟨296,UM,zii⟩
def tK:Know Tryz.prog:=⟨296,fun I=>zx I (UM I),zf zii⟩
theorem zm2 (m:Str) (hd:Int) (bs:List Int) (p:Int) (fs:List Fld) (pa sk co:Int) (out:List Evt) (c:Int) (hneed:vU ⟨m,hd,bs,p,none,fs,pa,sk,co,out⟩):Spc Tryz.prog 291 [.v (.one (.ptr 0 0)),.v (.one (.p (.int .i64 c)))] [.abs (.fm ⟨m,hd,bs,p,none,fs,pa,sk,co,out⟩)] (.ret (.tup [])) [.abs (.fm ((xC ⟨m,hd,bs,p,none,fs,pa,sk,co,out⟩ c)))]:=by
 unfold vU at hneed;simp only at hneed
 refine spH Tryz.func291 (by kernel_rfl) { cfgF with keep:=some [0,1]} [uh,ug,tN,tK] (by kernel_rfl) ?_
 intro I X hI hX
 refine orcL ?_;go_invoke;refine orcS (by kernel_rfl) ?_
 simp only [zi,Nat.reduceAdd];subst hI;simp only [nrmA,nrmB,nrlB,reduceCtorEq,HO.abs.injEq,Gh.fm.injEq,Fm.mk.injEq]
 (repeat' (first|refine ja ?_ ?_|intro _))<;>first|omega|exact jb|exact jc ‹False›|skip
 all_goals first
  |omega
  |rfl
  |with_reducible assumption
  |(simp only [jh,ji];omega)
  |(unfold vU;simp only;omega)
  |(simp;done)
def Wn (I:Alg):KU
 |[.v (.one (.ptr 0 0)),.v (.one (.p (.int .i64 c)))],[.abs (.fm ⟨m,hd,bs,p,none,fs,pa,sk,co,out⟩)]=>(fun(m:Str) (bs:List Int) (fs:List Fld) (out:List Evt)=>(some (.one ⟨I.hid (vU ⟨m,hd,bs,p,none,fs,pa,sk,co,out⟩),(.ret (.tup [])),[.abs (.fm (I.hid (xC ⟨m,hd,bs,p,none,fs,pa,sk,co,out⟩ c)))]⟩):Option CT)) m bs fs out
 |_,_=>none
theorem zek:zu Tryz.prog 291 (Wn alg):=by
 intro args hp r h;unfold Wn at h
 split at h
 · cases h;exact fun hn=>zm2 _ _ _ _ _ _ _ _ _ _ hn
 · cases h
def zoQ:Know Tryz.prog:=⟨291,Wn,zek⟩
def zoP:Know Tryz.prog:=⟨291,fun I=>zx I (Wn I),zf zek⟩
theorem zvo (m:Str) (hd:Int) (bs:List Int) (p:Int) (ln:Ln) (fs:List Fld) (pa sk co:Int) (out:List Evt) (c:Int) (hneed:vU ⟨m,hd,bs,p,some ln,fs,pa,sk,co,out⟩):Spc Tryz.prog 291 [.v (.one (.ptr 0 0)),.v (.one (.p (.int .i64 c)))] [.abs (.fm ⟨m,hd,bs,p,some ln,fs,pa,sk,co,out⟩)] (.ret (.tup [])) [.abs (.fm ((xC ⟨m,hd,bs,p,some ln,fs,pa,sk,co,out⟩ c)))]:=by
 unfold vU at hneed;simp only at hneed
 refine spH Tryz.func291 (by kernel_rfl) { cfgF with keep:=some [0,1]} [uh,ug,tN,tK,zoQ,zoP] (by kernel_rfl) ?_
 intro I X hI hX
 refine orcL ?_;go_invoke;refine orcS (by kernel_rfl) ?_
 simp only [zi,Nat.reduceAdd];subst hI;simp only [nrmA,nrmB,nrlB,reduceCtorEq,HO.abs.injEq,Gh.fm.injEq,Fm.mk.injEq]
 (repeat' (first|refine ja ?_ ?_|intro _))<;>first|omega|exact jb|exact jc ‹False›|skip
 all_goals first
  |omega
  |rfl
  |with_reducible assumption
  |(simp only [jh,ji];omega)
  |(unfold vU;simp only;omega)
  |(simp;done)
def UW (I:Alg):KU
 |[.v (.one (.ptr 0 0)),.v (.one (.p (.int .i64 c)))],[.abs (.fm f)]=>some (.one ⟨I.hid (vU f),(.ret (.tup [])),[.abs (.fm (I.hid (xC f c)))]⟩)
 |_,_=>none
theorem zis:zu Tryz.prog 291 (UW alg):=by
 intro args hp r h;unfold UW at h;split at h<;>cases h
 rename_i c f;simp only [CT.Good,zh];intro hneed;obtain⟨m,hd,bs,p,ln,fs,pa,sk,co,out⟩:=f
 cases ln with
 |none=>exact zm2 m hd bs p fs pa sk co out c hneed
 |some ln=>exact zvo m hd bs p ln fs pa sk co out c hneed
def tY:Know Tryz.prog:=⟨291,UW,zis⟩
def tX:Know Tryz.prog:=⟨291,fun I=>zx I (UW I),zf zis⟩
theorem zep (m:Str) (hd:Int) (bs:List Int) (p:Int) (fs:List Fld) (pa sk co:Int) (out:List Evt) (k:Int) (hneed:vU ⟨m,hd,bs,p,none,fs,pa,sk,co,out⟩∧0≤k∧k≤255):Spc Tryz.prog 290 [.v (.one (.ptr 0 0)),.v (.one (.p (.int .u8 k)))] [.abs (.fm ⟨m,hd,bs,p,none,fs,pa,sk,co,out⟩)] (.ret (.tup [])) [.abs (.fm ((wQ ⟨m,hd,bs,p,none,fs,pa,sk,co,out⟩ (UInt8.ofNat k.toNat))))]:=by
 obtain⟨hneed,h0,h1⟩:=hneed;have hc:=fun n=>u8k h0 h1 n
 have h45:(UInt8.ofNat k.toNat=45)=(k=45):=hc 45 (by decide)
 have h32:(UInt8.ofNat k.toNat=32)=(k=32):=hc 32 (by decide)
 have h9:(UInt8.ofNat k.toNat=9)=(k=9):=hc 9 (by decide)
 have h13:(UInt8.ofNat k.toNat=13)=(k=13):=hc 13 (by decide)
 clear hc;generalize UInt8.ofNat k.toNat=c at *;unfold vU at hneed;simp only at hneed;generalize hr:wQ ⟨m,hd,bs,p,none,fs,pa,sk,co,out⟩ c=r;unfold wQ at hr;simp only [h45,h32,h9,h13] at hr
 refine spH Tryz.func290 (by kernel_rfl) { cfgF with keep:=some [0,1,4]} [uh,ug,tN,tK,tY,tX] (by kernel_rfl) ?_
 intro I X hI hX
 refine orcL ?_;go_invoke;refine orcS (by kernel_rfl) ?_
 simp only [zi,Nat.reduceAdd];subst hI;simp only [nrmA,nrmB,nrlB,reduceCtorEq,HO.abs.injEq,Gh.fm.injEq]
 (repeat' (first|refine ja ?_ ?_|intro _))<;>first|omega|exact jb|exact jc ‹False›|skip
 all_goals first
  |omega
  |(unfold vU;simp only;omega)
  |(subst hr;simp [*,xC,evE,hd0,prt0];done)
def qV (I:Alg):KU
 |[.v (.one (.ptr 0 0)),.v (.one (.p (.int .u8 k)))],[.abs (.fm ⟨m,hd,bs,p,none,fs,pa,sk,co,out⟩)]=>(fun(m:Str) (bs:List Int) (fs:List Fld) (out:List Evt)=>(some (.one ⟨I.hid (vU ⟨m,hd,bs,p,none,fs,pa,sk,co,out⟩∧0≤k∧k≤255),(.ret (.tup [])),[.abs (.fm (I.hid (wQ ⟨m,hd,bs,p,none,fs,pa,sk,co,out⟩ (UInt8.ofNat k.toNat))))]⟩):Option CT)) m bs fs out
 |_,_=>none
theorem Qp:zu Tryz.prog 290 (qV alg):=by
 intro args hp r h;unfold qV at h
 split at h
 · cases h;exact fun hn=>zep _ _ _ _ _ _ _ _ _ _ hn
 · cases h
def ziv:Know Tryz.prog:=⟨290,qV,Qp⟩
def ziu:Know Tryz.prog:=⟨290,fun I=>zx I (qV I),zf Qp⟩
theorem zoR (m:Str) (hd:Int) (bs:List Int) (p:Int) (ln:Ln) (fs:List Fld) (pa sk co:Int) (out:List Evt) (k:Int) (hneed:vU ⟨m,hd,bs,p,some ln,fs,pa,sk,co,out⟩∧0≤k∧k≤255):Spc Tryz.prog 290 [.v (.one (.ptr 0 0)),.v (.one (.p (.int .u8 k)))] [.abs (.fm ⟨m,hd,bs,p,some ln,fs,pa,sk,co,out⟩)] (.ret (.tup [])) [.abs (.fm ((wQ ⟨m,hd,bs,p,some ln,fs,pa,sk,co,out⟩ (UInt8.ofNat k.toNat))))]:=by
 obtain⟨hneed,h0,h1⟩:=hneed;have hc:=fun n=>u8k h0 h1 n
 have h45:(UInt8.ofNat k.toNat=45)=(k=45):=hc 45 (by decide)
 have h32:(UInt8.ofNat k.toNat=32)=(k=32):=hc 32 (by decide)
 have h9:(UInt8.ofNat k.toNat=9)=(k=9):=hc 9 (by decide)
 have h13:(UInt8.ofNat k.toNat=13)=(k=13):=hc 13 (by decide)
 clear hc;generalize UInt8.ofNat k.toNat=c at *;unfold vU at hneed;simp only at hneed;generalize hr:wQ ⟨m,hd,bs,p,some ln,fs,pa,sk,co,out⟩ c=r;unfold wQ at hr;simp only [h45,h32,h9,h13] at hr
 refine spH Tryz.func290 (by kernel_rfl) { cfgF with keep:=some [0,1,4]} [uh,ug,tN,tK,tY,tX,ziv,ziu] (by kernel_rfl) ?_
 intro I X hI hX
 refine orcL ?_;go_invoke;refine orcS (by kernel_rfl) ?_
 simp only [zi,Nat.reduceAdd];subst hI;simp only [nrmA,nrmB,nrlB,reduceCtorEq,HO.abs.injEq,Gh.fm.injEq]
 (repeat' (first|refine ja ?_ ?_|intro _))<;>first|omega|exact jb|exact jc ‹False›|skip
 all_goals first
  |omega
  |(unfold vU;simp only;omega)
  |(subst hr;simp [*,xC,evE,hd0,prt0];done)
def Yh (I:Alg):KU
 |[.v (.one (.ptr 0 0)),.v (.one (.p (.int .u8 k)))],[.abs (.fm f)]=>some (.one ⟨I.hid (vU f∧0≤k∧k≤255),(.ret (.tup [])),[.abs (.fm (I.hid (wQ f (UInt8.ofNat k.toNat))))]⟩)
 |_,_=>none
theorem zcM:zu Tryz.prog 290 (Yh alg):=by
 intro args hp r h;unfold Yh at h;split at h<;>cases h
 rename_i k f;simp only [CT.Good,zh];intro hneed;obtain⟨m,hd,bs,p,ln,fs,pa,sk,co,out⟩:=f
 cases ln with
 |none=>exact zep m hd bs p fs pa sk co out k hneed
 |some ln=>exact zoR m hd bs p ln fs pa sk co out k hneed
def zcL:Know Tryz.prog:=⟨290,Yh,zcM⟩
def zcK:Know Tryz.prog:=⟨290,fun I=>zx I (Yh I),zf zcM⟩
structure FmS (f:Fm):Prop where
 bs:f.bs=QN f.mark
 ml:f.mark.length≤1000000
 h0:0≤f.held
 h1:f.mark=[]∨f.held<f.mark.length
 s0:0≤f.skip∧f.skip≤2
theorem zit (m:Str) (hd:Int) (bs:List Int) (p:Int) (fs:List Fld) (pa sk co:Int) (out:List Evt) (k:Int) (hneed:fm9 ⟨m,hd,bs,p,none,fs,pa,sk,co,out⟩∧FmS ⟨m,hd,bs,p,none,fs,pa,sk,co,out⟩∧0≤k∧k≤255):Spc Tryz.prog 289 [.v (.one (.ptr 0 0)),.v (.one (.p (.int .u8 k)))] [.abs (.fm ⟨m,hd,bs,p,none,fs,pa,sk,co,out⟩)] (.ret (.tup [])) [.abs (.fm ((uj ⟨m,hd,bs,p,none,fs,pa,sk,co,out⟩ (UInt8.ofNat k.toNat))))]:=by
 obtain⟨hneed,⟨hbs,hml,hh0,hh1,hs0⟩,h0,h1⟩:=hneed;unfold fm9 at hneed;simp only at hneed hbs hml hh0 hh1 hs0;generalize hr:uj ⟨m,hd,bs,p,none,fs,pa,sk,co,out⟩ (UInt8.ofNat k.toNat)=r;unfold uj sD fmSk at hr;simp only [Int.min_def] at hr
 refine spH Tryz.func289 (by kernel_rfl) { cfgF with fz:=[296],keep:=some [0,1,4,5,6]} [Rw,Ru,uh,ug,tN,tK] (by kernel_rfl) ?_
 intro I X hI hX
 refine orcL ?_;go_invoke;refine orcS (by kernel_rfl) ?_
 simp only [zi,Nat.reduceAdd];generalize ql m hd.toNat (UInt8.ofNat k.toNat)=q at *;obtain⟨o,n2,fd⟩:=q;subst hI;simp only [nrmA,nrmB,nrlB,reduceCtorEq,HO.abs.injEq,Gh.fm.injEq];simp only at hr
 have hn:0≤(if sk≤(o.length:Int) then sk else(o.length:Int))∧(if sk≤(o.length:Int) then sk else(o.length:Int))≤o.length∧(if sk≤(o.length:Int) then sk else(o.length:Int))≤sk:=by split<;>omega
 generalize(if sk≤(o.length:Int) then sk else(o.length:Int))=n at *
 rw [jq (show(o.drop n.toNat).length≤o.length - n.toNat by rw [jC];exact jL _)]
 have hne:0<(o.length:Int) - n→¬ o.drop n.toNat=[]:=fun h k=>by have:=congrArg List.length k;rw [jC,ji] at this;omega
 have hnn: ¬ 0<(o.length:Int) - n→o.drop n.toNat=[]:=fun h=>jF (by omega)
 generalize o.drop n.toNat=D at *
 (repeat' (first|refine ja ?_ ?_|intro _))<;>first|omega|exact jb|exact jc ‹False›|skip
 all_goals first
  |omega
  |with_reducible assumption
  |(unfold vU;simp only [jk,jr];omega)
  |(have hne:=hne (by omega);clear hnn;subst hr;simp [*,evB,evO,hd0,prt0];done)
  |(have hnn:=hnn (by omega);clear hne;subst hr;simp [*,evB,evO,hd0,prt0];done)
  |(clear hne hnn;subst hr;simp [*,evB,evO,hd0,prt0];done)
def Yg (I:Alg):KU
 |[.v (.one (.ptr 0 0)),.v (.one (.p (.int .u8 k)))],[.abs (.fm ⟨m,hd,bs,p,none,fs,pa,sk,co,out⟩)]=>(fun(m:Str) (bs:List Int) (fs:List Fld) (out:List Evt)=>(some (.one ⟨I.hid (fm9 ⟨m,hd,bs,p,none,fs,pa,sk,co,out⟩∧FmS ⟨m,hd,bs,p,none,fs,pa,sk,co,out⟩∧0≤k∧k≤255),(.ret (.tup [])),[.abs (.fm (I.hid (uj ⟨m,hd,bs,p,none,fs,pa,sk,co,out⟩ (UInt8.ofNat k.toNat))))]⟩):Option CT)) m bs fs out
 |_,_=>none
theorem zcJ:zu Tryz.prog 289 (Yg alg):=by
 intro args hp r h;unfold Yg at h
 split at h
 · cases h;exact fun hn=>zit _ _ _ _ _ _ _ _ _ _ hn
 · cases h
def zkf:Know Tryz.prog:=⟨289,Yg,zcJ⟩
def zke:Know Tryz.prog:=⟨289,fun I=>zx I (Yg I),zf zcJ⟩
theorem zse (m:Str) (hd:Int) (bs:List Int) (p:Int) (ln:Ln) (fs:List Fld) (pa sk co:Int) (out:List Evt) (k:Int) (hneed:fm9 ⟨m,hd,bs,p,some ln,fs,pa,sk,co,out⟩∧FmS ⟨m,hd,bs,p,some ln,fs,pa,sk,co,out⟩∧0≤k∧k≤255):Spc Tryz.prog 289 [.v (.one (.ptr 0 0)),.v (.one (.p (.int .u8 k)))] [.abs (.fm ⟨m,hd,bs,p,some ln,fs,pa,sk,co,out⟩)] (.ret (.tup [])) [.abs (.fm ((uj ⟨m,hd,bs,p,some ln,fs,pa,sk,co,out⟩ (UInt8.ofNat k.toNat))))]:=by
 obtain⟨hneed,⟨hbs,hml,hh0,hh1,hs0⟩,h0,h1⟩:=hneed;unfold fm9 at hneed;simp only at hneed hbs hml hh0 hh1 hs0;generalize hr:uj ⟨m,hd,bs,p,some ln,fs,pa,sk,co,out⟩ (UInt8.ofNat k.toNat)=r;unfold uj sD fmSk at hr;simp only [Int.min_def] at hr
 refine spH Tryz.func289 (by kernel_rfl) { cfgF with fz:=[296],keep:=some [0,1,4,5,6]} [Rw,Ru,uh,ug,tN,tK,zkf,zke] (by kernel_rfl) ?_
 intro I X hI hX
 refine orcL ?_;go_invoke;refine orcS (by kernel_rfl) ?_
 simp only [zi,Nat.reduceAdd];generalize ql m hd.toNat (UInt8.ofNat k.toNat)=q at *;obtain⟨o,n2,fd⟩:=q;subst hI;simp only [nrmA,nrmB,nrlB,reduceCtorEq,HO.abs.injEq,Gh.fm.injEq];simp only at hr
 have hn:0≤(if sk≤(o.length:Int) then sk else(o.length:Int))∧(if sk≤(o.length:Int) then sk else(o.length:Int))≤o.length∧(if sk≤(o.length:Int) then sk else(o.length:Int))≤sk:=by split<;>omega
 generalize(if sk≤(o.length:Int) then sk else(o.length:Int))=n at *
 rw [jq (show(o.drop n.toNat).length≤o.length - n.toNat by rw [jC];exact jL _)]
 have hne:0<(o.length:Int) - n→¬ o.drop n.toNat=[]:=fun h k=>by have:=congrArg List.length k;rw [jC,ji] at this;omega
 have hnn: ¬ 0<(o.length:Int) - n→o.drop n.toNat=[]:=fun h=>jF (by omega)
 generalize o.drop n.toNat=D at *
 (repeat' (first|refine ja ?_ ?_|intro _))<;>first|omega|exact jb|exact jc ‹False›|skip
 all_goals first
  |omega
  |with_reducible assumption
  |(unfold vU;simp only [jk,jr];omega)
  |(have hne:=hne (by omega);clear hnn;subst hr;simp [*,evB,evO,hd0,prt0];done)
  |(have hnn:=hnn (by omega);clear hne;subst hr;simp [*,evB,evO,hd0,prt0];done)
  |(clear hne hnn;subst hr;simp [*,evB,evO,hd0,prt0];done)
def Wq (I:Alg):KU
 |[.v (.one (.ptr 0 0)),.v (.one (.p (.int .u8 k)))],[.abs (.fm f)]=>some (.one ⟨I.hid (fm9 f∧FmS f∧0≤k∧k≤255),(.ret (.tup [])),[.abs (.fm (I.hid (uj f (UInt8.ofNat k.toNat))))]⟩)
 |_,_=>none
theorem zeo:zu Tryz.prog 289 (Wq alg):=by
 intro args hp r h;unfold Wq at h;split at h<;>cases h
 rename_i k f;simp only [CT.Good,zh];intro hneed;obtain⟨m,hd,bs,p,ln,fs,pa,sk,co,out⟩:=f
 cases ln with
 |none=>exact zit m hd bs p fs pa sk co out k hneed
 |some ln=>exact zse m hd bs p ln fs pa sk co out k hneed
def zen:Know Tryz.prog:=⟨289,Wq,zeo⟩
def zem:Know Tryz.prog:=⟨289,fun I=>zx I (Wq I),zf zeo⟩
end Go.Proofs.YtkjepecoodjbmaaGreatDoor
namespace Go.Proofs.YtkjepecoodjbmaaGreatDoor
open Go Go.Sep Go.Ab
set_option maxRecDepth 100000
theorem zvv (m:Str) (n:Nat) (c:UInt8):m=[]∨(ql m n c).2.1<m.length:=by
 unfold ql
 by_cases h:m=[]
 · exact .inl h
 · rw [if_neg h]
   have h0:0<m.length:=by cases m<;>simp_all
   unfold P.feed;simp only
   repeat' split
   all_goals first|exact .inr h0|(right;assumption)
theorem UY (m:Str) (n:Nat) (c:UInt8):m=[]∨(((ql m n c).2.1:Nat):Int)<m.length:=(zvv m n c).imp id fun h=>by omega
theorem zjM (l:List Fld):(ZY l).1.bytes=[]:=by
 unfold ZY zuG
 repeat' split
 all_goals rfl
def FdOk (f:List Fld):Prop:=f.length≤1000∧∀ x ∈ f,x.name.length≤1000000∧x.value.length≤1000000
structure FmB (f:Fm):Prop where
 few:f.out.length≤9000000
 sk:FmS f
 fd:FdOk f.fields
 p0:0≤f.parts∧f.parts≤12
theorem zsh (m:Str) (hd:Int) (bs:List Int) (p:Int) (fs:List Fld) (pa sk co:Int) (out:List Evt) (hneed:FmB ⟨m,hd,bs,p,none,fs,pa,sk,co,out⟩):Spc Tryz.prog 297 [.v (.one (.ptr 0 0))] [.abs (.fm ⟨m,hd,bs,p,none,fs,pa,sk,co,out⟩)] (.ret (.tup [])) [.abs (.fm ((wV ⟨m,hd,bs,p,none,fs,pa,sk,co,out⟩)))]:=by
 obtain⟨h9,⟨hbs,hml,hh0,hh1,hs0⟩,⟨hfl,hff⟩,hp0⟩:=hneed;simp only at h9 hbs hml hh0 hh1 hs0 hfl hff hp0;generalize hr:wV ⟨m,hd,bs,p,none,fs,pa,sk,co,out⟩=r;have hb:=zjM fs;unfold wV at hr;simp only [xC,fmSk,evP,evF,jJ] at hr
 refine spH Tryz.func297 (by kernel_rfl) { cfgF with keep:=some [0,2,3]} [Rw,Ru,znc,znb,uh,ug,tN,tK,tY,tX] (by kernel_rfl) ?_
 intro I X hI hX
 refine orcL ?_;go_invoke;refine orcS (by kernel_rfl) ?_
 simp only [zi,Nat.reduceAdd];have hl1:=UY m hd.toNat 13;generalize ZY fs=P at *;obtain⟨⟨a,b,c,d⟩,e⟩:=P;simp only at hb hr;subst hb;subst hI;simp only [nrmA,nrmB,nrlB,reduceCtorEq,HO.abs.injEq,Gh.fm.injEq]
 (repeat' (first|refine ja ?_ ?_|intro _))<;>first|omega|exact jb|exact jc ‹False›|skip
 all_goals first
  |omega
  |with_reducible assumption
  |exact(hff _ ‹_›).1
  |exact(hff _ ‹_›).2
  |(unfold vU;simp only [jk,jr];omega)
  |exact hl1
  |(subst hr;simp [*,evF,hd0,prt0,xC];done)
theorem zsg (m:Str) (hd:Int) (bs:List Int) (p:Int) (ln:Ln) (fs:List Fld) (pa sk co:Int) (out:List Evt) (hneed:FmB ⟨m,hd,bs,p,some ln,fs,pa,sk,co,out⟩):Spc Tryz.prog 297 [.v (.one (.ptr 0 0))] [.abs (.fm ⟨m,hd,bs,p,some ln,fs,pa,sk,co,out⟩)] (.ret (.tup [])) [.abs (.fm ((wV ⟨m,hd,bs,p,some ln,fs,pa,sk,co,out⟩)))]:=by
 obtain⟨h9,⟨hbs,hml,hh0,hh1,hs0⟩,⟨hfl,hff⟩,hp0⟩:=hneed;simp only at h9 hbs hml hh0 hh1 hs0 hfl hff hp0;generalize hr:wV ⟨m,hd,bs,p,some ln,fs,pa,sk,co,out⟩=r;have hb:=zjM fs;unfold wV at hr;simp only [xC,fmSk,evP,evF,jJ] at hr
 refine spH Tryz.func297 (by kernel_rfl) { cfgF with keep:=some [0,2,3]} [Rw,Ru,znc,znb,uh,ug,tN,tK,tY,tX] (by kernel_rfl) ?_
 intro I X hI hX
 refine orcL ?_;go_invoke;refine orcS (by kernel_rfl) ?_
 simp only [zi,Nat.reduceAdd];have hl1:=UY m hd.toNat 13;generalize ZY fs=P at *;obtain⟨⟨a,b,c,d⟩,e⟩:=P;simp only at hb hr;subst hb;subst hI;simp only [nrmA,nrmB,nrlB,reduceCtorEq,HO.abs.injEq,Gh.fm.injEq]
 (repeat' (first|refine ja ?_ ?_|intro _))<;>first|omega|exact jb|exact jc ‹False›|skip
 all_goals first
  |omega
  |with_reducible assumption
  |exact(hff _ ‹_›).1
  |exact(hff _ ‹_›).2
  |(unfold vU;simp only [jk,jr];omega)
  |exact hl1
  |(subst hr;simp [*,evF,hd0,prt0,xC];done)
def Ws (I:Alg):KU
 |[.v (.one (.ptr 0 0))],[.abs (.fm f)]=>some (.one ⟨I.hid (FmB f),(.ret (.tup [])),[.abs (.fm (I.hid (wV f)))]⟩)
 |_,_=>none
theorem zes:zu Tryz.prog 297 (Ws alg):=by
 intro args hp r h;unfold Ws at h;split at h<;>cases h
 rename_i f;simp only [CT.Good,zh];intro hneed;obtain⟨m,hd,bs,p,ln,fs,pa,sk,co,out⟩:=f
 cases ln with
 |none=>exact zsh m hd bs p fs pa sk co out hneed
 |some ln=>exact zsg m hd bs p ln fs pa sk co out hneed
def zer:Know Tryz.prog:=⟨297,Ws,zes⟩
def zeq:Know Tryz.prog:=⟨297,fun I=>zx I (Ws I),zf zes⟩
theorem zvj (m:Str) (hd:Int) (bs:List Int) (p:Int) (fs:List Fld) (pa sk co:Int) (out:List Evt) (s:Str) (hneed:FmB ⟨m,hd,bs,p,none,fs,pa,sk,co,out⟩∧s.length≤1000000):Spc Tryz.prog 292 [.v (.one (.ptr 0 0)),.v (.one (.p (.str s)))] [.abs (.fm ⟨m,hd,bs,p,none,fs,pa,sk,co,out⟩)] (.ret (.tup [])) [.abs (.fm ((tV ⟨m,hd,bs,p,none,fs,pa,sk,co,out⟩ s)))]:=by
 obtain⟨⟨h9,hS,⟨hfl,hff⟩,hp0⟩,hs⟩:=hneed;simp only at h9 hfl hff hp0;generalize hr:tV ⟨m,hd,bs,p,none,fs,pa,sk,co,out⟩ s=r;unfold tV at hr;simp only at hr
 refine spH Tryz.func292 (by kernel_rfl) { cfgF with keep:=some [0,1,4,5]} [Uc,Ub,tY,tX,zer,zeq] (by kernel_rfl) ?_
 intro I X hI hX
 refine orcL ?_;go_invoke;refine orcS (by kernel_rfl) ?_
 simp only [zi,Nat.reduceAdd];generalize yj s=y at *;obtain⟨⟨a,b⟩,e⟩:=y;subst hI;simp only [nrmA,nrmB,nrlB,reduceCtorEq,HO.abs.injEq,Gh.fm.injEq]
 (repeat' (first|refine ja ?_ ?_|intro _))<;>first|omega|exact jb|exact jc ‹False›|skip
 all_goals first
  |omega
  |with_reducible assumption
  |exact⟨h9,hS,⟨hfl,hff⟩,hp0⟩
  |(unfold vU;simp only;omega)
  |(simp only [jr];omega)
  |(subst hr;simp [*,xC];done)
  |(subst hr;rw [if_pos ‹s=[]›];done)
  |(subst hr;rw [if_neg ‹¬ s=[]›,if_pos (by omega)];done)
  |(subst hr;rw [if_neg ‹¬ s=[]›,if_neg (by omega),if_pos ‹¬ e=0›];done)
  |(subst hr;rw [if_neg ‹¬ s=[]›,if_neg (by omega),if_neg (fun h=>h ‹e=0›)];done)
theorem zvi (m:Str) (hd:Int) (bs:List Int) (p:Int) (ln:Ln) (fs:List Fld) (pa sk co:Int) (out:List Evt) (s:Str) (hneed:FmB ⟨m,hd,bs,p,some ln,fs,pa,sk,co,out⟩∧s.length≤1000000):Spc Tryz.prog 292 [.v (.one (.ptr 0 0)),.v (.one (.p (.str s)))] [.abs (.fm ⟨m,hd,bs,p,some ln,fs,pa,sk,co,out⟩)] (.ret (.tup [])) [.abs (.fm ((tV ⟨m,hd,bs,p,some ln,fs,pa,sk,co,out⟩ s)))]:=by
 obtain⟨⟨h9,hS,⟨hfl,hff⟩,hp0⟩,hs⟩:=hneed;simp only at h9 hfl hff hp0;generalize hr:tV ⟨m,hd,bs,p,some ln,fs,pa,sk,co,out⟩ s=r;unfold tV at hr;simp only at hr
 refine spH Tryz.func292 (by kernel_rfl) { cfgF with keep:=some [0,1,4,5]} [Uc,Ub,tY,tX,zer,zeq] (by kernel_rfl) ?_
 intro I X hI hX
 refine orcL ?_;go_invoke;refine orcS (by kernel_rfl) ?_
 simp only [zi,Nat.reduceAdd];generalize yj s=y at *;obtain⟨⟨a,b⟩,e⟩:=y;subst hI;simp only [nrmA,nrmB,nrlB,reduceCtorEq,HO.abs.injEq,Gh.fm.injEq]
 (repeat' (first|refine ja ?_ ?_|intro _))<;>first|omega|exact jb|exact jc ‹False›|skip
 all_goals first
  |omega
  |with_reducible assumption
  |exact⟨h9,hS,⟨hfl,hff⟩,hp0⟩
  |(unfold vU;simp only;omega)
  |(simp only [jr];omega)
  |(subst hr;simp [*,xC];done)
  |(subst hr;rw [if_pos ‹s=[]›];done)
  |(subst hr;rw [if_neg ‹¬ s=[]›,if_pos (by omega)];done)
  |(subst hr;rw [if_neg ‹¬ s=[]›,if_neg (by omega),if_pos ‹¬ e=0›];done)
  |(subst hr;rw [if_neg ‹¬ s=[]›,if_neg (by omega),if_neg (fun h=>h ‹e=0›)];done)
def UR (I:Alg):KU
 |[.v (.one (.ptr 0 0)),.v (.one (.p (.str s)))],[.abs (.fm f)]=>(fun(s:Str)=>(some (.one ⟨I.hid (FmB f∧s.length≤1000000),(.ret (.tup [])),[.abs (.fm (I.hid (tV f s)))]⟩):Option CT)) s
 |_,_=>none
theorem zio:zu Tryz.prog 292 (UR alg):=by
 intro args hp r h;unfold UR at h;split at h<;>cases h
 rename_i s f;simp only [CT.Good,zh];intro hneed;obtain⟨m,hd,bs,p,ln,fs,pa,sk,co,out⟩:=f
 cases ln with
 |none=>exact zvj m hd bs p fs pa sk co out s hneed
 |some ln=>exact zvi m hd bs p ln fs pa sk co out s hneed
def zin:Know Tryz.prog:=⟨292,UR,zio⟩
def zim:Know Tryz.prog:=⟨292,fun I=>zx I (UR I),zf zio⟩
end Go.Proofs.YtkjepecoodjbmaaGreatDoor
namespace Go.Proofs.YtkjepecoodjbmaaGreatDoor
open Go Go.Sep Go.Ab
set_option maxRecDepth 100000
theorem Uz (c:UInt8) (t:Str): ∀ s:Str,(∀ x ∈ s,x≠c)→Lib.indexByte (s++c::t) c=s.length
 |[],_=>by simp [Lib.indexByte]
 | b::l,h=>by
   have ih:=Uz c t l (fun x hx=>h x (List.mem_cons_of_mem _ hx))
   have hb:(b == c)=false:=by simpa using h b (List.mem_cons_self ..)
   simp only [List.cons_append,Lib.indexByte,hb,ih,jh]
   rw [if_neg (by simp),if_neg (by try simp;try omega)]
   try omega
theorem QX {s:Str} (h:tokA s=true) {x:UInt8} (hx:x ∈ s):tokB (x.toNat:Int)=true:=List.all_eq_true.1 h x hx
theorem zpm {s:Str} (h:tokA s=true): ∀ x ∈ s,x≠58:=fun x hx e=>by
 have:=QX h hx;subst e
 revert this
 decide+kernel
theorem TQ {s:Str} (h:wZ s=true):s≠[]∧tokA s=true:=by
 unfold wZ at h
 simpa using h
theorem zsP {n v:Str} (h:tokA n=true):cutB (n++[58,32]++v) 58=(n,32::v,true):=by
 have e:n++[58,32]++v=n++58::32::v:=by simp
 have hi:=Uz 58 (32::v) n (zpm h);rw [e];unfold cutB
 rw [hi,if_pos (by omega)]
 simp
theorem zpl (v:Str):trL (32::v)=trL v:=by rw [Xu,if_pos (by decide)]
theorem znV (v:Str):Lib.trimS (32::v) [32,9]=Lib.trimS v [32,9]:=by
 rw [QV,QV,zeN,zeN,zpl]
theorem zn5 (v:Str):yN (32::v)=yN v:=by
 have h:yN (32::v)=(YP ((32:UInt8).toNat:Int)&&yN v):=by unfold yN;rw [List.all_cons]
 rw [h,show YP ((32:UInt8).toNat:Int)=true by decide+kernel,Bool.true_and]
structure Fit (f:Fld):Prop where
 tok:wZ f.name=true
 len:f.name.length≤40
 seen:yN f.value=true
 trim:Lib.trimS f.value [32,9]=f.value
theorem zk8 {f:Fld} (h:(textF f).2=0):Fit f∧f.name.length+2+f.value.length≤200∧(textF f).1=f.name++[58,32]++f.value:=by
 unfold textF at h ⊢
 split at h
 · cases h
 · split at h
   · cases h
   · split at h
     · cases h
     · rename_i h1 h2 h3
       rw [if_neg h1,if_neg h2,if_neg h3];simp only [not_or,Bool.not_eq_false,Decidable.not_not] at h1 h3
       exact⟨⟨h1,by omega,h3.1,h3.2⟩,by omega,rfl⟩
theorem zix {f:Fld} (h:Fit f):yj (f.name++[58,32]++f.value)=(f,0):=by
 obtain⟨h1,h2,h3,h4⟩:=h;unfold yj;rw [zsP (TQ h1).2];simp only [zn5,znV]
 rw [if_neg (by simp),if_neg (by simp [h1]),if_neg (by omega),if_neg (by simp [h3]),h4]
theorem znY {f:Fld} (h:(textF f).2=0):yj (textF f).1=(f,0)∧(textF f).1.length≤200:=by
 obtain⟨h1,h2,h3⟩:=zk8 h;rw [h3]
 exact⟨zix h1,by simp;omega⟩
theorem zb4 (s:Str):(yj s).1.name.length≤s.length∧(yj s).1.value.length≤s.length:=by
 have h:=za9 s 58;have ht:=zk1 (cutB s 58).2.1 [32,9];unfold yj
 repeat' split
 all_goals simp only [ji]
 all_goals omega
end Go.Proofs.YtkjepecoodjbmaaGreatDoor
namespace Go.Proofs.YtkjepecoodjbmaaGreatDoor
open Go Go.Sep Go.Ab
set_option maxRecDepth 100000
structure FmI (f:Fm) (i:Nat):Prop where
 bs:f.bs=QN f.mark
 ml:f.mark.length≤1000
 h0:0≤f.held
 h1:f.held<f.mark.length
 s0:0≤f.skip∧f.skip≤2
 p0:0≤f.parts∧f.parts≤12
 fl:f.fields.length≤16
 ff: ∀ x ∈ f.fields,x.name.length≤i∧x.value.length≤i
 lb: ∀ l,f.ln=some l→l.b.length≤i
 p5:f.pos=5→f.ln≠none
 on:f.out.length≤4 * i
theorem zei {f:Fm} {i:Nat} (h:FmI f i) (c:UInt8):FmI (fmSk f c) i:=by
 have hl:=(UY f.mark f.held.toNat c).resolve_left fun e=>by have h1:=h.h1;have h0:=h.h0;rw [e,ji] at h1;omega
 exact⟨h.bs,h.ml,Int.natCast_nonneg _,hl,h.s0,h.p0,h.fl,h.ff,h.lb,h.p5,h.on⟩
theorem zm1 {f:Fm} {i j:Nat} (h:FmI f i) (k:i≤j):FmI f j:=by
 obtain⟨a,b,c,d,e,f1,g,h1,h2,h3,h4⟩:=h
 exact⟨a,b,c,d,e,f1,g,fun x m=>by have:=h1 x m;omega,fun l e=>by have:=h2 l e;omega,h3,by omega⟩
theorem Y9 {f:Fm} {i:Nat} (h:FmI f i) {p co sk pa:Int} {o:List Evt} (ho:o.length≤4 * i) (hp:p=5→f.ln≠none) (hs:0≤sk∧sk≤2) (hpa:0≤pa∧pa≤12):FmI { f with pos:=p,code:=co,out:=o,skip:=sk,parts:=pa} i:=
 ⟨h.bs,h.ml,h.h0,h.h1,hs,hpa,h.fl,h.ff,h.lb,hp,ho⟩
theorem Yf {f:Fm} {i:Nat} (h:FmI f i) (ho:f.out.length+1≤4 * i) (c:Int):FmI (xC f c) i:=
 Y9 h (by simp only [jk,jr];omega) (fun h=>absurd h (by decide)) h.s0 h.p0
theorem zoS {f:Fm} {i:Nat} (h:FmI f i) (ho:f.out.length+1≤4 * i) (c:UInt8):FmI (wQ f c) i:=by
 unfold wQ
 repeat' split
 · exact Y9 h h.on (fun h=>absurd h (by decide)) h.s0 h.p0
 · exact Y9 h (by simp only [jk,jr];omega) (fun h=>absurd h (by decide)) h.s0 h.p0
 · exact Y9 h h.on (fun h=>absurd h (by decide)) h.s0 h.p0
 · exact Y9 h h.on (fun h=>absurd h (by decide)) h.s0 h.p0
 · exact Yf h ho 5
theorem zsf {f:Fm} {i:Nat} (h:FmI f i) (ho:f.out.length+2≤4 * i) (c:UInt8):FmI (uj f c) i:=by
 have hs:=zei h c;have h2:=h.s0;unfold uj
 split
 · refine Y9 (f:=fmSk f c) hs ?_ h.p5 ?_ h.p0
   · split
     · simp only [jk,jr];omega
     · exact h.on
   · rw [Int.min_def]
     split<;>omega
 · refine Y9 (f:=fmSk f c) hs ?_ (fun h=>absurd h (by decide)) (by decide) h.p0
   repeat' split
   all_goals first|exact h.on|(simp only [jk,jr,jh,ji];omega)
theorem zsi {f:Fm} {i:Nat} (h:FmI f i) (ho:f.out.length+1≤4 * i):FmI (wV f) i:=by
 have h2:=h.p0;unfold wV
 split
 · exact Yf h ho _
 · split
   · exact Yf h ho _
   · refine zei (zei ?_ _) _
     exact Y9 h (by simp only [jk,jr];omega) (fun h=>absurd h (by decide)) (by decide) (by omega)
theorem zvk {f:Fm} {i:Nat} (h:FmI f i) (ho:f.out.length+1≤4 * i) {s:Str} (hs:s.length≤i):FmI (tV f s) i:=by
 unfold tV
 split
 · exact zsi h ho
 · split
   · exact Yf h ho _
   · split
     · exact Yf h ho _
     · rename_i h16 _
       have hp:=zb4 s;refine⟨h.bs,h.ml,h.h0,h.h1,h.s0,h.p0,?_,fun x hx=> ?_,h.lb,h.p5,h.on⟩
       · have:=h.fl
         simp only [jk,jr];omega
       · rcases List.mem_append.1 hx with h5|h5
         · exact h.ff x h5
         · rw [List.mem_singleton.1 h5];omega
theorem zvp {f:Fm} {i:Nat} (h:FmI f i) (c:UInt8):FmI (fmF f c) (i+1):=by
 have hm:=zm1 h (show i≤i+1 by omega)
 have ho:f.out.length+2≤4 * (i+1):=by have:=h.on;omega
 unfold fmF
 split
 · exact zsf hm ho c
 · split
   · exact zoS hm (by omega) c
   · split
     · split
       · exact Yf hm (by omega) 2
       · exact⟨hm.bs,hm.ml,hm.h0,hm.h1,hm.s0,hm.p0,by simp,(fun x hx=>by cases hx),(fun l e=>by cases e;simp [ln0]),(fun _ e=>by cases e),hm.on⟩
     · split
       · have hb:=zuU (lnOf f) c
         have hl:=Y3 (lnOf f) c
         have hn:(lnOf f).b.length≤i:=by
          unfold lnOf
          cases e:f.ln with
          |none=>simp [ln0]
          |some l=>exact h.lb l e
         have hk:FmI { f with ln:=some (lnF (lnOf f) c).1} (i+1):=⟨hm.bs,hm.ml,hm.h0,hm.h1,hm.s0,hm.p0,hm.fl,hm.ff,(fun l e=>by cases e;omega),(fun _ e=>by cases e),hm.on⟩
         split
         · exact Yf hk (by simp only;omega) _
         · split
           · exact zvk hk (by simp only;omega) (by omega)
           · exact hk
       · exact hm
theorem zuR (k:Int) (hneed:False):Spc Tryz.prog 121 [.v (.one (.p (.val (.pointer none)))),.v (.one (.p (.int .u8 k)))] [] (.ret (.tup [.one (.p (.str ([]))),.one (.p (.bool false)),.one (.p (.int .i64 0))])) []:=hneed.elim
def X0 (I:Alg):KU
 |[.v (.one (.p (.val (.pointer none)))),.v (.one (.p (.int .u8 k)))],[]=>some (.one ⟨I.hid (False),(.ret (.tup [.one (.p (.str (I.hid ([])))),.one (.p (.bool false)),.one (.p (.int .i64 0))])),[]⟩)
 |_,_=>none
theorem zdW:zu Tryz.prog 121 (X0 alg):=by
 intro args hp r h;unfold X0 at h
 split at h
 · cases h;exact fun hn=>zuR _ hn
 · cases h
def zdV:Know Tryz.prog:=⟨121,X0,zdW⟩
def zdU:Know Tryz.prog:=⟨121,fun I=>zx I (X0 I),zf zdW⟩
def fmN (f:Fm):Prop:=∃ i:Nat,i≤1000000∧FmI f i
theorem zya (m:Str) (hd:Int) (bs:List Int) (p:Int) (fs:List Fld) (pa sk co:Int) (out:List Evt) (k:Int) (hneed:fmN ⟨m,hd,bs,p,none,fs,pa,sk,co,out⟩∧0≤k∧k≤255):Spc Tryz.prog 277 [.v (.one (.ptr 0 0)),.v (.one (.p (.int .u8 k)))] [.abs (.fm ⟨m,hd,bs,p,none,fs,pa,sk,co,out⟩)] (.ret (.tup [])) [.abs (.fm ((fmF ⟨m,hd,bs,p,none,fs,pa,sk,co,out⟩ (UInt8.ofNat k.toNat))))]:=by
 obtain⟨⟨i,hi,hI0⟩,hk0,hk1⟩:=hneed;obtain⟨g1,g2,g3,g4,g5,g6,g7,g8,g9,g10,g11⟩:=hI0;simp only at g1 g2 g3 g4 g5 g6 g7 g8 g9 g10 g11
 have g2:=Nat.le_trans g2 (show 1000≤1000000 by decide)
 have hfd:FdOk fs:=⟨by omega,fun x hx=>by have:=g8 x hx;omega⟩
 have h10:=u8k hk0 hk1 10 (by decide)
 have h10:(UInt8.ofNat k.toNat=10)=(k=10):=h10;generalize hr:fmF ⟨m,hd,bs,p,none,fs,pa,sk,co,out⟩ (UInt8.ofNat k.toNat)=r;unfold fmF lnOf at hr;simp only [h10] at hr;have hll:=trivial
 refine spH Tryz.func277 (by kernel_rfl) { cfgF with keep:=some [0,1,4,5,6,10,11,17]} [zaN,zaM,rY,rX,zdV,zdU,tY,tX,zcL,zcK,zen,zem,zin,zim] (by kernel_rfl) ?_
 intro I X hI hX
 refine orcL ?_;go_invoke;refine orcS (by kernel_rfl) ?_
 simp only [zi,Nat.reduceAdd];subst hI;simp only [nrmA,nrmB,nrlB,reduceCtorEq,HO.abs.injEq,Gh.fm.injEq]
 (repeat' (first|refine ja ?_ ?_|intro _))<;>first|omega|exact jb|exact jc ‹False›|skip
 all_goals first
  |omega
  |with_reducible assumption
  |(refine⟨by simp only;omega,⟨g1,g2,g3,.inr g4,g5⟩,?_⟩;done)
  |exact⟨g1,g2,g3,.inr g4,g5⟩
  |exact⟨by simp only;omega,⟨g1,g2,g3,.inr g4,g5⟩,hfd,g6⟩
  |exact Nat.le_trans hll (by omega)
  |(unfold vU;simp only;omega)
  |(unfold fm9;simp only;omega)
  |(exact absurd rfl (g10 ‹_›))
  |(subst hr;simp [*,ln0];done)
theorem zx9 (m:Str) (hd:Int) (bs:List Int) (p:Int) (ln:Ln) (fs:List Fld) (pa sk co:Int) (out:List Evt) (k:Int) (hneed:fmN ⟨m,hd,bs,p,some ln,fs,pa,sk,co,out⟩∧0≤k∧k≤255):Spc Tryz.prog 277 [.v (.one (.ptr 0 0)),.v (.one (.p (.int .u8 k)))] [.abs (.fm ⟨m,hd,bs,p,some ln,fs,pa,sk,co,out⟩)] (.ret (.tup [])) [.abs (.fm ((fmF ⟨m,hd,bs,p,some ln,fs,pa,sk,co,out⟩ (UInt8.ofNat k.toNat))))]:=by
 obtain⟨⟨i,hi,hI0⟩,hk0,hk1⟩:=hneed;obtain⟨g1,g2,g3,g4,g5,g6,g7,g8,g9,g10,g11⟩:=hI0;simp only at g1 g2 g3 g4 g5 g6 g7 g8 g9 g10 g11
 have g2:=Nat.le_trans g2 (show 1000≤1000000 by decide)
 have hfd:FdOk fs:=⟨by omega,fun x hx=>by have:=g8 x hx;omega⟩
 have h10:=u8k hk0 hk1 10 (by decide)
 have h10:(UInt8.ofNat k.toNat=10)=(k=10):=h10;generalize hr:fmF ⟨m,hd,bs,p,some ln,fs,pa,sk,co,out⟩ (UInt8.ofNat k.toNat)=r;unfold fmF lnOf at hr;simp only [h10] at hr;have hll:=Y3 ln (UInt8.ofNat k.toNat);have hlb:=g9 ln rfl
 refine spH Tryz.func277 (by kernel_rfl) { cfgF with keep:=some [0,1,4,5,6,10,11,17]} [zaN,zaM,rY,rX,zdV,zdU,tY,tX,zcL,zcK,zen,zem,zin,zim] (by kernel_rfl) ?_
 intro I X hI hX
 refine orcL ?_;go_invoke;refine orcS (by kernel_rfl) ?_
 simp only [zi,Nat.reduceAdd];subst hI;simp only [nrmA,nrmB,nrlB,reduceCtorEq,HO.abs.injEq,Gh.fm.injEq]
 (repeat' (first|refine ja ?_ ?_|intro _))<;>first|omega|exact jb|exact jc ‹False›|skip
 all_goals first
  |omega
  |with_reducible assumption
  |(refine⟨by simp only;omega,⟨g1,g2,g3,.inr g4,g5⟩,?_⟩;done)
  |exact⟨g1,g2,g3,.inr g4,g5⟩
  |exact⟨by simp only;omega,⟨g1,g2,g3,.inr g4,g5⟩,hfd,g6⟩
  |exact Nat.le_trans hll (by omega)
  |(unfold vU;simp only;omega)
  |(unfold fm9;simp only;omega)
  |(exact absurd rfl (g10 ‹_›))
  |(subst hr;simp [*,ln0];done)
def za2 (I:Alg):KU
 |[.v (.one (.ptr 0 0)),.v (.one (.p (.int .u8 k)))],[.abs (.fm f)]=>some (.one ⟨I.hid (fmN f∧0≤k∧k≤255),(.ret (.tup [])),[.abs (.fm (I.hid (fmF f (UInt8.ofNat k.toNat))))]⟩)
 |_,_=>none
theorem zm3:zu Tryz.prog 277 (za2 alg):=by
 intro args hp r h;unfold za2 at h;split at h<;>cases h
 rename_i k f;simp only [CT.Good,zh];intro hneed;obtain⟨m,hd,bs,p,ln,fs,pa,sk,co,out⟩:=f
 cases ln with
 |none=>exact zya m hd bs p fs pa sk co out k hneed
 |some ln=>exact zx9 m hd bs p ln fs pa sk co out k hneed
def za1:Know Tryz.prog:=⟨277,za2,zm3⟩
def za0:Know Tryz.prog:=⟨277,fun I=>zx I (za2 I),zf zm3⟩
end Go.Proofs.YtkjepecoodjbmaaGreatDoor
namespace Go.Proofs.YtkjepecoodjbmaaGreatDoor
open Go Go.Sep Go.Ab
set_option maxRecDepth 100000
def zH (l:List Evt):Nat:=(l.map fun e=>e.bytes.length).sum
theorem yA (a b:List Evt):zH (a++b)=zH a+zH b:=by simp [zH]
theorem xk (e:Evt):zH [e]=e.bytes.length:=by simp [zH]
theorem zrA (o:List Evt) (e:Evt):zH (tu o e)≤zH o+e.bytes.length:=by
 rcases List.eq_nil_or_concat o with rfl|⟨z,x,rfl⟩
 · rw [Y5,xk];omega
 · rw [List.concat_eq_append,xI]
   split
   · rw [yA,yA,xk,xk];simp only [evB,jk];omega
   · rw [yA _ [e],xk e];exact jL _
theorem X3 (l:List Evt) (e:Evt):yO (l++[e])=tu (yO l) e:=by simp [yO,List.foldl_append]
theorem zcq (l:List Evt):zH (yO l)≤zH l:=by
 suffices ∀ l o:List Evt,zH (l.foldl tu o)≤zH o+zH l by have:=this l [];simpa [yO,zH] using this
 intro l
 induction l with
 |nil=>intro o;simp [zH]
 | cons e r ih=>
   intro o;have h1:=ih (tu o e);have h2:=zrA o e
   have h3:zH (e::r)=e.bytes.length+zH r:=by simp [zH]
   rw [List.foldl_cons];omega
theorem zrB (o:List Evt) (e:Evt):(tu o e).length≤o.length+1:=by
 rcases List.eq_nil_or_concat o with rfl|⟨z,x,rfl⟩
 · simp [Y5]
 · rw [List.concat_eq_append,xI]
   split<;>simp
theorem zoW (l:List Evt) (i:Nat):zH (l.take i)≤zH l:=by
 have:=yA (l.take i) (l.drop i);rw [List.take_append_drop] at this;omega
theorem U2 {l:List Evt} {e:Evt} (h:e ∈ l):e.bytes.length≤zH l:=by
 obtain⟨a,b,rfl⟩:=List.append_of_mem h;have:=yA a (e::b)
 have h3:zH (e::b)=e.bytes.length+zH b:=by simp [zH]
 omega
theorem zcr (l:List Evt):(yO l).length≤l.length:=by
 suffices ∀ l o:List Evt,(l.foldl tu o).length≤o.length+l.length by have:=this l [];simpa [yO] using this
 intro l
 induction l with
 |nil=>intro o;simp
 | cons e r ih=>
   intro o;have h1:=ih (tu o e);have h2:=zrB o e;rw [List.foldl_cons,jh];omega
def VT (I:Alg):KU
 |[.v (.one (.row 0))],[.row .evt 34 l]=>(fun(l:List Evt)=>(some (.one ⟨I.hid (zH l≤1000000∧l.length≤10000000),(.ret (.v (.one (.row 1)))),[.row .evt 34 l,.row .evt 34 (I.hid (yO l))]⟩):Option CT)) l
 |_,_=>none
theorem zgT:zu Tryz.prog 81 (VT alg):=by
 intro args hp r h;unfold VT at h;split at h<;>cases h
 rename_i l
 revert l;intro(l:List Evt)
 simp only [CT.Good,zh];intro hneed;obtain⟨hn1,hn2⟩:=hneed
 refine spH Tryz.func81 (by kernel_rfl) { nr:=[3],keep:=some [0,2,3,5,6,7,8,9,10]} [] (by kernel_rfl) ?_
 intro I X hI hX
 refine orcL ?_;go_invoke;refine orcS (by kernel_rfl) ?_
 simp only [zi,Nat.reduceAdd]
 refine lpH hI [] hX [0,3,8,9,10] (fun(g:Nat × List Evt)=>match g with|(i,o)=>i≤l.length∧o=yO (l.take i)) (fun(g:Nat × List Evt)=>match g with|(i,o)=>⟨[(0,.v (.one (.row 0))),(3,.v (.one (.row 1))),(8,.v (.one (.row 0))),(9,.v (.one (.p (.int .i64 ((I.len (α:=Evt) l)))))),(10,.v (.one (.p (.int .i64 i))))],[.row .evt 34 l,.row .evt 34 o],52,none⟩) (fun(g:Nat × List Evt)=>match g with|(i,o)=>l.length - i) (0,[]) (by kernel_rfl) (by kernel_rfl) ?_ ?_
 · exact⟨jM _,rfl⟩
 rintro⟨i,o⟩ ⟨h1,h2⟩ A hA;simp only at hA h1 h2
 refine orcL ?_;go_invoke;refine orcS (by kernel_rfl) ?_
 simp only [zi,Nat.reduceAdd];subst hI;simp only [nrmA,nrmB,nrlB,reduceCtorEq];have hl1:=zcr (l.take i)
 have hl2:(l.take i).length≤i:=by rw [jv];omega
 have hl3:=zcq (l.take i)
 have hl4: ∀ x ∈ yO (l.take i),x.bytes.length≤1000000:=fun x h=>by
  have a:=U2 h;have b:=zoW l i;omega
 have hw: ¬ i<l.length→o=yO l:=fun h=>by rw [h2,jq (by omega)]
 have hy:i<l.length→yO (l.take (i+1))=tu o (l.getD i ⟨0,⟨[],[],0,[],0⟩,[],⟨[],[],[],[]⟩,0⟩):=fun h=>by rw [jB h,X3,h2];simp [h]
 have hl5:i<l.length→(l.getD i ⟨0,⟨[],[],0,[],0⟩,[],⟨[],[],[],[]⟩,0⟩).bytes.length≤1000000:=fun h=>by
  have:l.getD i ⟨0,⟨[],[],0,[],0⟩,[],⟨[],[],[],[]⟩,0⟩ ∈ l:=by simp [h]
  have:=U2 this;omega
 rw [← h2] at hl1 hl4
 refine⟨fun c=> ?_,fun c=>hw (by omega)⟩
 have hlt:i<l.length:=by omega
 have hy:=hy hlt;have hl5:=hl5 hlt;generalize l.getD i ⟨0,⟨[],[],0,[],0⟩,[],⟨[],[],[],[]⟩,0⟩=e at *
 have hgo: ∀ r:List Evt,r=tu o e→(fun p:Nat × List Evt=>p.1≤l.length∧p.2=yO (l.take p.1)) (i+1,r):=fun r h=>⟨by simp only;omega,by simp only;rw [hy,h]⟩
 rcases List.eq_nil_or_concat o with he|⟨z,x,he⟩
 · subst he
   rw [Y5] at hgo;simp only [jh,ji]
   (repeat' (first|refine ja ?_ ?_|intro _))<;>first|omega|exact jb|exact jc ‹False›|skip
   all_goals first
    |omega
    |exact hA (i+1,_) (hgo _ rfl) (by simp only;omega)
 · rw [List.concat_eq_append] at he
   subst he;have hx:=hl4 x (List.mem_append_right _ (List.mem_singleton.2 rfl))
   have hz:(((z++[x]).length:Int) - 1).toNat=z.length:=by rw [jk,jr];omega
   have hg: ∀ d,(z++[x]).getD z.length d=x:=fun d=>by simp
   have hs: ∀ d,(z++[x]).set z.length d=z++[d]:=fun d=>by simp
   rw [xI] at hgo;rw [jk,jr] at hl1;simp only [hz,hg,hs];simp only [jk,jh,ji];clear hz hg hs
   (repeat' (first|refine ja ?_ ?_|intro _))<;>first|omega|exact jb|exact jc ‹False›|skip
   all_goals first
    |omega
    |(rw [if_pos ⟨‹e.kind=2›,‹x.kind=2›⟩] at hgo;exact hA (i+1,_) (hgo _ rfl) (by simp only;omega))
    |(rw [if_neg (fun h=>‹¬ e.kind=2› h.1)] at hgo;exact hA (i+1,_) (hgo _ rfl) (by simp only;omega))
    |(rw [if_neg (fun h=>‹¬ x.kind=2› h.2)] at hgo;exact hA (i+1,_) (hgo _ rfl) (by simp only;omega))
def xZ:Know Tryz.prog:=⟨81,VT,zgT⟩
def xY:Know Tryz.prog:=⟨81,fun I=>zx I (VT I),zf zgT⟩
end Go.Proofs.YtkjepecoodjbmaaGreatDoor
