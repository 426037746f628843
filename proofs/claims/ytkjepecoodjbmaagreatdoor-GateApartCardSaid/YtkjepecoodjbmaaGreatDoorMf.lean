/- Texts of this proof, one behind the other: GatJ GatG GatK ReqS GatR ReqO ReqT ReqU SamF RplC ChkG ReqV GatS. -/
import Derived.Test.YtkjepecoodjbmaaGreatDoorMe
set_option linter.all false
namespace Go.Proofs.YtkjepecoodjbmaaGreatDoor
open Go Go.Sep Go.Ab
set_option maxRecDepth 100000
def Tf (I:Alg) (args:List D) (hp:List HO):Option CT:=match args,hp with
 |[.v (.one (.ptr 0 0)),.v (.one (.p (.int .i64 0)))],[.obj 50 [(.ptr 1 0),(.ptr 2 0),(.ptr 3 0),(.ptr 4 0),(.ptr 5 0)],.pack [.obj 54 [(.ptr 1 0),(.ptr 2 0)],.pack [.obj 124 [(.row 1),(.p (.int .i64 n))],.row .upl 81 l],.pack [.obj 156 [(.row 1),(.p (.int .i64 s))],.row .byte 5 b]],.abs (.cn c0),.abs (.cn c1),.abs (.cn c2),.abs (.cn c3)]=>(fun(l:List Upl) (n:Int) (b:Str) (s:Int) (c0 c1 c2 c3:Cn)=>(some (.one ⟨I.hid (True),(.ret (.v (.one (.p (.bool (I.hid ((x9 c0.q)))))))),[.obj 50 [(.ptr 1 0),(.ptr 2 0),(.ptr 3 0),(.ptr 4 0),(.ptr 5 0)],.pack [.obj 54 [(.ptr 1 0),(.ptr 2 0)],.pack [.obj 124 [(.row 1),(.p (.int .i64 n))],.row .upl 81 l],.pack [.obj 156 [(.row 1),(.p (.int .i64 s))],.row .byte 5 b]],.abs (.cn c0),.abs (.cn c1),.abs (.cn c2),.abs (.cn c3)]⟩):Option CT)) l n b s c0 c1 c2 c3
 |_,_=>none
theorem zhS:zx Tryz.prog 24 (Tf alg):=by
 intro args hp r h;unfold Tf at h;split at h<;>cases h
 rename_i n l s b c0 c1 c2 c3
 revert l;intro(l:List Upl)
 simp only [CT.Good,zi];intro _;obtain⟨q,⟨m,t,mi,f,le⟩,cb,li,w⟩:=c0;dsimp only
 refine spcG zh mixed Tryz.func24 (by kernel_rfl) { cfgG with keep:=some [0,1,4]} [YG,YF] (by kernel_rfl) ?_
 intro I X hI hX;cases w
 all_goals
  refine orcL ?_;go_invoke;refine orcS (by kernel_rfl) ?_
  simp only [zq,Nat.reduceAdd];subst hI;simp only [nrmA,nrmB,nrlB,reduceCtorEq,HO.pack.injEq,HO.obj.injEq,HO.abs.injEq,Gh.cn.injEq]
  (repeat' (first|refine ja ?_ ?_|intro _))<;>first|omega|exact jb|exact jc ‹False›|skip
def YX:Know Tryz.prog:=⟨24,Tf,zhS⟩
def YW:Know Tryz.prog:=⟨24,fun I=>zy I (Tf I),zf zhS⟩
def Td (I:Alg) (args:List D) (hp:List HO):Option CT:=match args,hp with
 |[.v (.one (.ptr 0 0)),.v (.one (.p (.int .i64 1)))],[.obj 50 [(.ptr 1 0),(.ptr 2 0),(.ptr 3 0),(.ptr 4 0),(.ptr 5 0)],.pack [.obj 54 [(.ptr 1 0),(.ptr 2 0)],.pack [.obj 124 [(.row 1),(.p (.int .i64 n))],.row .upl 81 l],.pack [.obj 156 [(.row 1),(.p (.int .i64 s))],.row .byte 5 b]],.abs (.cn c0),.abs (.cn c1),.abs (.cn c2),.abs (.cn c3)]=>(fun(l:List Upl) (n:Int) (b:Str) (s:Int) (c0 c1 c2 c3:Cn)=>(some (.one ⟨I.hid (True),(.ret (.v (.one (.p (.bool (I.hid ((x9 c1.q)))))))),[.obj 50 [(.ptr 1 0),(.ptr 2 0),(.ptr 3 0),(.ptr 4 0),(.ptr 5 0)],.pack [.obj 54 [(.ptr 1 0),(.ptr 2 0)],.pack [.obj 124 [(.row 1),(.p (.int .i64 n))],.row .upl 81 l],.pack [.obj 156 [(.row 1),(.p (.int .i64 s))],.row .byte 5 b]],.abs (.cn c0),.abs (.cn c1),.abs (.cn c2),.abs (.cn c3)]⟩):Option CT)) l n b s c0 c1 c2 c3
 |_,_=>none
theorem zhR:zx Tryz.prog 24 (Td alg):=by
 intro args hp r h;unfold Td at h;split at h<;>cases h
 rename_i n l s b c0 c1 c2 c3
 revert l;intro(l:List Upl)
 simp only [CT.Good,zi];intro _;obtain⟨q,⟨m,t,mi,f,le⟩,cb,li,w⟩:=c1;dsimp only
 refine spcG zh mixed Tryz.func24 (by kernel_rfl) { cfgG with keep:=some [0,1,4]} [YG,YF,YX,YW] (by kernel_rfl) ?_
 intro I X hI hX;cases w
 all_goals
  refine orcL ?_;go_invoke;refine orcS (by kernel_rfl) ?_
  simp only [zq,Nat.reduceAdd];subst hI;simp only [nrmA,nrmB,nrlB,reduceCtorEq,HO.pack.injEq,HO.obj.injEq,HO.abs.injEq,Gh.cn.injEq]
  (repeat' (first|refine ja ?_ ?_|intro _))<;>first|omega|exact jb|exact jc ‹False›|skip
def Tc:Know Tryz.prog:=⟨24,Td,zhR⟩
def U9:Know Tryz.prog:=⟨24,fun I=>zy I (Td I),zf zhR⟩
def U8 (I:Alg) (args:List D) (hp:List HO):Option CT:=match args,hp with
 |[.v (.one (.ptr 0 0)),.v (.one (.p (.int .i64 2)))],[.obj 50 [(.ptr 1 0),(.ptr 2 0),(.ptr 3 0),(.ptr 4 0),(.ptr 5 0)],.pack [.obj 54 [(.ptr 1 0),(.ptr 2 0)],.pack [.obj 124 [(.row 1),(.p (.int .i64 n))],.row .upl 81 l],.pack [.obj 156 [(.row 1),(.p (.int .i64 s))],.row .byte 5 b]],.abs (.cn c0),.abs (.cn c1),.abs (.cn c2),.abs (.cn c3)]=>(fun(l:List Upl) (n:Int) (b:Str) (s:Int) (c0 c1 c2 c3:Cn)=>(some (.one ⟨I.hid (True),(.ret (.v (.one (.p (.bool (I.hid ((x9 c2.q)))))))),[.obj 50 [(.ptr 1 0),(.ptr 2 0),(.ptr 3 0),(.ptr 4 0),(.ptr 5 0)],.pack [.obj 54 [(.ptr 1 0),(.ptr 2 0)],.pack [.obj 124 [(.row 1),(.p (.int .i64 n))],.row .upl 81 l],.pack [.obj 156 [(.row 1),(.p (.int .i64 s))],.row .byte 5 b]],.abs (.cn c0),.abs (.cn c1),.abs (.cn c2),.abs (.cn c3)]⟩):Option CT)) l n b s c0 c1 c2 c3
 |_,_=>none
theorem zhQ:zx Tryz.prog 24 (U8 alg):=by
 intro args hp r h;unfold U8 at h;split at h<;>cases h
 rename_i n l s b c0 c1 c2 c3
 revert l;intro(l:List Upl)
 simp only [CT.Good,zi];intro _;obtain⟨q,⟨m,t,mi,f,le⟩,cb,li,w⟩:=c2;dsimp only
 refine spcG zh mixed Tryz.func24 (by kernel_rfl) { cfgG with keep:=some [0,1,4]} [YG,YF,YX,YW,Tc,U9] (by kernel_rfl) ?_
 intro I X hI hX;cases w
 all_goals
  refine orcL ?_;go_invoke;refine orcS (by kernel_rfl) ?_
  simp only [zq,Nat.reduceAdd];subst hI;simp only [nrmA,nrmB,nrlB,reduceCtorEq,HO.pack.injEq,HO.obj.injEq,HO.abs.injEq,Gh.cn.injEq]
  (repeat' (first|refine ja ?_ ?_|intro _))<;>first|omega|exact jb|exact jc ‹False›|skip
def zcw:Know Tryz.prog:=⟨24,U8,zhQ⟩
def zcv:Know Tryz.prog:=⟨24,fun I=>zy I (U8 I),zf zhQ⟩
def U7 (I:Alg) (args:List D) (hp:List HO):Option CT:=match args,hp with
 |[.v (.one (.ptr 0 0)),.v (.one (.p (.int .i64 3)))],[.obj 50 [(.ptr 1 0),(.ptr 2 0),(.ptr 3 0),(.ptr 4 0),(.ptr 5 0)],.pack [.obj 54 [(.ptr 1 0),(.ptr 2 0)],.pack [.obj 124 [(.row 1),(.p (.int .i64 n))],.row .upl 81 l],.pack [.obj 156 [(.row 1),(.p (.int .i64 s))],.row .byte 5 b]],.abs (.cn c0),.abs (.cn c1),.abs (.cn c2),.abs (.cn c3)]=>(fun(l:List Upl) (n:Int) (b:Str) (s:Int) (c0 c1 c2 c3:Cn)=>(some (.one ⟨I.hid (True),(.ret (.v (.one (.p (.bool (I.hid ((x9 c3.q)))))))),[.obj 50 [(.ptr 1 0),(.ptr 2 0),(.ptr 3 0),(.ptr 4 0),(.ptr 5 0)],.pack [.obj 54 [(.ptr 1 0),(.ptr 2 0)],.pack [.obj 124 [(.row 1),(.p (.int .i64 n))],.row .upl 81 l],.pack [.obj 156 [(.row 1),(.p (.int .i64 s))],.row .byte 5 b]],.abs (.cn c0),.abs (.cn c1),.abs (.cn c2),.abs (.cn c3)]⟩):Option CT)) l n b s c0 c1 c2 c3
 |_,_=>none
theorem zhP:zx Tryz.prog 24 (U7 alg):=by
 intro args hp r h;unfold U7 at h;split at h<;>cases h
 rename_i n l s b c0 c1 c2 c3
 revert l;intro(l:List Upl)
 simp only [CT.Good,zi];intro _;obtain⟨q,⟨m,t,mi,f,le⟩,cb,li,w⟩:=c3;dsimp only
 refine spcG zh mixed Tryz.func24 (by kernel_rfl) { cfgG with keep:=some [0,1,4]} [YG,YF,YX,YW,Tc,U9,zcw,zcv] (by kernel_rfl) ?_
 intro I X hI hX;cases w
 all_goals
  refine orcL ?_;go_invoke;refine orcS (by kernel_rfl) ?_
  simp only [zq,Nat.reduceAdd];subst hI;simp only [nrmA,nrmB,nrlB,reduceCtorEq,HO.pack.injEq,HO.obj.injEq,HO.abs.injEq,Gh.cn.injEq]
  (repeat' (first|refine ja ?_ ?_|intro _))<;>first|omega|exact jb|exact jc ‹False›|skip
def zhO:Know Tryz.prog:=⟨24,U7,zhP⟩
def zhN:Know Tryz.prog:=⟨24,fun I=>zy I (U7 I),zf zhP⟩
theorem outK {k:Int} (h:k<0∨4≤k):(∃ j:Nat,k=Int.negSucc j)∨(∃ j:Nat,k=Int.ofNat (j+4)):=by
 rcases k with j|j
 · refine .inr ⟨j - 4,?_⟩
   have:(Int.ofNat j)=(j:Int):=rfl;rw [this] at h
   rw [show j - 4+4=j by omega]
 · exact .inl ⟨j,rfl⟩
def U6 (I:Alg) (args:List D) (hp:List HO):Option CT:=match args,hp with
 |[.v (.one (.ptr 0 0)),.v (.one (.p (.int .i64 k)))],[.obj 50 [(.ptr 1 0),(.ptr 2 0),(.ptr 3 0),(.ptr 4 0),(.ptr 5 0)],.pack [.obj 54 [(.ptr 1 0),(.ptr 2 0)],.pack [.obj 124 [(.row 1),(.p (.int .i64 n))],.row .upl 81 l],.pack [.obj 156 [(.row 1),(.p (.int .i64 s))],.row .byte 5 b]],.abs (.cn c0),.abs (.cn c1),.abs (.cn c2),.abs (.cn c3)]=>(fun(l:List Upl) (n:Int) (b:Str) (s:Int) (c0 c1 c2 c3:Cn) (k:Int)=>(some (.one ⟨I.hid (k<0∨4≤k),(.ret (.v (.one (.p (.bool false))))),[.obj 50 [(.ptr 1 0),(.ptr 2 0),(.ptr 3 0),(.ptr 4 0),(.ptr 5 0)],.pack [.obj 54 [(.ptr 1 0),(.ptr 2 0)],.pack [.obj 124 [(.row 1),(.p (.int .i64 n))],.row .upl 81 l],.pack [.obj 156 [(.row 1),(.p (.int .i64 s))],.row .byte 5 b]],.abs (.cn c0),.abs (.cn c1),.abs (.cn c2),.abs (.cn c3)]⟩):Option CT)) l n b s c0 c1 c2 c3 k
 |_,_=>none
theorem zhM:zx Tryz.prog 24 (U6 alg):=by
 intro args hp r h;unfold U6 at h;split at h<;>cases h
 rename_i k n l s b c0 c1 c2 c3
 revert l;intro(l:List Upl)
 simp only [CT.Good,zi];intro hneed;have hk:=outK hneed
 refine spcG zh mixed Tryz.func24 (by kernel_rfl) { cfgG with keep:=some [0,1,4]} [YG,YF,YX,YW,Tc,U9,zcw,zcv,zhO,zhN] (by kernel_rfl) ?_
 intro I X hI hX
 rcases hk with⟨j,rfl⟩|⟨j,rfl⟩
 all_goals
  refine orcL ?_;go_invoke;refine orcS (by kernel_rfl) ?_
  simp only [zq,Nat.reduceAdd];subst hI;simp only [nrmA,nrmB,nrlB,reduceCtorEq]
  (repeat' (first|refine ja ?_ ?_|intro _))<;>first|omega|exact jb|exact jc ‹False›|skip
def zqq:Know Tryz.prog:=⟨24,U6,zhM⟩
def zqp:Know Tryz.prog:=⟨24,fun I=>zy I (U6 I),zf zhM⟩
def UY (I:Alg) (args:List D) (hp:List HO):Option CT:=match args,hp with
 |[.v (.one (.ptr 0 0)),.v (.one (.p (.int .i64 k))),.v (.one (.p (.list .byte x)))],[.obj 50 [(.ptr 1 0),(.ptr 2 0),(.ptr 3 0),(.ptr 4 0),(.ptr 5 0)],.pack [.obj 54 [(.ptr 1 0),(.ptr 2 0)],.pack [.obj 124 [(.row 1),(.p (.int .i64 n))],.row .upl 81 l],.pack [.obj 156 [(.row 1),(.p (.int .i64 s))],.row .byte 5 b]],.abs (.cn c0),.abs (.cn c1),.abs (.cn c2),.abs (.cn c3)]=>(fun(l:List Upl) (n:Int) (b:Str) (s:Int) (c0 c1 c2 c3:Cn) (k:Int) (x:Str)=>(some (.one ⟨I.hid (k<0∨4≤k),(.ret (.tup [(.one (.p (.list .byte (I.hid ([]))))),(.one (.p (.int .i64 1)))])),[.obj 50 [(.ptr 1 0),(.ptr 2 0),(.ptr 3 0),(.ptr 4 0),(.ptr 5 0)],.pack [.obj 54 [(.ptr 1 0),(.ptr 2 0)],.pack [.obj 124 [(.row 1),(.p (.int .i64 n))],.row .upl 81 l],.pack [.obj 156 [(.row 1),(.p (.int .i64 s))],.row .byte 5 b]],.abs (.cn c0),.abs (.cn c1),.abs (.cn c2),.abs (.cn c3)]⟩):Option CT)) l n b s c0 c1 c2 c3 k x
 |_,_=>none
theorem zhG:zx Tryz.prog 14 (UY alg):=by
 intro args hp r h;unfold UY at h;split at h<;>cases h
 rename_i k x n l s b c0 c1 c2 c3
 revert l;intro(l:List Upl)
 simp only [CT.Good,zi];intro hneed;have hk:=outK hneed
 refine spcG zh mixed Tryz.func14 (by kernel_rfl) { cfgG with rl:=[0],keep:=some [0,1,2,6,7,8,10,37,38,39]} [xY,xX,xW,xU,yA,yx,yJ,yI,yQ,yP,yV,yU,xI,xH,vG,vF,tY,tX,YV,YU] (by kernel_rfl) ?_
 intro I X hI hX
 rcases hk with⟨j,rfl⟩|⟨j,rfl⟩
 all_goals
  refine orcL ?_;go_invoke;refine orcS (by kernel_rfl) ?_
  simp only [zq,Nat.reduceAdd];subst hI;simp only [nrmA,nrmB,nrlB,reduceCtorEq]
  (repeat' (first|refine ja ?_ ?_|intro _))<;>first|omega|exact jb|exact jc ‹False›|skip
def UX:Know Tryz.prog:=⟨14,UY,zhG⟩
def UW:Know Tryz.prog:=⟨14,fun I=>zy I (UY I),zf zhG⟩
def UL (I:Alg) (args:List D) (hp:List HO):Option CT:=match args,hp with
 |[.v (.one (.ptr 0 0)),.v (.one (.p (.int .i64 k)))],[.obj 50 [(.ptr 1 0),(.ptr 2 0),(.ptr 3 0),(.ptr 4 0),(.ptr 5 0)],.pack [.obj 54 [(.ptr 1 0),(.ptr 2 0)],.pack [.obj 124 [(.row 1),(.p (.int .i64 n))],.row .upl 81 l],.pack [.obj 156 [(.row 1),(.p (.int .i64 s))],.row .byte 5 b]],.abs (.cn c0),.abs (.cn c1),.abs (.cn c2),.abs (.cn c3)]=>(fun(l:List Upl) (n:Int) (b:Str) (s:Int) (c0 c1 c2 c3:Cn) (k:Int)=>(some (.one ⟨I.hid (k<0∨4≤k),(.ret (.v (.one (.p (.int .i64 1))))),[.obj 50 [(.ptr 1 0),(.ptr 2 0),(.ptr 3 0),(.ptr 4 0),(.ptr 5 0)],.pack [.obj 54 [(.ptr 1 0),(.ptr 2 0)],.pack [.obj 124 [(.row 1),(.p (.int .i64 n))],.row .upl 81 l],.pack [.obj 156 [(.row 1),(.p (.int .i64 s))],.row .byte 5 b]],.abs (.cn c0),.abs (.cn c1),.abs (.cn c2),.abs (.cn c3)]⟩):Option CT)) l n b s c0 c1 c2 c3 k
 |_,_=>none
theorem zhz:zx Tryz.prog 20 (UL alg):=by
 intro args hp r h;unfold UL at h;split at h<;>cases h
 rename_i k n l s b c0 c1 c2 c3
 revert l;intro(l:List Upl)
 simp only [CT.Good,zi];intro hneed;have hk:=outK hneed
 refine spcG zh mixed Tryz.func20 (by kernel_rfl) { cfgG with keep:=some [0,1,4,5]} [xG,xE,zdw,zdv,ZO,ZN,YT,YS,UQ,UO,zcu,zct,zhB,zhA] (by kernel_rfl) ?_
 intro I X hI hX
 rcases hk with⟨j,rfl⟩|⟨j,rfl⟩
 all_goals
  refine orcL ?_;go_invoke;refine orcS (by kernel_rfl) ?_
  simp only [zq,Nat.reduceAdd];subst hI;simp only [nrmA,nrmB,nrlB,reduceCtorEq]
  (repeat' (first|refine ja ?_ ?_|intro _))<;>first|omega|exact jb|exact jc ‹False›|skip
def zqo:Know Tryz.prog:=⟨20,UL,zhz⟩
def zqn:Know Tryz.prog:=⟨20,fun I=>zy I (UL I),zf zhz⟩
def zfN (I:Alg) (args:List D) (hp:List HO):Option CT:=match args,hp with
 |[.v (.one (.ptr 0 0))],[.pack [.obj 54 [(.ptr 1 0),(.ptr 2 0)],.pack [.obj 124 [(.row 1),(.p (.int .i64 n))],.row .upl 81 l],.pack [.obj 156 [(.row 1),(.p (.int .i64 s))],.row .byte 5 b]]]=>(fun(l:List Upl) (n:Int) (b:Str) (s:Int)=>(some (.one ⟨I.hid (True),(.ret (.v (.one (.ptr 1 0)))),[.pack [.obj 54 [(.ptr 1 0),(.ptr 2 0)],.pack [.obj 124 [(.row 1),(.p (.int .i64 n))],.row .upl 81 l],.pack [.obj 156 [(.row 1),(.p (.int .i64 s))],.row .byte 5 b]],.obj 50 [(.ptr 0 0),(.ptr 2 0),(.ptr 3 0),(.ptr 4 0),(.ptr 5 0)],.abs (.cn cn0),.abs (.cn cn0),.abs (.cn cn0),.abs (.cn cn0)]⟩):Option CT)) l n b s
 |_,_=>none
theorem zqm:zx Tryz.prog 11 (zfN alg):=by
 intro args hp r h;unfold zfN at h;split at h<;>cases h
 rename_i n l s b
 revert l;intro(l:List Upl)
 simp only [CT.Good,zi];intro _
 refine spcG zh mixed Tryz.func11 (by kernel_rfl) { cfgG with keep:=some [0,2,3]} [znv,znu] (by kernel_rfl) ?_
 intro I X hI hX
 refine orcL ?_;go_invoke;refine orcS (by kernel_rfl) ?_
 simp only [zq,Nat.reduceAdd];subst hI;simp only [nrmA,nrmB,nrlB,reduceCtorEq,HO.pack.injEq,HO.obj.injEq]
def zfM:Know Tryz.prog:=⟨11,zfN,zqm⟩
def zfL:Know Tryz.prog:=⟨11,fun I=>zy I (zfN I),zf zqm⟩
end Go.Proofs.YtkjepecoodjbmaaGreatDoor
namespace Go.Proofs.YtkjepecoodjbmaaGreatDoor
open Go Go.Sep Go.Ab
theorem zq1 (x:GE) (s t:Str):evG (evG x (evB s)) (evB t)=evG x (evB (s++t)):=by
 simp [evG,evB]
theorem zms (x:GE) {e:Evt} (h:e.kind=2):evG x e=evG x (evB e.bytes):=by
 simp [evG,evB,h]
theorem znK (x:GE) (o:List Evt) (e:Evt):evsG x (uP o e)=evsG x (o++[e]):=by
 rcases List.eq_nil_or_concat o with rfl|⟨z,y,rfl⟩
 · rfl
 · rw [List.concat_eq_append,yO]
   split
   · rename_i h
     rw [Wn,jo,Wn]
     show evG (evsG x z) (evB (y.bytes++e.bytes))=evG (evG (evsG x z) y) e
     rw [zms _ h.1,zms (evsG x z) h.2,zq1]
   · rfl
theorem zeI (x:GE): ∀ (l o:List Evt),evsG x (l.foldl uP o)=evsG x (o++l)
 |[],o=>by simp
 | e::l,o=>by
   rw [List.foldl_cons,zeI x l,Wn,znK,← Wn];simp
theorem zqZ (x:GE) (l:List Evt):evsG x (zH l)=evsG x l:=zeI x l []
theorem zf0: ∀ (l:List Evt) (x:GE),evsG x l=⟨(evsG ⟨x.q,x.h,x.b,x.i,x.w,[]⟩ l).q,(evsG ⟨x.q,x.h,x.b,x.i,x.w,[]⟩ l).h,(evsG ⟨x.q,x.h,x.b,x.i,x.w,[]⟩ l).b,(evsG ⟨x.q,x.h,x.b,x.i,x.w,[]⟩ l).i,(evsG ⟨x.q,x.h,x.b,x.i,x.w,[]⟩ l).w,x.o++(evsG ⟨x.q,x.h,x.b,x.i,x.w,[]⟩ l).o⟩
 |[],x=>by simp [evsG]
 | e::l,x=>by
   show evsG (evG x e) l=_
   rw [zf0 l (evG x e),zjJ x e];dsimp only;have e2:evsG ⟨x.q,x.h,x.b,x.i,x.w,[]⟩ (e::l)=evsG (evG ⟨x.q,x.h,x.b,x.i,x.w,[]⟩ e) l:=rfl;rw [e2,zf0 l (evG ⟨x.q,x.h,x.b,x.i,x.w,[]⟩ e)]
   simp [jo]
theorem zgJ: ∀ (b:Str) {q:Rq},q.pos=4→yE q b=q
 |[],_,_=>rfl
 | c ::b,q,h=>by
   have:rqF q c=q:=by
    unfold rqF
    rw [if_neg (by omega),if_neg (by omega),if_neg (by omega)]
   show yE (rqF q c) b=q
   rw [this];exact zgJ b h
theorem zcQ (q:Sto) (c:Cn) (b:Str):fedE q c b=evsG ⟨q,c.h,c.body,c.live,c.own,[]⟩ (zC c.q b).out:=zqZ _ _
theorem zbf {q:Sto} {c:Cn} {b:Str} (h:c.q.pos=4):fedE q c b=⟨q,c.h,c.body,c.live,c.own,[]⟩∧zC c.q b= { c.q with out:=[]}:=by
 have:zC c.q b= { c.q with out:=[]}:=zgJ b (q:= { c.q with out:=[]}) h
 rw [zcQ,this];exact⟨rfl,rfl⟩
def qC (c:Cn):Cn:= { c with q:=wH c.q}
theorem zmf (q:Sto) (c:Cn) (b:Str):fdQ q c b=(fedE q c b).q:=by
 unfold fdQ
 split
 · rename_i h;rw [(zbf h).1]
 · rfl
theorem zuC (q:Sto) (c:Cn) (b:Str):fdO q c b=(fedE q c b).o:=by
 unfold fdO
 split
 · rename_i h;rw [(zbf h).1]
 · rfl
theorem zmh (q:Sto) (c:Cn) (b:Str):qC (fdC q c b)=qC (fedC q c b):=by
 unfold fdC
 split
 · rename_i h
   unfold fedC;rw [(zbf (q:=q) h).1,(zbf (q:=q) h).2];rfl
 · rfl
theorem zqN {q:Sto} {c d:Cn} (h:qC c=qC d) (b:Str):fedE q c b=fedE q d b∧qC (fedC q c b)=qC (fedC q d b):=by
 obtain⟨cq,ch,cb,ci,cw⟩:=c;obtain⟨dq,dh,db,di,dw⟩:=d;simp only [qC,Cn.mk.injEq] at h;obtain⟨h1,rfl,rfl,rfl,rfl⟩:=h;have e:=WS h1 b;unfold fedC fedE;dsimp only;rw [e];exact⟨rfl,rfl⟩
theorem zvU (q:Sto) (c:Cn) (a b:Str):(fedE q c (a++b)).q=(fedE (fedE q c a).q (fedC q c a) b).q∧(fedE q c (a++b)).o=(fedE q c a).o++(fedE (fedE q c a).q (fedC q c a) b).o∧qC (fedC q c (a++b))=qC (fedC (fedE q c a).q (fedC q c a) b):=by
 obtain⟨h1,h2⟩:=Xw c.q a b
 have e:fedE q c (a++b)=evsG (fedE q c a) (zC (zC c.q a) b).out:=by
  rw [zcQ,h2,Wn,← zcQ]
 have e2:fedE (fedE q c a).q (fedC q c a) b=evsG ⟨(fedE q c a).q,(fedE q c a).h,(fedE q c a).b,(fedE q c a).i,(fedE q c a).w,[]⟩ (zC (zC c.q a) b).out:=zcQ _ _ _;have e3:=zf0 (zC (zC c.q a) b).out (fedE q c a);rw [← e,← e2] at e3
 refine⟨by rw [e3],by rw [e3],?_⟩
 unfold qC fedC;simp only [Cn.mk.injEq];refine⟨h1.symm,?_,?_,?_,?_⟩
 · rw [e3];rfl
 · rw [e3];rfl
 · rw [e3];rfl
 · rw [e3];rfl
structure PcG (b:Str) (L:List Str) (i:Nat) (q:Sto) (c:Cn) (o:Str):Prop where
 le:i≤L.length
 hq:q=(fedE ⟨[],0,[],0⟩ cn0 (L.take i).flatten).q
 hc:qC c=qC (fedC ⟨[],0,[],0⟩ cn0 (L.take i).flatten)
 ho:o=(fedE ⟨[],0,[],0⟩ cn0 (L.take i).flatten).o
 cn:CnI c (L.take i).flatten.length
 sk:SOk q (12 * (L.take i).flatten.length)
theorem zoz:SOk ⟨[],0,[],0⟩ 0:=⟨zu3,by decide,by decide,by decide,by decide⟩
theorem zxW (b:Str) (L:List Str):PcG b L 0 ⟨[],0,[],0⟩ cn0 []:=⟨jM _,rfl,rfl,rfl,znO,zoz⟩
theorem ztO {c d:Cn} (h:qC c=qC d) {k:Nat} (hc:CnI c k):CnI d k:=by
 obtain⟨cq,ch,cb,ci,cw⟩:=c;obtain⟨dq,dh,db,di,dw⟩:=d;simp only [qC,Cn.mk.injEq] at h;obtain⟨h1,rfl,rfl,rfl,rfl⟩:=h
 have hp:cq.pos=dq.pos:=by show(wH cq).pos=(wH dq).pos;rw [h1]
 refine⟨?_,hc.2.1,hc.2.2.1,fun k=>hc.2.2.2 (by rw [hp];exact k)⟩
 have:=hc.1
 have e:({ cq with out:=[]}:Rq)= { dq with out:=[]}:=h1
 rw [e] at this;exact this
theorem zsN {b:Str} {L:List Str} {i:Nat} {q:Sto} {c:Cn} {o:Str} (h:PcG b L i q c o) (hf:L.flatten=b) (k:i<L.length) (hb:b.length≤9000):FdN q c (L.getD i []):=by
 have h1:=Vt k;have h2:=uf L (i+1);rw [h1,jk,hf] at h2
 exact⟨_,_,h.sk,h.cn,by omega,by omega⟩
theorem ztz {q:Sto} {m:Int} {c:Cn} {k:Nat} (hq:SOk q m) (h:CnI c k) {b:Str} (hb:k+b.length≤1000000):SOk (fdQ q c b) (m+12 * b.length)∧CnI (fdC q c b) (k+b.length):=by
 obtain⟨h1,h2⟩:=zxj hq h hb;rw [zmf];exact⟨h1,ztO (zmh q c b).symm h2⟩
theorem zxV {b:Str} {L:List Str} {i:Nat} {q:Sto} {c:Cn} {o:Str} (h:PcG b L i q c o) (hf:L.flatten=b) (k:i<L.length) (hb:b.length≤9000):PcG b L (i+1) (fdQ q c (L.getD i [])) (fdC q c (L.getD i [])) (o++fdO q c (L.getD i [])):=by
 have h1:=Vt k;have h2:=uf L (i+1);rw [hf] at h2;have h3:=congrArg List.length h1;rw [jk] at h3;obtain⟨a1,a2,a3⟩:=zvU ⟨[],0,[],0⟩ cn0 (L.take i).flatten (L.getD i []);obtain⟨b1,b2⟩:=zqN (q:=q) h.hc (L.getD i [])
 obtain⟨s1,s2⟩:=ztz h.sk h.cn (b:=L.getD i []) (by omega)
 refine⟨k,?_,?_,?_,by rw [h3];exact s2,uF s1 (by omega)⟩
 · rw [zmf,b1,h1,a1,← h.hq]
 · rw [zmh,b2,h1,a3,← h.hq]
 · rw [zuC,b1,h1,a2,← h.hq,← h.ho]
theorem zvi {b:Str} {L:List Str} {q:Sto} {c:Cn} {o:Str} (h:PcG b L L.length q c o) (hf:L.flatten=b):q=fdQ ⟨[],0,[],0⟩ cn0 b∧o=fdO ⟨[],0,[],0⟩ cn0 b∧x9 c.q=x9 (fdC ⟨[],0,[],0⟩ cn0 b).q:=by
 have e:=h;have h1:=h.hq;have h2:=h.hc;have h3:=h.ho;rw [List.take_length,hf] at h1 h2 h3;rw [zmf,zuC];refine⟨h1,h3,?_⟩;rw [← zmh] at h2;have h4:wH c.q=wH (fdC ⟨[],0,[],0⟩ cn0 b).q:=congrArg Cn.q h2;exact(zrp h4).1
theorem zuD: ∀ (l:List Evt) {x:GE} {m:Int} {k:Nat},EOk x m k→EvO l→(evsG x l).o.length≤x.o.length+30000 * l.length
 |[],x,m,k,_,_=>Nat.le_add_right _ _
 | e::l,x,m,k,h,ho=>by
   have h1:=zuD l (zuH h (ho e List.mem_cons_self)) fun y hy=>ho y (List.mem_cons_of_mem _ hy);have h2:=zv0 h.1.1 h.2.1 e
   have h3:(evG x e).o.length=x.o.length+(evG ⟨x.q,x.h,x.b,x.i,x.w,[]⟩ e).o.length:=by rw [zjJ];simp
   show(evsG (evG x e) l).o.length≤_
   rw [jh];omega
theorem zxi {q:Sto} {m:Int} {c:Cn} {k:Nat} (hq:SOk q m) (h:CnI c k) {b:Str} (hb:k+b.length≤1000000):(fedE q c b).o.length≤120000 * (k+b.length):=by
 obtain⟨h1,h2,h3,h4⟩:=zqM h hb;have h5:=zuD (zH (zC c.q b).out) (x:=⟨q,c.h,c.body,c.live,c.own,[]⟩) (m:=m) (k:=k) ⟨hq,h.2.1,h.2.2.1⟩ h1;have:(fedE q c b).o.length≤0+30000 * (zH (zC c.q b).out).length:=h5;omega
theorem zue {b:Str} {L:List Str} {i:Nat} {q:Sto} {c:Cn} {o:Str} (h:PcG b L i q c o) (hf:L.flatten=b) (hb:b.length≤9000):o.length≤2000000000:=by
 have h2:=uf L i;rw [hf] at h2
 have:=zxi zoz znO (b:=(L.take i).flatten) (by omega)
 rw [h.ho];omega
end Go.Proofs.YtkjepecoodjbmaaGreatDoor
namespace Go.Proofs.YtkjepecoodjbmaaGreatDoor
open Go Go.Sep Go.Ab
set_option maxRecDepth 100000
def begG:Str:=[71,69,84,32,47,32,72,84,84,80,47,49,46,49,13,10,72,111,115,116,58,32,97,13,10,13,10]
theorem zv8:fdK cn0=0∧20<(fdO ⟨[],0,[],0⟩ cn0 begG).length∧((fdO ⟨[],0,[],0⟩ cn0 begG).drop 9).take 3=[52,48,52]∧x9 (fdC ⟨[],0,[],0⟩ cn0 begG).q=false:=by decide+kernel
theorem zxk {x:Str} (h:x.length≤9000):FdN ⟨[],0,[],0⟩ cn0 x:=⟨0,0,zoz,znO,by omega,by omega⟩
def qY (I:Alg) (args:List D) (hp:List HO):Option CT:=match args,hp with
 |[],[]=>(fun(_:Unit)=>(some (.one ⟨I.hid (True),(.ret (.v (.one (.p (.bool true))))),[]⟩):Option CT)) ()
 |_,_=>none
set_option maxHeartbeats 2000000 in
theorem QG:zx Tryz.prog 9 (qY alg):=by
 intro args hp r h;unfold qY at h;split at h<;>cases h
 simp only [CT.Good,zi];intro _;obtain⟨h1,h2,h3,h4⟩:=zv8
 have hk:=ztz zoz znO (b:=begG) (by decide)
 have hf:=zxk (x:=begG) (by decide)
 refine spcG zh mixed Tryz.func9 (by kernel_rfl) { cfgG with fz:=[14],keep:=some [0,1,2,3,5]} [VD,VB,xI,xH,vG,vF,tY,tX,YV,YU,UX,UW,YT,YS,UQ,UO,zcu,zct,zhB,zhA,zqo,zqn,YX,YW,Tc,U9,zcw,zcv,zhO,zhN,zqq,zqp,zfM,zfL] (by kernel_rfl) ?_
 intro I X hI hX
 refine orcL ?_;go_invoke;refine orcS (by kernel_rfl) ?_
 simp only [zq,Nat.reduceAdd];subst hI;simp only [nrmA,nrmB,nrlB,reduceCtorEq,Int.reduceToNat,UInt8.reduceOfNat];simp only [show([71,69,84,32,47,32,72,84,84,80,47,49,46,49,13,10,72,111,115,116,58,32,97,13,10,13,10]:Str)=begG from rfl];generalize fdK cn0=K at *;generalize fdO ⟨[],0,[],0⟩ cn0 begG=O at *;generalize fdQ ⟨[],0,[],0⟩ cn0 begG=Q at *;generalize fdC ⟨[],0,[],0⟩ cn0 begG=Y at *;subst h1;have hb:begG.length=27:=rfl;rw [hb] at hk
 (repeat' (first|refine ja ?_ ?_|intro _))<;>first|omega|exact jb|exact jc ‹False›|skip
 all_goals first
  |omega
  |exact hf
  |exact h3
  |exact hk.1.1
  |exact hk.1.2.1
  |(have:=hk.1.2.2.1;omega)
  |exact hk.2.2.1.1
  |(exact(hk.2.2.1.2 _ ‹_›).1)
  |(exact(hk.2.2.1.2 _ ‹_›).2)
  |(have:=hk.2.2.2.1;omega)
  |(exact Bool.noConfusion (h4.symm.trans ‹x9 _=true›))
def YR:Know Tryz.prog:=⟨9,qY,QG⟩
def YQ:Know Tryz.prog:=⟨9,fun I=>zy I (qY I),zf QG⟩
end Go.Proofs.YtkjepecoodjbmaaGreatDoor
namespace Go.Proofs.YtkjepecoodjbmaaGreatDoor
open Go Go.Sep Go.Ab
set_option maxRecDepth 100000
def bodE (b:Str):List Evt:=if b=[] then [] else [evB b]
def preG (x:List Evt) (p:List Evt × Bool):List Evt × Bool:=(x++p.1,p.2)
def reqG:Nat→Option Hd→Str→List Evt × Bool
 |0,_,_=>([],false)
 | f+1,none,r=>match wU ln0 r with
   |.more _=>([],decide (r≠[]))
   |.bad e _=>([evF e],false)
   |.line t rest=>if t=[] then reqG f none rest else if(begM t).1≠0 then([evF (begM t).1],false) else reqG f (some (begM t).2) rest
 | f + 1,some h,r=>match wU ln0 r with
   |.more _=>([],true)
   |.bad e _=>([evF e],false)
   | .line t rest=>
     if t=[] then
      (if(lenH h).2≠0 then([evF (lenH h).2],false)
      else preG [evH { h with length:=(lenH h).1}]
       (if 0≤(lenH h).1 then
        (if(lenH h).1≤rest.length then preG (bodE (rest.take (lenH h).1.toNat)++[evE]) (reqG f none (rest.drop (lenH h).1.toNat)) else(bodE rest,true))
       else match yR rest with
        |.more o _=>(bodE o,true)
        |.bad o e _=>(bodE o++[evF e],false)
        |.over o rest2=>preG (bodE o++[evE]) (reqG f none rest2)))
     else if h.fields.length=16 then([evF 8],false)
     else if(yj t).2≠0 then([evF (yj t).2],false)
     else reqG f (some { h with fields:=h.fields++[(yj t).1]}) rest
def zcW (l:List Evt):Bool:=match l.getLast? with|some e=>decide (e.kind=4)|none=>false
def N2 (l:List Evt):Prop:=∀ z x,l=z++[x]→x.kind≠2
theorem zwX:N2 []:=fun z x h=>by simp at h
theorem zpX {l:List Evt} {e:Evt} (h:e.kind≠2):N2 (l++[e]):=fun z x k=>by
 have:=(List.append_inj' k rfl).2;simp only [List.cons.injEq,and_true] at this;rw [← this];exact h
theorem zs5 {e:Evt} (h:e.kind≠2) (o:List Evt):uP o e=o++[e]:=by
 rcases List.eq_nil_or_concat o with rfl|⟨z,x,rfl⟩
 · rfl
 · rw [List.concat_eq_append,yO,if_neg (fun k=>h k.1)]
theorem zlQ (l:List Evt) (e:Evt):zH (l++[e])=uP (zH l) e:=by simp [zH,List.foldl_append]
theorem za0 {e:Evt} (h:e.kind≠2) (o:List Evt):zH (o++[e])=zH o++[e]:=by rw [zlQ,zs5 h]
def Bods (l:List Evt) (o:Str):Prop:=(∀ e ∈ l,∃ b,b≠[]∧e=evB b)∧(l.map fun e=>e.bytes).flatten=o
theorem SA:Bods [] []:=⟨(fun e h=>by cases h),rfl⟩
theorem zns {o:List Evt} (hn:N2 (zH o)): ∀ (l:List Evt) (p:Str),Bods l p→zH (o++l)=zH o++bodE p:=by
 suffices h: ∀ (l m:List Evt) (a:Str),zH (o++m)=zH o++bodE a→(∀ e ∈ l,∃ b,b≠[]∧e=evB b)→zH (o++m++l)=zH o++bodE (a++(l.map fun e=>e.bytes).flatten) by
  intro l p hb
  have:=h l [] [] (by simp [bodE]) hb.1
  rw [List.append_nil,List.nil_append,hb.2] at this;exact this
 intro l
 induction l with
 |nil=>intro m a h _;simpa using h
 | cons e l ih=>
   intro m a h hl;obtain⟨b,hb,rfl⟩:=hl e (List.mem_cons_self ..)
   have hs:zH (o++(m++[evB b]))=zH o++bodE (a++b):=by
    rw [← jo,zlQ,h];unfold bodE
    rw [if_neg (show ¬ a++b=[] by simp [hb])]
    by_cases ha:a=[]
    · subst ha
      rw [if_pos rfl,List.append_nil,List.nil_append]
      rcases List.eq_nil_or_concat (zH o) with h0|⟨z,x,h0⟩
      · rw [h0];rfl
      · rw [List.concat_eq_append] at h0
        rw [h0,yO,if_neg (fun k=>hn z x h0 k.2)]
    · rw [if_neg ha,yO,if_pos ⟨rfl,rfl⟩];rfl
   have:=ih (m++[evB b]) (a++b) hs (fun x hx=>hl x (List.mem_cons_of_mem _ hx))
   rw [show o++m++evB b::l=o++(m++[evB b])++l by simp,this]
   simp [evB]
theorem Xq {q:Rq} (h:q.pos=4): ∀ r:Str,yE q r=q
 |[]=>rfl
 | c::r=>by
   have:rqF q c=q:=by unfold rqF;rw [if_neg (by omega),if_neg (by omega),if_neg (by omega)]
   show yE (rqF q c) r=q
   rw [this];exact Xq h r
theorem Ri {q:Rq} (hp:q.pos=0∨q.pos=1): ∀ (r:Str) (l:Ln),l.code=0→match wU l r with
  |.more s=>yE { q with ln:=l} r= { q with ln:=s}
  |.bad e _=>∃ l',yE { q with ln:=l} r=xO { q with ln:=l'} e
  |.line t rest=>yE { q with ln:=l} r=(if(zJ { q with ln:=ln0} t).2≠0 then xO (zJ { q with ln:=ln0} t).1 (zJ { q with ln:=ln0} t).2 else yE (zJ { q with ln:=ln0} t).1 rest)
 |[],l,hl=>rfl
 | c ::r,l,hl=>by
   have e0:rqF { q with ln:=l} c=(if(lnF l c).2.2.2≠0 then xO { q with ln:=(lnF l c).1} (lnF l c).2.2.2
    else if(lnF l c).2.2.1=true then
     (if(zJ { q with ln:=(lnF l c).1} (lnF l c).2.1).2≠0 then xO (zJ { q with ln:=(lnF l c).1} (lnF l c).2.1).1 (zJ { q with ln:=(lnF l c).1} (lnF l c).2.1).2
     else(zJ { q with ln:=(lnF l c).1} (lnF l c).2.1).1)
    else { q with ln:=(lnF l c).1}):=by
    unfold rqF
    rw [if_neg (show ¬ q.pos=2 by omega),if_neg (show ¬ q.pos=3 by omega),if_pos (show q.pos=0∨q.pos=1 from hp)]
   have e1:yE { q with ln:=l} (c::r)=yE (rqF { q with ln:=l} c) r:=rfl
   rw [e1,e0,wU]
   by_cases h1:(lnF l c).2.2.1=true
   · obtain⟨h2,h3⟩:=zlL h1 hl
     rw [if_pos h1,if_pos h1,if_neg (by simp [h2]),h3]
     simp only
     split
     · exact Xq rfl r
     · rfl
   · rw [if_neg h1,if_neg h1]
     by_cases h2:(lnF l c).2.2.2=0
     · rw [if_neg (by simp [h2]),if_neg (by simp [h2])]
       exact Ri hp r (lnF l c).1 (zlM h2)
     · rw [if_pos h2,if_pos h2]
       exact⟨(lnF l c).1,Xq rfl r⟩
theorem zdJ: ∀ (r:Str) (q:Rq) (n:Nat),q.pos=2→q.left=((n+1:Nat):Int)→∃ l,Bods l (r.take (n+1))∧yE q r=if r.length<n+1 then { q with out:=q.out++l,left:=q.left - r.length} else yE (vY { q with out:=q.out++l,left:=0}) (r.drop (n+1))
 |[],q,n,hp,hl=>⟨[],SA,by rw [if_pos (by simp)];simp [yE]⟩
 | c :: r,q,n,hp,hl=>by
   have e0:rqF q c=if q.left - 1=0 then vY { q with out:=q.out++[evB [c]],left:=0} else { q with out:=q.out++[evB [c]],left:=q.left - 1}:=by
    unfold rqF;rw [if_pos hp]
   have e1:yE q (c::r)=yE (rqF q c) r:=rfl;rw [e1,e0]
   cases n with
   | zero=>
     refine⟨[evB [c]],⟨fun e h=>⟨[c],by simp,by simpa using h⟩,by simp [evB]⟩,?_⟩
     rw [if_pos (by omega),if_neg (by simp)]
     rfl
   | succ n=>
     rw [if_neg (by omega)]
     obtain⟨l,hb,hr⟩:=zdJ r { q with out:=q.out++[evB [c]],left:=q.left - 1} n hp (by show q.left - 1=_;omega)
     refine⟨evB [c]::l,⟨fun e h=> ?_,?_⟩,?_⟩
     · rcases List.mem_cons.1 h with rfl|h
       · exact⟨[c],by simp,rfl⟩
       · exact hb.1 e h
     · rw [List.map_cons,List.flatten_cons,hb.2];simp [evB]
     · rw [hr]
       simp only [jh,List.drop_succ_cons]
       by_cases h:r.length<n+1
       · rw [if_pos h,if_pos (by omega)]
         simp only [Rq.mk.injEq,true_and,jo,List.cons_append,List.nil_append];refine⟨?_,trivial⟩;omega
       · rw [if_neg h,if_neg (by omega)]
         simp only [jo,List.cons_append,List.nil_append]
theorem zff: ∀ (r:Str) (q:Rq) (c:Ch),q.pos=3→q.ck=some c→match sO c r with
  |.more o _=>∃ k l,Bods l o∧yE q r= { q with ck:=some k,out:=q.out++l}
  |.bad o e _=>∃ k l,Bods l o∧yE q r=xO { q with ck:=some k,out:=q.out++l} e
  |.over o rest=>∃ k l,Bods l o∧yE q r=yE (vY { q with ck:=some k,out:=q.out++l}) rest
 |[],q,c,hp,hk=>⟨c,[],SA,by simp [yE,← hk]⟩
 | b :: r, q,c,hp,hk=>by
   have hc:ckOf q=c:=by unfold ckOf;rw [hk]
   have e0:rqF q b=(if(chF c b).2.2.2≠0 then xO { q with ck:=some (chF c b).1} (chF c b).2.2.2
    else if(chF c b).2.2.1=true then vY { q with ck:=some (chF c b).1,out:=if(chF c b).2.1≠[] then q.out++[evB (chF c b).2.1] else q.out}
    else { q with ck:=some (chF c b).1,out:=if(chF c b).2.1≠[] then q.out++[evB (chF c b).2.1] else q.out}):=by
    unfold rqF
    rw [if_neg (by omega),if_pos hp,hc]
   have e1:yE q (b::r)=yE (rqF q b) r:=rfl;have hd:=zmG (s:=c) (c:=b);rw [e1,e0,sO]
   by_cases h1:(chF c b).2.2.2=0
   · rw [if_neg (show ¬ (chF c b).2.2.2≠0 by simp [h1]),if_neg (show ¬ (chF c b).2.2.2≠0 by simp [h1])]
     by_cases h2:(chF c b).2.2.1=true
     · rw [if_pos h2,if_pos h2]
       have hz:=(hd.2.2.1 h2).2.1;refine⟨(chF c b).1,[],SA,?_⟩
       rw [if_neg (show ¬ (chF c b).2.1≠[] by simp [hz]),List.append_nil]
     · rw [if_neg h2,if_neg h2]
       by_cases h3:(chF c b).2.1=[]
       · rw [if_neg (show ¬ (chF c b).2.1≠[] by simp [h3])]
         have ih:=zff r { q with ck:=some (chF c b).1,out:=q.out} (chF c b).1 hp rfl
         rw [h3,ChR.pre_nil];exact ih
       · rw [if_pos h3]
         have ih:=zff r { q with ck:=some (chF c b).1,out:=q.out++[evB (chF c b).2.1]} (chF c b).1 hp rfl
         have hb: ∀ l o,Bods l o→Bods (evB (chF c b).2.1::l) ((chF c b).2.1++o):=fun l o h=>⟨fun e he=>by
          rcases List.mem_cons.1 he with rfl|he
          · exact⟨_,h3,rfl⟩
          · exact h.1 e he,by rw [List.map_cons,List.flatten_cons,h.2];rfl⟩
         generalize sO (chF c b).1 r=x at ih
         cases x with
         |more o n=>obtain⟨k,l,g1,g2⟩:=ih;exact⟨k,_,hb l o g1,by rw [g2];simp⟩
         |bad o e rest=>obtain⟨k,l,g1,g2⟩:=ih;exact⟨k,_,hb l o g1,by rw [g2];simp⟩
         |over o rest=>obtain⟨k,l,g1,g2⟩:=ih;exact⟨k,_,hb l o g1,by rw [g2];simp⟩
   · rw [if_pos h1,if_pos h1]
     exact⟨(chF c b).1,[],SA,by rw [Xq rfl];simp⟩
def CG (q q':Rq) (g:List Evt × Bool):Prop:=zH q'.out=zH q.out++g.1∧x9 q'=g.2∧decide (q'.pos=4)=zcW g.1
theorem Wp (l:List Evt) (e:Evt):zcW (l++[e])=decide (e.kind=4):=by simp [zcW]
theorem ziu {l:List Evt} {e:Evt} (h:e.kind≠4) (m:List Evt):zcW (l++[e]++m)=zcW m:=by
 rcases List.eq_nil_or_concat m with rfl|⟨z,x,rfl⟩
 · rw [List.append_nil,Wp];simp [zcW,h]
 · rw [List.concat_eq_append,← jo,Wp,Wp]
theorem zxy {q q1 q':Rq} {x:List Evt} {e:Evt} {g:List Evt × Bool} (h:zH q1.out=zH q.out++(x++[e])) (k:e.kind≠4) (c:CG q1 q' g):CG q q' (preG (x++[e]) g):=by
 obtain⟨c1,c2,c3⟩:=c
 refine⟨by rw [c1,h];simp [preG],c2,?_⟩
 rw [c3];exact(ziu k g.1).symm
theorem Yf {q q1:Rq} {e:Int} {x:List Evt} (h:zH q1.out=zH q.out++x):CG q (xO q1 e) (x++[evF e],false):=by
 refine⟨?_,?_,?_⟩
 · show zH (q1.out++[evF e])=_
   rw [za0 (by simp [evF]),h];simp
 · simp [x9,xO]
 · rw [Wp];rfl
theorem znN (o:Str):zcW (bodE o)=false:=by unfold bodE;split<;>rfl
theorem zq9 (x:List Evt) (o:Str) {e:Evt} (h:e.kind≠4):zcW (x++[e]++bodE o)=false:=by rw [ziu h,znN]
theorem Ug (a b:List Evt) (g:List Evt × Bool):preG a (preG b g)=preG (a++b) g:=by simp [preG]
theorem zrm {q q1:Rq} {h:Hd} {o:Str} (hj:zH q1.out=zH q.out++([evH h]++bodE o)) (hp:q1.pos=2∨q1.pos=3):CG q q1 (preG [evH h] (bodE o,true)):=by
 refine⟨hj,?_,?_⟩
 · unfold x9
   rw [decide_eq_true (show q1.pos≠4 by omega),decide_eq_true (show q1.pos≠0 by omega)];rfl
 · rw [decide_eq_false (by omega)]
   exact(zq9 [] o (e:=evH h) (by simp [evH])).symm
theorem zbY: ∀ (f:Nat) (r:Str) (q:Rq),r.length<f→q.ln=ln0→N2 (zH q.out)→(q.pos=0→CG q (yE q r) (reqG f none r))∧(q.pos=1→CG q (yE q r) (reqG f (some q.h) r))
 |0,r,q,h,_,_=>absurd h (Nat.not_lt_zero _)
 | f + 1, r, q,hf,hl,hn=>by
   have hq: { q with ln:=ln0}=q:=by rw [← hl]
   have hrest: ∀ {t rest:Str},wU ln0 r=.line t rest→rest.length<f:=fun h=>by
    obtain⟨n,-,h2,h3,h4⟩:=zcl h;rw [h4,jC];omega
   refine⟨fun hp=> ?_,fun hp=> ?_⟩
   · have hr :=Ri (q:=q) (.inl hp) r ln0 rfl
     rw [hq] at hr;have hi:=zfA r;rw [reqG]
     cases hx:wU ln0 r with
     | more s=>
       rw [hx] at hr hi;simp only at hr ⊢;rw [hr]
       refine⟨by simp,?_,?_⟩
       · have:=hi.2.2
         simp only [x9,hp];simp only [ne_eq,jf,or_false] at this
         by_cases hz:r=[]<;>simp_all
       · simp [hp,zcW]
     | bad e rest=>
       rw [hx] at hr;obtain⟨l',hr⟩:=hr;rw [hr]
       exact Yf (x:=[]) (by simp)
     | line t rest=>
       rw [hx] at hr;simp only at hr ⊢;rw [hr];have hrl:=hrest hx;unfold zJ;simp only [hp,if_true]
       by_cases ht:t=[]
       · rw [if_pos ht,if_pos ht]
         simp only [ne_eq,jf,if_false];exact(zbY f rest q hrl hl hn).1 hp
       · rw [if_neg ht,if_neg ht]
         by_cases hb:(begM t).1=0
         · rw [if_pos hb,if_neg (show ¬ (begM t).1≠0 by simp [hb])]
           simp only [ne_eq,jf,if_false]
           exact(zbY f rest { q with h:=(begM t).2,pos:=1} hrl hl hn).2 rfl
         · rw [if_neg hb,if_pos hb]
           by_cases h11:(begM t).1=11
           · rw [if_pos h11,h11]
             exact Yf (x:=[]) (by simp)
           · rw [if_neg h11]
             simp only [ne_eq,hb,jg,if_true]
             exact Yf (x:=[]) (by simp)
   · have hr :=Ri (q:=q) (.inr hp) r ln0 rfl
     rw [hq] at hr;rw [reqG]
     cases hx:wU ln0 r with
     | more s=>
       rw [hx] at hr;simp only at hr ⊢;rw [hr]
       refine⟨by simp,?_,?_⟩
       · simp [x9,hp]
       · simp [hp,zcW]
     | bad e rest=>
       rw [hx] at hr;obtain⟨l',hr⟩:=hr;rw [hr]
       exact Yf (x:=[]) (by simp)
     | line t rest=>
       rw [hx] at hr;simp only at hr ⊢;rw [hr];have hrl:=hrest hx;unfold zJ
       rw [if_neg (show ¬ q.pos=0 by omega)]
       by_cases ht:t=[]
       · rw [if_pos ht,if_pos ht]
         have hH: ∀ h:Hd,zH (q.out++[evH h])=zH q.out++[evH h]:=fun h=>za0 (by simp [evH]) _
         have hN: ∀ h:Hd,N2 (zH (q.out++[evH h])):=fun h=>by rw [hH];exact zpX (by simp [evH])
         have hB: ∀ (h:Hd) (l:List Evt) (o:Str),Bods l o→zH (q.out++[evH h]++l)=zH q.out++([evH h]++bodE o):=fun h l o hb=>by
          rw [zns (hN h) l o hb,hH];simp
         have hend: ∀ (Q:Rq) (r2:Str) (x:List Evt),Q.ln=ln0→r2.length<f→zH Q.out=zH q.out++x→CG q (yE (vY Q) r2) (preG (x++[evE]) (reqG f none r2)):=fun Q r2 x hQ h2 hx=>by
          have hj:zH (Q.out++[evE])=zH q.out++(x++[evE]):=by rw [za0 (by simp [evE]),hx];simp
          exact zxy (q1:=vY Q) (e:=evE) hj (by simp [evE]) ((zbY f r2 (vY Q) h2 hQ (by show N2 (zH (Q.out++[evE]));rw [za0 (by simp [evE])];exact zpX (by simp [evE]))).1 rfl)
         unfold yC lenH
         by_cases h1:zjt q.h.minor q.h.fields=true
         · rw [if_pos h1,if_pos h1]
           simp only [ne_eq,show ¬ (13:Int)=0 by decide,jg,if_true]
           exact Yf (x:=[]) (by simp)
         rw [if_neg h1,if_neg h1]
         by_cases h2:(lenM q.h.minor q.h.fields).2≠0
         · rw [if_pos h2,if_pos h2,if_pos h2]
           exact Yf (x:=[]) (by simp)
         rw [if_neg h2,if_neg h2];have hle:=zfB q.h.minor q.h.fields;generalize(lenM q.h.minor q.h.fields).1=n at *
         by_cases h3:n=0
         · subst h3
           rw [if_pos rfl];simp only [ne_eq,jf,if_false,Int.toNat_zero,List.take_zero,List.drop_zero]
           rw [if_pos (show(0:Int)≤0 by decide),if_pos (show(0:Int)≤(rest.length:Int) by omega),Ug,← jo]
           have hb:=hB { q.h with length:=0} [] [] SA
           rw [List.append_nil] at hb;exact hend _ rest _ hl hrl hb
         rw [if_neg h3]
         by_cases h4:0<n
         · rw [if_pos h4]
           simp only [ne_eq,jf,if_false]
           rw [if_pos (show 0≤n by omega)]
           obtain⟨l,hb,hd⟩:=zdJ rest ({ ln:=q.ln,pos:=2,h:= { method:=q.h.method,target:=q.h.target,minor:=q.h.minor,fields:=q.h.fields,length:=n},left:=n,ck:=q.ck,own:=false,out:=q.out++[evH { q.h with length:=n}]}:Rq) (n.toNat - 1) rfl (by show n=_;omega)
           rw [show n.toNat - 1+1=n.toNat by omega] at hb hd
           rw [hd]
           by_cases h5:rest.length<n.toNat
           · rw [if_pos h5,if_neg (by omega)]
             rw [jq (by omega)] at hb
             exact zrm (hB _ l _ hb) (.inl rfl)
           · rw [if_neg h5,if_pos (by omega),Ug,← jo]
             exact hend _ _ _ hl (by rw [jC];omega) (hB _ l _ hb)
         rw [if_neg h4];simp only [ne_eq,jf,if_false]
         rw [if_neg (show ¬ 0≤n by omega)]
         have hc:=zff rest ({ ln:=q.ln,pos:=3,h:= { method:=q.h.method,target:=q.h.target,minor:=q.h.minor,fields:=q.h.fields,length:=n},left:=q.left,ck:=some ch0,own:=false,out:=q.out++[evH { q.h with length:=n}]}:Rq) ch0 rfl rfl
         have hrc:=Rh rest;have hro: ∀ o rest2,sO ch0 rest=.over o rest2→rest2.length<rest.length:=fun o r2 h=>VU h;rw [hrc] at hc hro
         cases hcr:yR rest with
         | more o k=>
           rw [hcr] at hc;obtain⟨k,l,hb,hd⟩:=hc;rw [hd];exact zrm (hB _ l _ hb) (.inr rfl)
         | bad o e r2=>
           rw [hcr] at hc;obtain⟨k,l,hb,hd⟩:=hc;rw [hd];simp only [preG];rw [← jo];exact Yf (hB _ l _ hb)
         | over o r2=>
           rw [hcr] at hc hro;obtain⟨k,l,hb,hd⟩:=hc;rw [hd];simp only;rw [Ug,← jo]
           exact hend _ r2 _ hl (by have:=hro o r2 rfl;omega) (hB _ l _ hb)
       · rw [if_neg ht,if_neg ht]
         by_cases h16:q.h.fields.length=16
         · rw [if_pos h16,if_pos h16]
           simp only [ne_eq,show ¬ (8:Int)=0 by decide,jg,if_true]
           exact Yf (x:=[]) (by simp)
         · rw [if_neg h16,if_neg h16]
           by_cases hb:(yj t).2=0
           · rw [if_neg (show ¬ (yj t).2≠0 by simp [hb]),if_neg (show ¬ (yj t).2≠0 by simp [hb])]
             exact(zbY f rest { q with h:= { q.h with fields:=q.h.fields++[(yj t).1]}} hrl hl hn).2 hp
           · rw [if_pos hb,if_pos hb]
             exact Yf (x:=[]) (by simp)
theorem zgV (b:Str):zH (zC rq0 b).out=(reqG (b.length+1) none b).1∧x9 (zC rq0 b)=(reqG (b.length+1) none b).2∧decide ((zC rq0 b).pos=4)=zcW (reqG (b.length+1) none b).1:=by
 have h:=(zbY (b.length+1) b rq0 (Nat.lt_succ_self _) rfl zwX).1 rfl;obtain⟨h1,h2,h3⟩:=h;exact⟨h1,h2,h3⟩
end Go.Proofs.YtkjepecoodjbmaaGreatDoor
namespace Go.Proofs.YtkjepecoodjbmaaGreatDoor
open Go Go.Sep Go.Ab
theorem zuF: ∀ (l:List Evt) (x:GE),cnt3 l=0→(evsG x l).q=x.q
 |[],_,_=>rfl
 | e ::l,x,h=>by
   have e1:cnt3 (e::l)=cnt3 [e]+cnt3 l:=rJ [e] l
   have h2:e.kind≠3:=fun k=>by
    have:cnt3 [e]=1:=by simp [cnt3,k3,k]
    omega
   show(evsG (evG x e) l).q=x.q
   rw [zuF l _ (by omega)]
   unfold evG
   repeat' split
   all_goals first|rfl|contradiction
theorem zxu {l:List Evt}:cnt3 l=0↔∀ e ∈ l,e.kind≠3:=by
 unfold cnt3;rw [List.length_eq_zero_iff,List.filter_eq_nil_iff]
 simp [k3]
theorem ztx {a p:Str} (h:cnt3 (zC rq0 (a++p)).out=0) {q:Rq} (hq:wH q=wH (zC rq0 a)):cnt3 (zC q p).out=0:=by
 obtain⟨h1,h2⟩:=Xw rq0 a p;rw [h2,rJ] at h;rw [WS hq];omega
theorem zsU {b:Str} {L:List Str} (hf:L.flatten=b) (h:cnt3 (zC rq0 b).out=0) (i:Nat):cnt3 (zC rq0 (L.take i).flatten).out=0:=by
 have e:b=(L.take i).flatten++(L.drop i).flatten:=by rw [← List.flatten_append,List.take_append_drop,hf]
 rw [e] at h;have:=(Xw rq0 (L.take i).flatten (L.drop i).flatten).2;rw [this,rJ] at h;omega
structure PcD (b:Str) (L:List Str) (i:Nat) (d:Cn):Prop where
 hd:wH d.q=wH (zC rq0 (L.take i).flatten)
 cn:CnI d (L.take i).flatten.length
theorem zxY (b:Str) (L:List Str):PcD b L 0 cn0:=⟨rfl,znO⟩
theorem zx5 (q:Sto) (c:Cn) (x:Str):wH (fdC q c x).q=wH (zC c.q x):=congrArg Cn.q (zmh q c x)
theorem zxX {b:Str} {L:List Str} {i:Nat} {q:Sto} {m:Int} {d:Cn} (h:PcD b L i d) (hq:SOk q m) (hf:L.flatten=b) (h3:cnt3 (zC rq0 b).out=0) (k:i<L.length) (hb:b.length≤9000):fdQ q d (L.getD i [])=q∧PcD b L (i+1) (fdC q d (L.getD i [])):=by
 have h1:=Vt k;have h2:=uf L (i+1);rw [hf] at h2;have h4:=congrArg List.length h1;rw [jk] at h4;have h5:=zsU hf h3 (i+1);rw [h1] at h5;have h6:=ztx h5 h.hd;refine⟨?_,?_,?_⟩
 · rw [zmf,zcQ];exact zuF _ _ h6
 · rw [zx5,WS h.hd,h1]
   exact(Xw rq0 (L.take i).flatten (L.getD i [])).1
 · rw [h4];exact(ztz hq h.cn (b:=L.getD i []) (by omega)).2
theorem zsO {b:Str} {L:List Str} {i:Nat} {q:Sto} {m:Int} {d:Cn} (h:PcD b L i d) (hq:SOk q m) (hm:m+12 * b.length≤199980) (hf:L.flatten=b) (k:i<L.length) (hb:b.length≤9000):FdN q d (L.getD i []):=by
 have h1:=Vt k;have h2:=uf L (i+1);rw [h1,jk,hf] at h2
 exact⟨_,_,hq,h.cn,by omega,by omega⟩
theorem zwW {b:Str} (h: ∀ e ∈ (reqG (b.length+1) none b).1,e.kind≠3):cnt3 (zC rq0 b).out=0:=by
 rw [← ziw,(zgV b).1];exact zxu.2 h
end Go.Proofs.YtkjepecoodjbmaaGreatDoor
namespace Go.Proofs.YtkjepecoodjbmaaGreatDoor
open Go Go.Sep Go.Ab
set_option maxRecDepth 100000
def pcK (n:Nat) (c:Int):Nat:=((c % 18446744073709551616) % ((n:Int)+1)).toNat
theorem zwE (n:Nat) (c:Int):pcK n c≤n:=by
 unfold pcK
 have:=Int.emod_lt_of_pos (c % 18446744073709551616) (show(0:Int)<(n:Int)+1 by omega)
 omega
def pcs:Str→List Int→List Str
 |b,[]=>[b]
 |b,c::r=>b.take (pcK b.length c)::pcs (b.drop (pcK b.length c)) r
theorem zfj: ∀ (cs:List Int) (b:Str),(pcs b cs).flatten=b
 |[],b=>by simp [pcs]
 |c::r,b=>by simp [pcs,zfj r]
theorem zja: ∀ (cs:List Int) (b:Str),(pcs b cs).length=cs.length+1
 |[],b=>rfl
 |c::r,b=>by simp [pcs,zja r]
theorem pcW (c:Int) {n k:Nat} (h:k≤n) (hn:n≤1000000):IntKind.i64.wrap ((IntKind.u64.wrap c).tmod (IntKind.u64.wrap ((n:Int) - k+1)))=(pcK (n - k) c:Int):=by
 have e1:IntKind.u64.wrap c=c % 18446744073709551616:=by simp [IntKind.wrap_u64]
 have e2:IntKind.u64.wrap ((n:Int) - k+1)=((n - k:Nat):Int)+1:=by rw [IntKind.wrap_u64];omega
 rw [e1,e2,Int.tmod_eq_emod_of_nonneg (by omega)]
 unfold pcK
 have h1:=Int.emod_lt_of_pos (c % 18446744073709551616) (show(0:Int)<((n - k:Nat):Int)+1 by omega)
 have h2:=Int.emod_nonneg (c % 18446744073709551616) (show((n - k:Nat):Int)+1≠0 by omega)
 generalize c % 18446744073709551616 % (((n - k:Nat):Int)+1)=z at *;rw [IntKind.wrap_i64];omega
theorem pcU {n k:Nat} (h:k≤n) (hn:n≤1000000): ¬ IntKind.u64.wrap ((n:Int) - k+1)=0:=by rw [IntKind.wrap_u64];omega
def Uh (I:Alg) (args:List D) (hp:List HO):Option CT:=match args,hp with
 |[.v (.one (.p (.list .byte b))),.v (.one (.p (.list .int cs)))],[]=>(fun(b:Str) (cs:List Int)=>(some (.one ⟨I.hid (cs.length≤1000000∧b.length≤1000000),(.ret (.v (.one (.row 0)))),[.row .bytes 22 (I.hid ((pcs b cs)))]⟩):Option CT)) b cs
 |_,_=>none
theorem zgZ:zx Tryz.prog 13 (Uh alg):=by
 intro args hp r h;unfold Uh at h;split at h<;>cases h
 rename_i b cs
 revert cs;intro(cs:List Int)
 simp only [CT.Good,zi];intro hneed
 refine spcG zh mixed Tryz.func13 (by kernel_rfl) { nr:=[5],keep:=some [0,1,4,5,6,7,8]} [] (by kernel_rfl) ?_
 intro I X hI hX
 refine orcL ?_;go_invoke;refine orcS (by kernel_rfl) ?_
 simp only [zq,Nat.reduceAdd]
 refine zB hI zh mixed [] hX [0,1,5,6,7] (fun(g:Nat × Nat × List Str)=>match g with|(i,k,o)=>i≤cs.length∧k≤b.length∧o.length=i∧pcs b cs=o++pcs (b.drop k) (cs.drop i)) (fun(g:Nat × Nat × List Str)=>match g with|(i,k,o)=>⟨[(0,.v (.one (.p (.list .byte b)))),(1,.v (.one (.p (.list .int cs)))),(5,.v (.one (.row 0))),(6,.v (.one (.p (.int .i64 k)))),(7,.v (.one (.p (.int .i64 i))))],[.row .bytes 22 o],44,none⟩) (fun(g:Nat × Nat × List Str)=>match g with|(i,k,o)=>cs.length - i) (0,0,[]) (by kernel_rfl) (by kernel_rfl) ?_ ?_
 · exact⟨jM _,jM _,rfl,rfl⟩
 rintro⟨i,k,o⟩ ⟨h1,h2,h3,h4⟩ A hA;simp only at hA h1 h2 h3 h4
 refine orcL ?_;go_invoke;refine orcS (by kernel_rfl) ?_
 simp only [zq,Nat.reduceAdd];subst hI;simp only [nrmA,nrmB,nrlB,reduceCtorEq];have hU:=pcU h2 hneed.2;have hK:=zwE (b.length - k) (cs.getD i 0);have hW:=pcW (cs.getD i 0) h2 hneed.2;rw [hW]
 have hgo:i<cs.length→_:=fun h=>hA (i+1,k+pcK (b.length - k) (cs.getD i 0),o++[(b.drop k).take (pcK (b.length - k) (cs.getD i 0))]) ⟨by simp only;omega,by simp only;omega,by simp [h3],by simp only;rw [h4,show cs.drop i=cs.getD i 0::cs.drop (i+1) by rw [jE h];simp [h]];simp [pcs,List.drop_drop]⟩ (by simp only;omega)
 have hend: ¬ i<cs.length→pcs b cs=o++[b.drop k]:=fun h=>by rw [h4,jF (l:=cs) (by omega)];rfl
 have hte:(b.drop k).take (b.length - k)=b.drop k:=jq (by rw [jC];omega)
 have htk:((k:Int)+(pcK (b.length - k) (cs.getD i 0):Int)).toNat - k=pcK (b.length - k) (cs.getD i 0):=by omega
 rw [htk];generalize pcK (b.length - k) (cs.getD i 0)=z at *
 (repeat' (first|refine ja ?_ ?_|intro _))<;>first|omega|exact jb|exact jc ‹False›|skip
 all_goals first
  |omega
  |exact hU
  |(simp only [jh,ji];omega)
  |exact hgo (by omega)
  |(rw [hend (by omega),hte])
def zb3:Know Tryz.prog:=⟨13,Uh,zgZ⟩
def zb2:Know Tryz.prog:=⟨13,fun I=>zy I (Uh I),zf zgZ⟩
end Go.Proofs.YtkjepecoodjbmaaGreatDoor
namespace Go.Proofs.YtkjepecoodjbmaaGreatDoor
open Go Go.Sep Go.Ab
set_option maxRecDepth 100000
def spl:List Str→Str→Str→List Str
 |l,w,[]=>l++[w]
 |l,w,c::r=>if c=32 then spl (l++[w]) [] r else spl l (w++[c]) r
theorem zow: ∀ (r:Str) (l:List Str) (w:Str),spl l w r=l++(match zO r with|[]=>[w]|x::xs=>(w++x)::xs)
 |[],l,w=>by simp [spl,zO]
 | c ::r,l,w=>by
   have hn:=Xi r;rw [spl]
   split
   · rename_i h
     rw [zow r,zO,if_pos h]
     cases hs:zO r with
     |nil=>exact absurd hs hn
     |cons x xs=>simp
   · rename_i h
     rw [zow r,zO,if_neg h]
     cases hs:zO r with
     |nil=>exact absurd hs hn
     |cons x xs=>simp
theorem zwr (s:Str):spl [] [] s=zO s:=by
 rw [zow]
 cases hs:zO s with
 |nil=>exact absurd hs (Xi s)
 |cons x xs=>simp
theorem ziU: ∀ (r:Str) (l:List Str) (w:Str),(spl l w r).length≤l.length+1+r.length∧((∀ x ∈ l,x.length≤1000000)→w.length+r.length≤1000000→∀ x ∈ spl l w r,x.length≤1000000)
 | [],l,w=>⟨by simp [spl],fun h k x hx=>by
  rcases List.mem_append.1 hx with hx|hx
  · exact h x hx
  · rw [List.mem_singleton.1 hx];simpa using k⟩
 | c ::r,l,w=>by
   rw [spl]
   split
   · obtain⟨h1,h2⟩:=ziU r (l++[w]) []
     rw [jk,jr] at h1
     refine⟨by rw [jh];omega,fun h k=>h2 (fun x hx=> ?_) (by rw [jh] at k;simp;omega)⟩
     rcases List.mem_append.1 hx with hx|hx
     · exact h x hx
     · rw [List.mem_singleton.1 hx];omega
   · obtain⟨h1,h2⟩:=ziU r l (w++[c])
     refine⟨by rw [jh];omega,fun h k=>h2 h (by rw [jk];rw [jh] at k;simp;omega)⟩
def firM (s:Str):Hd × Int:=
 match zO s with
 | [a,b,c]=>
   if qI a=false then(hd0,6)
   else if b.head?≠some 47∨b.contains 9=true then(hd0,5)
   else if c=YP then(⟨a,b,1,[],0⟩,0)
   else if c=UF then(⟨a,b,0,[],0⟩,0)
   else(hd0,11)
 |_=>(hd0,5)
theorem ztt (s:Str):(firM s).2=(begM s).1∧((begM s).1=0→(firM s).1=(begM s).2):=by
 unfold firM begM
 rcases zO s with _|⟨a,_|⟨b,_|⟨c,_|⟨d,e⟩⟩⟩⟩
 · exact⟨rfl,fun h=>absurd h (by simp)⟩
 · exact⟨rfl,fun h=>absurd h (by simp)⟩
 · exact⟨rfl,fun h=>absurd h (by simp)⟩
 · simp only
   by_cases h1:qI a=false
   · rw [if_pos h1,if_pos h1];exact⟨rfl,fun h=>absurd h (by decide)⟩
   rw [if_neg h1,if_neg h1]
   by_cases h2:b.head?≠some 47∨b.contains 9=true
   · rw [if_pos h2,if_pos h2];exact⟨rfl,fun h=>absurd h (by decide)⟩
   rw [if_neg h2,if_neg h2]
   by_cases h3:c=YP
   · rw [if_pos h3,if_pos h3];exact⟨rfl,fun _=>rfl⟩
   rw [if_neg h3,if_neg h3]
   by_cases h4:c=UF
   · rw [if_pos h4,if_pos h4];exact⟨rfl,fun _=>rfl⟩
   rw [if_neg h4,if_neg h4]
   exact⟨rfl,fun h=>absurd h (by simp)⟩
 · exact⟨rfl,fun h=>absurd h (by simp)⟩
def Za (I:Alg) (args:List D) (hp:List HO):Option CT:=match args,hp with
 |[.v (.one (.p (.str s)))],[]=>(fun(s:Str)=>(some (.one ⟨I.hid (s.length≤1000000),(.ret (.tup [(.agg [(.p (.str (I.hid ((firM s).1.method)))),(.p (.str (I.hid ((firM s).1.target)))),(.p (.int .i64 (I.hid ((firM s).1.minor)))),.nilS,(.p (.int .i64 (I.hid ((firM s).1.length))))]),(.one (.p (.int .i64 (I.hid ((firM s).2)))))])),[]⟩):Option CT)) s
 |_,_=>none
theorem QK:zx Tryz.prog 37 (Za alg):=by
 intro args hp r h;unfold Za at h;split at h<;>cases h
 rename_i s;simp only [CT.Good,zi];intro hneed;generalize hr:firM s=r
 refine spcG zh mixed Tryz.func37 (by kernel_rfl) { nr:=[4],raw:=true,keep:=some [0,2,3,4,5,6,7]} [Yz,Yy,uj,uh] (by kernel_rfl) ?_
 intro I X hI hX
 refine orcL ?_;go_invoke;refine orcS (by kernel_rfl) ?_
 simp only [zq,Nat.reduceAdd]
 refine zB hI zh mixed [Yz,Yy,uj,uh] hX [0,2,3,4,5,6] (fun(g:Nat × List Str × Str)=>match g with|(i,l,w)=>i≤s.length∧l.length≤i∧(∀ x ∈ l,x.length≤1000000)∧w.length≤i∧spl l w (s.drop i)=zO s) (fun(g:Nat × List Str × Str)=>match g with|(i,l,w)=>⟨[(0,.v (.one (.p (.str s)))),(2,.v (.one (.ptr 0 0))),(3,.v (.one (.p (.int .i64 0)))),(4,.v (.one (.row 1))),(5,.v (.one (.p (.str w)))),(6,.v (.one (.p (.int .i64 i))))],[.pack [.obj 30 [(.p (.str ([]))),(.p (.str ([]))),(.p (.int .i64 0)),.nilS,(.p (.int .i64 0))]],.row .str 9 l],82,none⟩) (fun(g:Nat × List Str × Str)=>match g with|(i,l,w)=>s.length - i) (0,[],[]) (by kernel_rfl) (by kernel_rfl) ?_ ?_
 · exact⟨jM _,jM _,(fun x h=>by cases h),jM _,zwr s⟩
 rintro⟨i,l,w⟩ ⟨h1,h2,h3,h4,h5⟩ A hA;simp only at hA h1 h2 h3 h4 h5;have hsl:=ziU s [] [];rw [zwr] at hsl
 refine orcL ?_;go_invoke;refine orcS (by kernel_rfl) ?_
 simp only [zq,Nat.reduceAdd];subst hI;simp only [nrmA,nrmB,nrlB,reduceCtorEq]
 by_cases hlt:i<s.length
 · have hd:s.drop i=s.getD i 0::s.drop (i+1):=by rw [jE hlt];simp [hlt]
   have htk:(s.drop i).take ((i:Int)+1 - i).toNat=[s.getD i 0]:=by rw [hd,show((i:Int)+1 - i).toNat=1 by omega];rfl
   have htk2:(s.drop i).take (((i:Int)+1).toNat - i)=[s.getD i 0]:=by rw [hd,show((i:Int)+1).toNat - i=1 by omega];rfl
   rw [hd] at h5;rw [htk2];generalize s.getD i 0=c at *;rw [spl] at h5
   have hu:(c.toNat:Int)=32↔c=32:=⟨fun h=>UInt8.toNat_inj.1 (by rw [show(32:UInt8).toNat=32 from rfl];omega),fun h=>by rw [h];rfl⟩
   have hg1:c=32→_:=fun h=>hA (i+1,l++[w],[]) ⟨by simp only;omega,by simp;omega,by
    intro x hx
    rcases List.mem_append.1 hx with hx|hx
    · exact h3 x hx
    · rw [List.mem_singleton.1 hx];omega,jM _,by simp only;rw [if_pos h] at h5;exact h5⟩ (by simp only;omega)
   have hg2: ¬ c=32→_:=fun h=>hA (i+1,l,w++[c]) ⟨by simp only;omega,by simp only;omega,h3,by simp;omega,by simp only;rw [if_neg h] at h5;exact h5⟩ (by simp only;omega)
   (repeat' (first|refine ja ?_ ?_|intro _))<;>first|omega|exact jb|exact jc ‹False›|skip
   all_goals first
    |omega
    |(simp only [jh,ji];omega)
    |exact hg1 (hu.1 ‹_›)
    |exact hg2 (fun h=>‹¬ (c.toNat:Int)=32› (hu.2 h))
 · rw [jF (by omega),spl] at h5
   have hlw:l.length+[w].length≤100000000:=by simp;omega
   have hv: ∀ x ∈ zO s,x.length≤1000000:=hsl.2 (fun x h=>by cases h) (by simpa using hneed)
   rw [h5];unfold firM at hr;clear hsl h5 hA;generalize zO s=V at *
   rcases V with _|⟨a,_|⟨b,_|⟨c,_|⟨d,e⟩⟩⟩⟩
   all_goals simp only [jh,ji,List.getD_cons_zero,List.getD_cons_succ,List.mem_cons,List.not_mem_nil,or_false,forall_eq_or_imp,forall_eq] at hr hv ⊢
   · (repeat' (first|refine ja ?_ ?_|intro _))<;>first|omega|exact jb|exact jc ‹False›|skip
     all_goals first|omega|exact hlw|(subst hr;rfl)|trace_state
   · (repeat' (first|refine ja ?_ ?_|intro _))<;>first|omega|exact jb|exact jc ‹False›|skip
     all_goals first|omega|exact hlw|(subst hr;rfl)|trace_state
   · (repeat' (first|refine ja ?_ ?_|intro _))<;>first|omega|exact jb|exact jc ‹False›|skip
     all_goals first|omega|exact hlw|(subst hr;rfl)|trace_state
   · obtain ⟨v1,v2,v3⟩:=hv
     rw [show([a,b,c].getD (Int.toNat 1) []:Str)=b from rfl,show([a,b,c].getD (Int.toNat 2) []:Str)=c from rfl]
     have hr :(if qI a=false then(hd0,(6:Int)) else if((b.length:Nat):Int)=0 then(hd0,5) else if((b.getD 0 0).toNat:Int)≠47 then(hd0,5) else if 0≤ul [9] b 0 then(hd0,5) else if c=[72,84,84,80,47,49,46,49] then(⟨a,b,1,[],0⟩,0) else if c=[72,84,84,80,47,49,46,48] then(⟨a,b,0,[],0⟩,0) else(hd0,11))=r:=by
      rw [← hr]
      by_cases ht:qI a=false
      · rw [if_pos ht,if_pos ht]
      rw [if_neg ht,if_neg ht]
      have h9:0≤ul [9] b 0↔b.contains 9=true:=by
       rw [Wj,Lib.contains_iff_indexByte];have:=vC b 9
       split
       · rename_i h;rw [h];simp
       · rw [decide_eq_true_iff];omega
      rcases b with _|⟨x,b⟩
      · rw [if_pos (show(([]:Str).length:Int)=0 from rfl),if_pos (.inl (by simp))]
      · rw [if_neg (by rw [jh];omega)]
        have hx:(((x::b).getD 0 0).toNat:Int)≠47↔(x::b).head?≠some 47:=by
         simp only [List.getD_cons_zero,List.head?_cons,ne_eq,jw];rw [not_congr]
         exact⟨fun h=>UInt8.toNat_inj.1 (by rw [show(47:UInt8).toNat=47 from rfl];omega),fun h=>by rw [h];rfl⟩
        by_cases h1:(x::b).head?≠some 47
        · rw [if_pos (hx.2 h1),if_pos (.inl h1)]
        · rw [if_neg (fun h=>h1 (hx.1 h))]
          by_cases h2:0≤ul [9] (x::b) 0
          · rw [if_pos h2,if_pos (.inr (h9.1 h2))]
          · rw [if_neg h2,if_neg (show ¬ ((x::b).head?≠some 47∨(x::b).contains 9=true) from fun h=>h.elim h1 (fun h=>h2 (h9.2 h)))]
            rfl
     (repeat' (first|refine ja ?_ ?_|intro _))<;>first|omega|exact jb|exact jc ‹False›|skip
     all_goals first|omega|exact hlw|((repeat(first|rewrite [if_pos (by first|omega|assumption|(simp only [*,or_self,or_true,true_or,or_false,false_or,jf,jg,jd,je,and_self,and_true,true_and];done)|(simp only [*];omega)|(simp [*];done)|(simp [*];omega))] at hr|rewrite [if_neg (by first|omega|assumption|(simp only [*,or_self,or_true,true_or,or_false,false_or,jf,jg,jd,je,and_self,and_true,true_and];done)|(simp only [*];omega)|(simp [*];done)|(simp [*];omega))] at hr));subst hr;rfl)|trace_state
   · (repeat' (first|refine ja ?_ ?_|intro _))<;>first|omega|exact jb|exact jc ‹False›|skip
     all_goals first|omega|exact hlw|(subst hr;rfl)|trace_state
def Y3:Know Tryz.prog:=⟨37,Za,QK⟩
def Y2:Know Tryz.prog:=⟨37,fun I=>zy I (Za I),zf QK⟩
end Go.Proofs.YtkjepecoodjbmaaGreatDoor
namespace Go.Proofs.YtkjepecoodjbmaaGreatDoor
open Go Go.Sep Go.Ab
set_option maxRecDepth 100000
def YN (mi:Int) (f:List Fld):Int × Int:=if zjt mi f=true then(0,13) else lenM mi f
theorem zs3 (h:Hd):lenH h=YN h.minor h.fields:=rfl
def Z4 (I:Alg) (args:List D) (hp:List HO):Option CT:=match args,hp with
 |[.v (.agg [(.p (.str m)),(.p (.str t)),(.p (.int .i64 mi)),(.p (.list .fld f)),(.p (.int .i64 le))])],[]=>(fun(m t:Str) (mi:Int) (f:List Fld) (le:Int)=>(some (.one ⟨I.hid (FsOk f),(.ret (.tup [(.one (.p (.int .i64 (I.hid ((YN mi f).1))))),(.one (.p (.int .i64 (I.hid ((YN mi f).2)))))])),[]⟩):Option CT)) m t mi f le
 |_,_=>none
theorem zcm:zx Tryz.prog 39 (Z4 alg):=by
 intro args hp r h;unfold Z4 at h;split at h<;>cases h
 rename_i m t mi f le
 revert f;intro(f:List Fld)
 simp only [CT.Good,zi];intro hneed;obtain⟨hf1,hf2⟩:=hneed;generalize hr:YN mi f=r;obtain⟨rn,rc⟩:=r
 refine spcG zh mixed Tryz.func39 (by kernel_rfl) { keep:=some [0,1,2,3,5,6,7,8,9,10,11]} [Xk,Xj,WO,WN,zlv,zlu,zb8,zb7] (by kernel_rfl) ?_
 intro I X hI hX
 refine orcL ?_;go_invoke;refine orcS (by kernel_rfl) ?_
 simp only [zq,Nat.reduceAdd]
 have hh: ∀ {α:Type} (x:α),I.hid x=x:=by subst hI;intros;rfl
 have hln: ∀ (l:List Str),I.len l=(l.length:Int):=by subst hI;intros;rfl
 simp only [hh,hln];unfold YN zjt lenM at hr;rw [show zoh=[116,114,97,110,115,102,101,114,45,101,110,99,111,100,105,110,103] from rfl,show Qc=[99,111,110,116,101,110,116,45,108,101,110,103,116,104] from rfl,show zfJ=[104,111,115,116] from rfl] at hr;have hL1:=Vo f [99,111,110,116,101,110,116,45,108,101,110,103,116,104];have hT1:=Vo f [116,114,97,110,115,102,101,114,45,101,110,99,111,100,105,110,103]
 have hT2: ∀ x ∈ valsF f [116,114,97,110,115,102,101,114,45,101,110,99,111,100,105,110,103],x.length≤1000000:=by
  intro x hx;unfold valsF at hx;rw [List.mem_map] at hx;obtain⟨y,hy,rfl⟩:=hx;exact(hf2 y (List.mem_filter.1 hy).1).2
 generalize valsF f [99,111,110,116,101,110,116,45,108,101,110,103,116,104]=L at *;generalize valsF f [116,114,97,110,115,102,101,114,45,101,110,99,111,100,105,110,103]=T at *;generalize(oneF (valsF f [104,111,115,116])).2=hc at *
 have keyL: ∀ (st:St),(if(sizM (L.getD 0 []) 0 L).2≠0 then(0,(sizM (L.getD 0 []) 0 L).2) else if 4000<(sizM (L.getD 0 []) 0 L).1 then(0,4) else((sizM (L.getD 0 []) 0 L).1,0))=(rn,rc)→cutM { keep:=some [0,1,2,3,5,6,7,8,9,10,11]} 0 [2,3,6,8,9] st=some ⟨[(2,.v (.one (.p (.int .i64 0)))),(3,.v (.one (.p (.int .i64 0)))),(6,.v (.one (.row 0))),(8,.v (.one (.p (.int .i64 0)))),(9,.v (.one (.p (.int .i64 0))))],[.row .str 9 L],84,none⟩→Ok Tryz.prog X (fun o h=>o=(.ret (.tup [(.one (.p (.int .i64 rn))),(.one (.p (.int .i64 rc)))]))∧h=[]) (leaf I tab { keep:=some [0,1,2,3,5,6,7,8,9,10,11]} [⟨vV Tryz.f39,finK I tab { keep:=some [0,1,2,3,5,6,7,8,9,10,11]} 0 Tryz.f39⟩] 0 [1,1,1,1,1,1,0,1,0] st):=by
  intro st hm hst
  refine zB hI zh mixed [Xk,Xj,WO,WN,zlv,zlu,zb8,zb7] hX [2,3,6,8,9] (fun(g:Nat × Int)=>match g with|(i,n)=>i≤L.length∧(if(sizM (L.getD 0 []) n (L.drop i)).2≠0 then(0,(sizM (L.getD 0 []) n (L.drop i)).2) else if 4000<(sizM (L.getD 0 []) n (L.drop i)).1 then(0,4) else((sizM (L.getD 0 []) n (L.drop i)).1,0))=(rn,rc)) (fun(g:Nat × Int)=>match g with|(i,n)=>⟨[(2,.v (.one (.p (.int .i64 0)))),(3,.v (.one (.p (.int .i64 0)))),(6,.v (.one (.row 0))),(8,.v (.one (.p (.int .i64 n)))),(9,.v (.one (.p (.int .i64 i))))],[.row .str 9 L],84,none⟩) (fun(g:Nat × Int)=>match g with|(i,n)=>L.length - i) (0,0) (by kernel_rfl) hst ?_ ?_
  · exact⟨jM _,hm⟩
  clear hm hst hr;rintro⟨i,n⟩ ⟨h1,hm⟩ A hA;simp only at hA
  refine orcL ?_;go_invoke;refine orcS (by kernel_rfl) ?_
  simp only [zq,Nat.reduceAdd];subst hI;simp only [nrmA,nrmB]
  by_cases hi:i<L.length
  · rw [zgB _ _ _ _ hi] at hm
    have hn:=vZ (L.getD i []);have hgo:=hA (i+1,(numA (L.getD i []) 10 9).1);generalize L.getD i []=x at *;generalize L.getD 0 []=y at *;generalize numA x 10 9=na at *;obtain⟨na,nb⟩:=na;simp only at hm hgo hn
    cases nb with
    | false=>
      rw [if_pos rfl] at hm;simp only [ne_eq,Int.reduceEq,jg,if_true,Prod.mk.injEq] at hm;obtain⟨rfl,rfl⟩:=hm
      (repeat' (first|refine ja ?_ ?_|intro _))<;>first|omega|exact jb|exact jc ‹False›|skip
      all_goals first|omega|rfl|contradiction|(simp_all;done)|trace_state
    | true=>
      simp only [je,if_false] at hm
      by_cases hxy:x=y
      · simp only [if_neg (fun h:x≠y=>h hxy)] at hm
        have hg:=hgo ⟨by omega,hm⟩ (by omega)
        (repeat' (first|refine ja ?_ ?_|intro _))<;>first|omega|exact jb|exact jc ‹False›|skip
        all_goals first|omega|exact hg|contradiction|(exfalso;exact ‹¬ x=y› hxy)|trace_state
      · simp only [if_pos (show x≠y from hxy),ne_eq,Int.reduceEq,jg,if_true,Prod.mk.injEq] at hm
        obtain⟨rfl,rfl⟩:=hm
        (repeat' (first|refine ja ?_ ?_|intro _))<;>first|omega|exact jb|exact jc ‹False›|skip
        all_goals first|omega|rfl|contradiction|(exfalso;exact hxy ‹x=y›)|trace_state
  · rw [zkN _ _ _ _ hi] at hm
    simp only [ne_eq,jf,if_false] at hm
    by_cases h4:4000<n
    · rw [if_pos h4] at hm
      simp only [Prod.mk.injEq] at hm;obtain⟨rfl,rfl⟩:=hm
      (repeat' (first|refine ja ?_ ?_|intro _))<;>first|omega|exact jb|exact jc ‹False›|skip
      all_goals first|omega|rfl|trace_state
    · rw [if_neg h4] at hm
      simp only [Prod.mk.injEq] at hm;obtain⟨rfl,rfl⟩:=hm
      (repeat' (first|refine ja ?_ ?_|intro _))<;>first|omega|exact jb|exact jc ‹False›|skip
      all_goals first|omega|rfl|trace_state
 subst hI;have hT0:T.length=0↔T=[]:=List.length_eq_zero_iff;have hLz:L.length=0↔L=[]:=List.length_eq_zero_iff
 have hg0:0<T.length→(T.getD 0 []).length≤1000000:=fun h=>hT2 _ (by rw [show T.getD 0 []=T[0] by simp [h]];exact List.getElem_mem h)
 have hr:(if hc=9∨hc=10∧mi=1 then((0:Int),(13:Int)) else if 0<(T.length:Int) then(if 0<(L.length:Int)∨mi=0 then(0,12) else if ¬ (T.length:Int)=1 then(0,11) else if ¬ lowS (T.getD 0 [])=[99,104,117,110,107,101,100] then(0,11) else(-1,0)) else(if(sizM (L.getD 0 []) 0 L).2≠0 then(0,(sizM (L.getD 0 []) 0 L).2) else if 4000<(sizM (L.getD 0 []) 0 L).1 then(0,4) else((sizM (L.getD 0 []) 0 L).1,0)))=(rn,rc):=by
  have e1:((decide (hc=9)||(decide (hc=10)&&decide (mi=1)))=true)=(hc=9∨hc=10∧mi=1):=by simp
  have e2:(T≠[])=(0<(T.length:Int)):=by rw [eq_iff_iff];exact⟨fun h=>Int.natCast_pos.2 (Nat.pos_of_ne_zero fun k=>h (hT0.1 k)),fun h k=>by rw [k] at h;simp at h⟩
  have e3:(L≠[])=(0<(L.length:Int)):=by rw [eq_iff_iff];exact⟨fun h=>Int.natCast_pos.2 (Nat.pos_of_ne_zero fun k=>h (hLz.1 k)),fun h k=>by rw [k] at h;simp at h⟩
  simp only [e1,e2,e3] at hr;rw [← hr]
  by_cases c2:0<(T.length:Int)
  · have e4:(1<T.length∨lowS (T.getD 0 [])≠Sj)=(¬ (T.length:Int)=1∨¬ lowS (T.getD 0 [])=[99,104,117,110,107,101,100]):=by
     rw [eq_iff_iff]
     exact⟨fun h=>h.imp_left fun k=>by omega,fun h=>h.imp_left fun k=>by omega⟩
    simp only [e4]
    by_cases c4:(T.length:Int)=1
    · by_cases c5:lowS (T.getD 0 [])=[99,104,117,110,107,101,100]<;>simp [c4,c5]
    · simp [c4]
  · rw [if_neg c2,if_neg c2]
 simp only [nrmA,nrmB];clear hT0 hLz hT2
 (repeat' (first|refine ja ?_ ?_|intro _))<;>first|omega|exact jb|exact jc ‹False›|skip
 all_goals first
  |omega
  |((with_reducible show Ok _ _ _ _);refine keyL _ ?_ (by kernel_rfl);((repeat(first|rewrite [if_pos (by first|omega|assumption|(simp only [*,or_self,or_true,true_or,or_false,false_or,jf,jg,jd,je,and_self,and_true,true_and];done)|(simp only [*];omega)|(simp [*];done)|(simp [*];omega))] at hr|rewrite [if_neg (by first|omega|assumption|(simp only [*,or_self,or_true,true_or,or_false,false_or,jf,jg,jd,je,and_self,and_true,true_and];done)|(simp only [*];omega)|(simp [*];done)|(simp [*];omega))] at hr));exact hr))
  |exact⟨hf1,by decide,hf2⟩
  |exact hf1
  |(exact(hf2 _ ‹_›).1)
  |(exact(hf2 _ ‹_›).2)
  |decide
  |exact hg0 (by omega)
  |((repeat(first|rewrite [if_pos (by first|omega|assumption|(simp only [*,or_self,or_true,true_or,or_false,false_or,jf,jg,jd,je,and_self,and_true,true_and];done)|(simp only [*];omega)|(simp [*];done)|(simp [*];omega))] at hr|rewrite [if_neg (by first|omega|assumption|(simp only [*,or_self,or_true,true_or,or_false,false_or,jf,jg,jd,je,and_self,and_true,true_and];done)|(simp only [*];omega)|(simp [*];done)|(simp [*];omega))] at hr));simp only [Prod.mk.injEq] at hr;obtain⟨rfl,rfl⟩:=hr;rfl)
def Vd:Know Tryz.prog:=⟨39,Z4,zcm⟩
def Vb:Know Tryz.prog:=⟨39,fun I=>zy I (Z4 I),zf zcm⟩
end Go.Proofs.YtkjepecoodjbmaaGreatDoor
namespace Go.Proofs.YtkjepecoodjbmaaGreatDoor
open Go Go.Sep Go.Ab
set_option maxRecDepth 100000
end Go.Proofs.YtkjepecoodjbmaaGreatDoor
namespace Go.Proofs.YtkjepecoodjbmaaGreatDoor
open Go Go.Sep Go.Ab
set_option maxRecDepth 100000
theorem zp7 {b:Str} {i:Nat} (h:i<b.length):vU (b.take i) (b.drop i)=
  if b.getD i 0=13 then(if i+1<b.length then(if b.getD (i+1) 0=10 then(b.take i,(i:Int)+2,true,0) else([],(i:Int)+2,false,2)) else([],0,false,0))
  else if b.getD i 0=10 then([],(i:Int)+1,false,2) else if zmZ (b.getD i 0)=false then([],(i:Int)+1,false,3) else if i=200 then([],(i:Int)+1,false,4)
  else vU (b.take (i+1)) (b.drop (i+1)):=by
 have e1:b.getD i 0=b[i]:=by simp [h]
 have hl:(b.take i).length=i:=by rw [jv];omega
 rw [e1,jE h,jB h,vU.eq_def];simp only [hl]
 split
 · by_cases h2:i+1<b.length
   · have e2:b.getD (i+1) 0=b[i+1]:=by simp [h2]
     rw [if_pos h2,e2,jE h2]
   · rw [if_neg h2,jF (by omega)]
 · rfl
def Ux (I:Alg) (args:List D) (hp:List HO):Option CT:=match args,hp with
 |[.v (.one (.p (.list .byte b)))],[]=>(fun(b:Str)=>(some (.one ⟨I.hid (b.length≤1000000),(.ret (.tup [(.one (.p (.str (I.hid ((zF b).1))))),(.one (.p (.int .i64 (I.hid ((zF b).2.1))))),(.one (.p (.bool (I.hid ((zF b).2.2.1))))),(.one (.p (.int .i64 (I.hid ((zF b).2.2.2)))))])),[]⟩):Option CT)) b
 |_,_=>none
theorem zhd:zx Tryz.prog 36 (Ux alg):=by
 intro args hp r h;unfold Ux at h;split at h<;>cases h
 rename_i b;simp only [CT.Good,zi];intro hneed;generalize hr:zF b=r;obtain⟨s,n,ok,c⟩:=r
 refine spcG zh mixed Tryz.func36 (by kernel_rfl) { keep:=some [0,2,3,4,5,6,7]} [UC,UB] (by kernel_rfl) ?_
 intro I X hI hX
 refine orcL ?_;go_invoke;refine orcS (by kernel_rfl) ?_
 simp only [zq,Nat.reduceAdd]
 refine zB hI zh mixed [UC,UB] hX [0,6] (fun(i:Nat)=>i≤b.length∧i≤200∧vU (b.take i) (b.drop i)=(s,n,ok,c)) (fun(i:Nat)=>⟨[(0,.v (.one (.p (.list .byte b)))),(6,.v (.one (.p (.int .i64 i))))],[],52,none⟩) (fun(i:Nat)=>b.length - i) 0 (by kernel_rfl) (by kernel_rfl) ?_ ?_
 · exact⟨jM _,jM _,hr⟩
 rintro i ⟨h1,h2,h3⟩ A hA
 refine orcL ?_;go_invoke;refine orcS (by kernel_rfl) ?_
 simp only [zq,Nat.reduceAdd];subst hI;simp only [nrmA,nrmB,nrlB,reduceCtorEq];have hx:i<b.length→_:=fun h=>zp7 (b:=b) (i:=i) h
 have hend: ¬ i<b.length→(s,n,ok,c)=([],0,false,0):=fun h=>by rw [← h3,jF (by omega)];rfl
 unfold zmZ at hx;rw [h3] at hx
 have hn1:((i:Int)+1).toNat=i+1:=by omega
 rw [hn1];generalize b.getD i 0=x at *;generalize b.getD (i+1) 0=y at *
 have h13:(x.toNat:Int)=13↔x=13:=⟨fun h=>UInt8.toNat_inj.1 (Int.ofNat_inj.1 h),fun h=>by subst h;rfl⟩
 have h10:(x.toNat:Int)=10↔x=10:=⟨fun h=>UInt8.toNat_inj.1 (Int.ofNat_inj.1 h),fun h=>by subst h;rfl⟩
 have hy10:(y.toNat:Int)=10↔y=10:=⟨fun h=>UInt8.toNat_inj.1 (Int.ofNat_inj.1 h),fun h=>by subst h;rfl⟩
 simp only [h13,h10,hy10]
 (repeat' (first|refine ja ?_ ?_|intro _))<;>first|omega|exact jb|exact jc ‹False›|skip
 all_goals first
  |(have hx:=hx (by omega);((repeat(first|rewrite [if_pos (by first|omega|assumption|(simp only [*,or_self,or_true,true_or,or_false,false_or,jf,jg,jd,je,and_self,and_true,true_and];done)|(simp only [*];omega)|(simp [*];done)|(simp [*];omega))] at hx|rewrite [if_neg (by first|omega|assumption|(simp only [*,or_self,or_true,true_or,or_false,false_or,jf,jg,jd,je,and_self,and_true,true_and];done)|(simp only [*];omega)|(simp [*];done)|(simp [*];omega))] at hx)));cases hx;first|rfl|done|exact⟨rfl,rfl,rfl,rfl⟩|(simp;done)|(simp;omega))
  |(have hx:=hx (by omega);((repeat(first|rewrite [if_pos (by first|omega|assumption|(simp only [*,or_self,or_true,true_or,or_false,false_or,jf,jg,jd,je,and_self,and_true,true_and];done)|(simp only [*];omega)|(simp [*];done)|(simp [*];omega))] at hx|rewrite [if_neg (by first|omega|assumption|(simp only [*,or_self,or_true,true_or,or_false,false_or,jf,jg,jd,je,and_self,and_true,true_and];done)|(simp only [*];omega)|(simp [*];done)|(simp [*];omega))] at hx)));exact hA (i+1) ⟨by omega,by omega,hx.symm⟩ (by omega))
  |(have hend:=hend (by omega);cases hend;first|rfl|exact⟨rfl,rfl,rfl,rfl⟩)
def ZC:Know Tryz.prog:=⟨36,Ux,zhd⟩
def ZB:Know Tryz.prog:=⟨36,fun I=>zy I (Ux I),zf zhd⟩
end Go.Proofs.YtkjepecoodjbmaaGreatDoor
namespace Go.Proofs.YtkjepecoodjbmaaGreatDoor
open Go Go.Sep Go.Ab
set_option maxRecDepth 100000
theorem zwu {R Q:Prop} (h1:R→Q) (h2:R):Q:=h1 h2
theorem ChR.zsK (o:Str) (b:Str) (x:ChR):outR (x.pre o)=o++outR x∧WQ b (x.pre o)=WQ b x∧isR (x.pre o)=isR x∧Qb (x.pre o)=Qb x:=by
 cases x<;>exact⟨rfl,rfl,rfl,rfl⟩
def zf5 (I:Alg) (args:List D) (hp:List HO):Option CT:=match args,hp with
 |[.v (.one (.p (.list .byte b)))],[]=>(fun(b:Str)=>(some (.one ⟨I.hid (b.length≤1000000),(.ret (.tup [(.one (.row 0)),(.one (.p (.int .i64 (I.hid ((WQ b (yR b))))))),(.one (.p (.bool (I.hid ((isR (yR b))))))),(.one (.p (.int .i64 (I.hid ((Qb (yR b)))))))])),[.row .byte 5 (I.hid ((outR (yR b))))]⟩):Option CT)) b
 |_,_=>none
set_option maxHeartbeats 8000000 in
theorem zrh:zx Tryz.prog 40 (zf5 alg):=by
 intro args hp r h;unfold zf5 at h;split at h<;>cases h
 rename_i b;simp only [CT.Good,zi];intro hneed;generalize hR:yR b=R;generalize ho:outR R=ro;generalize hu:WQ b R=ru;generalize hs:isR R=rs;generalize hc:Qb R=rc
 refine spcG zh mixed Tryz.func40 (by kernel_rfl) { nr:=[6],keep:=some [0,2,3,4,5,6,7,8,9,10,11,12,13,14,15,16,17,18,19,21]} [Xc,Xb,uj,uh,Zl,Zk,rU,rQ,ZC,ZB] (by kernel_rfl) ?_
 intro I X hI hX
 refine orcL ?_;go_invoke;refine orcS (by kernel_rfl) ?_
 simp only [zq,Nat.reduceAdd]
 refine zB hI zh mixed [Xc,Xb,uj,uh,Zl,Zk,rU,rQ,ZC,ZB] hX [0,6,7] (fun(g:Nat × Str)=>match g with|(i,o)=>i≤b.length∧o.length≤4000∧∃ f,(b.drop i).length<f∧(zdm f o.length (b.drop i)).pre o=R) (fun(g:Nat × Str)=>match g with|(i,o)=>⟨[(0,.v (.one (.p (.list .byte b)))),(6,.v (.one (.row 0))),(7,.v (.one (.p (.int .i64 i))))],[.row .byte 5 o],166,none⟩) (fun(g:Nat × Str)=>match g with|(i,o)=>b.length - i) (0,[]) (by kernel_rfl) (by kernel_rfl) ?_ ?_
 · exact⟨jM _,jM _,b.length+1,Nat.lt_succ_self _,by rw [ChR.pre_nil];exact hR⟩
 rintro⟨i,o⟩ ⟨h1,h2,f,h3,h4⟩ A hA;simp only at hA h1 h2 h3 h4
 refine orcL ?_;go_invoke;refine orcS (by kernel_rfl) ?_
 simp only [zq,Nat.reduceAdd]
 have hh: ∀ {α:Type} (x:α),I.hid x=x:=by subst hI;intros;rfl
 have hcut: ∀ j:Nat,I.cut b (j:Int) (I.len b)=b.drop j:=fun j=>by
  subst hI;rw [wB,zV,jJ,jJ]
  exact jq (by rw [jC];exact jL _)
 have hadd: ∀ j k:Nat,I.add (j:Int) (k:Int)=((j+k:Nat):Int):=fun j k=>by subst hI;rw [vP];omega
 have hcut0:I.cut b (Int.ofNat i) (I.len b)=b.drop i:=hcut i;simp only [hcut0,hcut,hh];obtain⟨n,hn,hn1,hn2,hn3,hn4⟩:=uH (b.drop i)
 obtain⟨f,rfl⟩: ∃ f',f=f'+1:=⟨f - 1,by omega⟩
 rw [zdm] at h4;rw [jC] at h3 hn1;simp only [hn,hadd,jJ,List.drop_drop] at h4 ⊢;have hll:=ZA (b.drop i);rw [jC] at hll;generalize zF (b.drop i)=x at *;obtain⟨t,n',ok,e⟩:=x;simp only at *;subst hn
 have hfc:ul [59] t 0=Lib.indexByte t 59:=by
  rw [Wj]
  split
  · rename_i h;rw [h]
  · omega
 have hix:=vC t 59;rw [hfc];have hcl:=(zbl t 59).1;have hm0:=qL t;have hsz:numA (Lib.trimS (cutB t 59).1 [32,9]) 16 6=wC t:=rfl
 obtain⟨m,okm,hz⟩: ∃ (m:Nat) (okm:Bool),wC t=((m:Int),okm):=⟨(wC t).1.toNat,(wC t).2,Prod.ext (by simp only;omega) rfl⟩
 rw [hz] at hsz hm0 h4
 have hc1:0≤Lib.indexByte t 59→I.cut t 0 (Lib.indexByte t 59)=(cutB t 59).1:=fun h=>by
  subst hI;rw [cutB,if_pos h,wB];simp
 have hc2: ¬ 0≤Lib.indexByte t 59→(cutB t 59).1=t:=fun h=>by rw [cutB,if_neg h]
 have hcut4:I.cut b ((i+n:Nat):Int) ((i+n+m:Nat):Int)=(b.drop (i+n)).take m:=by
  subst hI;rw [wB,jJ,jJ,Nat.add_sub_cancel_left]
 obtain⟨n2,gn,gn1,gn2,gn3,gn4⟩:=uH (b.drop (i+n+m));have gll:=ZA (b.drop (i+n+m));rw [jC] at gll gn1;simp only [jJ,List.drop_drop] at h4;unfold endR at h4;obtain⟨t2,n2',ok2,e3,hx2⟩: ∃ t2 n2' ok2 e3,zF (b.drop (i+n+m))=(t2,n2',ok2,e3):=⟨_,_,_,_,rfl⟩;rw [hx2] at gn gn2 gn3 gn4 gll h4;simp only at gn gn2 gn3 gn4 gll h4;subst gn;simp only [jJ,List.drop_drop] at h4
 have e1t:0≤Lib.indexByte t 59→I.ile 0 (Lib.indexByte t 59)=true:=fun h=>by subst hI;exact decide_eq_true h
 have e1f: ¬ 0≤Lib.indexByte t 59→I.ile 0 (Lib.indexByte t 59)=false:=fun h=>by subst hI;exact decide_eq_false h
 have hm1:m≤16777215:=by have:=zkM t;rw [hz] at this;simp only at this;omega
 apply zwu
 · intro key
   by_cases hk:0≤Lib.indexByte t 59
   all_goals first
    | (have e1:=e1t hk
       have e2:=hc1 hk
       simp only [e1,e2,hsz,hadd,hcut,hcut4,hx2,je,false_implies,and_true,true_implies])
    | (have e1:=e1f hk
       have e2:=hc2 hk;rw [e2] at hsz
       simp only [e1,hsz,hadd,hcut,hcut4,hx2,jd,false_implies,true_and,true_implies])
   all_goals(repeat' (first|refine ja ?_ ?_|intro _))
   all_goals first
    | (clear key;subst hI;(simp only [nrmA,nrmB,nrlB,reduceCtorEq] at *);first
      |done
      |omega
      |(simp only [jv,jC,jh,ji];omega)
      |((repeat(first|rewrite [if_pos (by first|omega|assumption|(simp only [*,or_self,or_true,true_or,or_false,false_or,jf,jg,jd,je,and_self,and_true,true_and];done)|(simp only [*];omega)|(simp [*];done)|(simp [*];omega))] at h4|rewrite [if_neg (by first|omega|assumption|(simp only [*,or_self,or_true,true_or,or_false,false_or,jf,jg,jd,je,and_self,and_true,true_and];done)|(simp only [*];omega)|(simp [*];done)|(simp [*];omega))] at h4));subst h4;simp only [ChR.pre,outR,WQ,isR,Qb,List.append_nil] at ho hu hs hc;subst ho;subst hu;subst hs;subst hc;first|done|rfl|(simp;done)|(simp;omega)|(simp only [jC];omega))
      | ((repeat(first|rewrite [if_pos (by first|omega|assumption|(simp only [*,or_self,or_true,true_or,or_false,false_or,jf,jg,jd,je,and_self,and_true,true_and];done)|(simp only [*];omega)|(simp [*];done)|(simp [*];omega))] at h4|rewrite [if_neg (by first|omega|assumption|(simp only [*,or_self,or_true,true_or,or_false,false_or,jf,jg,jd,je,and_self,and_true,true_and];done)|(simp only [*];omega)|(simp [*];done)|(simp [*];omega))] at h4));subst h4;simp only [ChR.pre,outR,WQ,isR,Qb,List.append_nil] at ho hu hs hc;subst ho;subst hu;subst hs;subst hc;first
          |(have hn0:=hn3 ‹ok=false› ‹e=0›;simp only [jC,true_and,and_true];omega)
          |(have hn0:=gn3 ‹ok2=false› ‹e3=0›;simp only [jC,true_and,and_true];omega))
      | ((repeat(first|rewrite [if_pos (by first|omega|assumption|(simp only [*,or_self,or_true,true_or,or_false,false_or,jf,jg,jd,je,and_self,and_true,true_and];done)|(simp only [*];omega)|(simp [*];done)|(simp [*];omega))] at h4|rewrite [if_neg (by first|omega|assumption|(simp only [*,or_self,or_true,true_or,or_false,false_or,jf,jg,jd,je,and_self,and_true,true_and];done)|(simp only [*];omega)|(simp [*];done)|(simp [*];omega))] at h4))
         rw [ChR.zpF] at h4
         have hl:(o++(b.drop (i+n)).take m).length=o.length+m:=by rw [jk,jv,jC];omega
         exact hA (i+n+m+n2,o++(b.drop (i+n)).take m) ⟨by simp only;omega,by simp only;omega,f,by simp only;rw [jC];omega,by simp only [hl];exact h4⟩ (by simp only;omega)))
    |skip
   all_goals
    refine zB hI zh mixed [Xc,Xb,uj,uh,Zl,Zk,rU,rQ,ZC,ZB] hX [0,6,7,15] (fun(g:Nat × Nat)=>match g with|(j,c)=>j≤b.length∧c≤16∧∃ f,(b.drop j).length<f∧(zbD f c (b.drop j)).pre o=R) (fun(g:Nat × Nat)=>match g with|(j,c)=>⟨[(0,.v (.one (.p (.list .byte b)))),(6,.v (.one (.row 0))),(7,.v (.one (.p (.int .i64 j)))),(15,.v (.one (.p (.int .i64 c))))],[.row .byte 5 o],166,none⟩) (fun(g:Nat × Nat)=>match g with|(j,c)=>b.length - j) (i+n,0) (by kernel_rfl) (by kernel_rfl) ?_ ?_
    · clear key
      subst hI;simp only [nrmA,nrmB] at *;have hnp:=hn2 (.inl ‹ok=true›)
      refine⟨by omega,by decide,f,by rw [jC];omega,?_⟩
      (repeat(first|rewrite [if_pos (by first|omega|assumption|(simp only [*,or_self,or_true,true_or,or_false,false_or,jf,jg,jd,je,and_self,and_true,true_and];done)|(simp only [*];omega)|(simp [*];done)|(simp [*];omega))] at h4|rewrite [if_neg (by first|omega|assumption|(simp only [*,or_self,or_true,true_or,or_false,false_or,jf,jg,jd,je,and_self,and_true,true_and];done)|(simp only [*];omega)|(simp [*];done)|(simp [*];omega))] at h4))
      exact h4
    exact key
 rintro⟨j,c⟩ ⟨g1,g2,f2,g3,g4⟩ B hB;simp only at hB g1 g2 g3 g4;have hcutj:I.cut b (Int.ofNat j) (I.len b)=b.drop j:=hcut j;clear hA
 refine orcL ?_;go_invoke;refine orcS (by kernel_rfl) ?_
 simp only [zq,Nat.reduceAdd];simp only [hcutj,hcut,hh];obtain⟨q,qn,q1,q2,q3,q4⟩:=uH (b.drop j)
 obtain⟨f2,rfl⟩: ∃ f',f2=f'+1:=⟨f2 - 1,by omega⟩
 rw [zbD] at g4;have qll:=ZA (b.drop j);rw [jC] at g3 q1 qll;simp only [qn,hadd,jJ,List.drop_drop] at g4 ⊢;generalize zF (b.drop j)=x at *;obtain⟨t',n',ok',e'⟩:=x;simp only at *;subst qn
 (repeat' (first|refine ja ?_ ?_|intro _))
 all_goals subst hI
 all_goals(simp only [nrmA,nrmB,nrlB,reduceCtorEq] at *)
 all_goals first
  |done
  |omega
  |(simp only [jv,jC,jh,ji];omega)
  |((repeat(first|rewrite [if_pos (by first|omega|assumption|(simp only [*,or_self,or_true,true_or,or_false,false_or,jf,jg,jd,je,and_self,and_true,true_and];done)|(simp only [*];omega)|(simp [*];done)|(simp [*];omega))] at g4|rewrite [if_neg (by first|omega|assumption|(simp only [*,or_self,or_true,true_or,or_false,false_or,jf,jg,jd,je,and_self,and_true,true_and];done)|(simp only [*];omega)|(simp [*];done)|(simp [*];omega))] at g4));subst g4;simp only [ChR.pre,outR,WQ,isR,Qb,List.append_nil] at ho hu hs hc;subst ho;subst hu;subst hs;subst hc;first|done|rfl|(simp;done)|(simp;omega)|(simp only [jC];omega)|(have hn0:=q3 ‹ok'=false› ‹e'=0›;simp only [jC,true_and,and_true];omega))
  | ((repeat(first|rewrite [if_pos (by first|omega|assumption|(simp only [*,or_self,or_true,true_or,or_false,false_or,jf,jg,jd,je,and_self,and_true,true_and];done)|(simp only [*];omega)|(simp [*];done)|(simp [*];omega))] at g4|rewrite [if_neg (by first|omega|assumption|(simp only [*,or_self,or_true,true_or,or_false,false_or,jf,jg,jd,je,and_self,and_true,true_and];done)|(simp only [*];omega)|(simp [*];done)|(simp [*];omega))] at g4))
     exact hB (j+q,c+1) ⟨by simp only;omega,by simp only;omega,f2,by simp only;rw [jC];have:=q2 (.inl ‹ok'=true›);omega,by simp only;rw [Int.natCast_add];exact g4⟩ (by simp only;have:=q2 (.inl ‹ok'=true›);omega))
def zjP:Know Tryz.prog:=⟨40,zf5,zrh⟩
def zjO:Know Tryz.prog:=⟨40,fun I=>zy I (zf5 I),zf zrh⟩
theorem ziB {b o r:Str} {e:Int} (h:yR b=.bad o e r):e≠0:=by
 have h1:=Rh b;rw [h] at h1;exact(Qu h1).2
def Q7:ChR→Nat
 |.more _ h=>h
 |.over _ r=>r.length
 |.bad _ _ r=>r.length
theorem zb6 (o:Str) (h:Nat):outR (.more o h)=o∧Q7 (.more o h)=h:=⟨rfl,rfl⟩
theorem zb5 (o r:Str):outR (.over o r)=o∧Q7 (.over o r)=r.length:=⟨rfl,rfl⟩
theorem zft (o r:Str) (e:Int):outR (.bad o e r)=o∧Q7 (.bad o e r)=r.length:=⟨rfl,rfl⟩
theorem zn4 (b:Str) (x:ChR):WQ b x=(b.length:Int) - Q7 x:=by cases x<;>rfl
theorem zsD (o:Str) (x:ChR):Q7 (x.pre o)=Q7 x:=by cases x<;>rfl
theorem zgr: ∀ (f:Nat) (k:Int) (r:Str),(outR (zbD f k r)).length+Q7 (zbD f k r)≤r.length
 |0,k,r=>by simp [zbD,outR,Q7]
 | f+1,k,r=>by
   obtain⟨n,hn,h1,-,-,-⟩:=uH r;have hl:(r.drop n).length=r.length - n:=jC;have ih:=zgr f (k+1) (r.drop n);rw [hl] at ih;rw [zbD,hn,jJ]
   repeat' split
   all_goals try simp only [zb6,zb5,zft,hl,ji]
   all_goals omega
theorem ztJ {k:Str→ChR} (hk: ∀ r,(outR (k r)).length+Q7 (k r)≤r.length) (r:Str):(outR (endR k r)).length+Q7 (endR k r)≤r.length:=by
 obtain⟨n,hn,h1,-,-,-⟩:=uH r;have hl:(r.drop n).length=r.length - n:=jC;have ih:=hk (r.drop n);rw [hl] at ih;rw [endR,hn,jJ]
 repeat' split
 all_goals try simp only [zb6,zb5,zft,hl,ji]
 all_goals omega
theorem ziD: ∀ (f:Nat) (a:Int) (r:Str),(outR (zdm f a r)).length+Q7 (zdm f a r)≤r.length
 |0,a,r=>by simp [zdm,outR,Q7]
 | f+1,a,r=>by
   obtain⟨n,hn,h1,-,-,-⟩:=uH r;have hl:(r.drop n).length=r.length - n:=jC;have ht:=zgr f 0 (r.drop n);have he:=ztJ (ziD f (a+(wC (zF r).1).1)) ((r.drop n).drop (wC (zF r).1).1.toNat);rw [jC,hl] at he;rw [hl] at ht;rw [zdm,hn,jJ]
   repeat' split
   all_goals try simp only [zb6,zb5,zft,hl,ji,(ChR.zsK _ r _).1,zsD,jk,jv]
   all_goals omega
theorem zjS (b:Str):0≤WQ b (yR b)∧WQ b (yR b)≤b.length∧(outR (yR b)).length≤b.length:=by
 have:=ziD (b.length+1) 0 b;rw [zn4];unfold yR;omega
theorem Qr: ∀ {r:Str} {s:Ch} {o rest:Str},sO s r=.over o rest→∃ n,n≤r.length∧rest=r.drop n
 |[],s,o,rest,h=>by cases h
 | c ::r,s,o,rest,h=>by
   rw [sO] at h
   split at h
   · cases h
   split at h
   · cases h;exact⟨1,by simp,rfl⟩
   · obtain⟨p,h1,_⟩:=ChR.zll h
     obtain⟨n,h2,h3⟩:=Qr h1
     exact⟨n+1,by rw [jh];omega,by rw [h3];rfl⟩
theorem ziA {b o r:Str} (h:yR b=.over o r):b.drop (WQ b (yR b)).toNat=r:=by
 have h1:=Rh b;rw [h] at h1 ⊢;obtain⟨n,h2,h3⟩:=Qr h1
 have:(WQ b (.over o r)).toNat=n:=by rw [WQ,h3,jC];omega
 rw [this,h3]
end Go.Proofs.YtkjepecoodjbmaaGreatDoor
namespace Go.Proofs.YtkjepecoodjbmaaGreatDoor
open Go Go.Sep Go.Ab
set_option maxRecDepth 100000
def XB (I:Alg) (args:List D) (hp:List HO):Option CT:=match args,hp with
 |[.v (.one (.p (.int .i64 c))),.v (.one (.ptr 0 0))],[.pack [.obj 25 [(.row 1)],.row .evt 34 o]]=>(fun(o:List Evt) (c:Int)=>(some (.one ⟨I.hid (o.length≤1000000),(.ret (.tup [(.one (.row 1)),(.one (.p (.bool false)))])),[.pack [.obj 25 [.any]],.row .evt 34 (I.hid ((o++[evF c])))]⟩):Option CT)) o c
 |_,_=>none
theorem zdP:zx Tryz.prog 35 (XB alg):=by
 intro args hp r h;unfold XB at h;split at h<;>cases h
 rename_i c o
 revert o;intro(o:List Evt)
 simp only [CT.Good,zi];intro hneed
 refine spcG zh mixed Tryz.func35 (by kernel_rfl) { keep:=some [0,1,3,4]} [] (by kernel_rfl) ?_
 intro I X hI hX
 refine orcL ?_;go_invoke;refine orcS (by kernel_rfl) ?_
 simp only [zq,Nat.reduceAdd];subst hI;simp only [nrmA,nrmB,nrlB,reduceCtorEq];simp only [jh,ji]
 exact⟨by omega,rfl⟩
def XA:Know Tryz.prog:=⟨35,XB,zdP⟩
def Rj:Know Tryz.prog:=⟨35,fun I=>zy I (XB I),zf zdP⟩
theorem zpx (f:Nat) (r:Str):reqG (f+1) none r=
  if(zF r).2.2.2≠0 then([evF (zF r).2.2.2],false)
  else if(zF r).2.2.1=false then([],decide (r≠[]))
  else if(zF r).1=[] then reqG f none (r.drop (zF r).2.1.toNat)
  else if(firM (zF r).1).2≠0 then([evF (firM (zF r).1).2],false)
  else reqG f (some (firM (zF r).1).1) (r.drop (zF r).2.1.toNat):=by
 rw [reqG]
 cases hr:wU ln0 r with
 |more x=>rw [zfz hr];simp
 | line t rest=>
   obtain⟨n,h1,h2,h3,rfl⟩:=zcl hr;rw [h1];obtain⟨e1,e2⟩:=ztt t;simp only [ne_eq,jf,if_false,je,jJ,e1]
   by_cases ht:t=[]
   · rw [if_pos ht,if_pos ht]
   rw [if_neg ht,if_neg ht]
   by_cases hb:(begM t).1=0
   · simp only [hb,jf,if_false,e2 hb]
   · simp only [hb,jg,if_true]
 |bad e rest=>obtain⟨n,h1,h2,h3,h4,rfl⟩:=zlJ hr;rw [h1];simp [h2]
def reqH (f:Nat) (h:Hd) (rest:Str):List Evt × Bool:=
 if(YN h.minor h.fields).2≠0 then([evF (YN h.minor h.fields).2],false)
 else if 0≤(YN h.minor h.fields).1 then
  (if(YN h.minor h.fields).1≤rest.length then preG ([evH { h with length:=(YN h.minor h.fields).1}]++bodE (rest.take (YN h.minor h.fields).1.toNat)++[evE]) (reqG f none (rest.drop (YN h.minor h.fields).1.toNat))
  else([evH { h with length:=(YN h.minor h.fields).1}]++bodE rest,true))
 else if Qb (yR rest)≠0 then([evH { h with length:=(YN h.minor h.fields).1}]++bodE (outR (yR rest))++[evF (Qb (yR rest))],false)
 else if isR (yR rest)=false then([evH { h with length:=(YN h.minor h.fields).1}]++bodE (outR (yR rest)),true)
 else preG ([evH { h with length:=(YN h.minor h.fields).1}]++bodE (outR (yR rest))++[evE]) (reqG f none (rest.drop (WQ rest (yR rest)).toNat))
theorem zpw (f:Nat) (h:Hd) (r:Str):reqG (f+1) (some h) r=
  if(zF r).2.2.2≠0 then([evF (zF r).2.2.2],false)
  else if(zF r).2.2.1=false then([],true)
  else if(zF r).1=[] then reqH f h (r.drop (zF r).2.1.toNat)
  else if h.fields.length=16 then([evF 8],false)
  else if(yj (zF r).1).2≠0 then([evF (yj (zF r).1).2],false)
  else reqG f (some { h with fields:=h.fields++[(yj (zF r).1).1]}) (r.drop (zF r).2.1.toNat):=by
 rw [reqG]
 cases hr:wU ln0 r with
 |more x=>rw [zfz hr];simp
 | line t rest=>
   obtain⟨n,h1,h2,h3,rfl⟩:=zcl hr;rw [h1];simp only [ne_eq,jf,if_false,je,jJ]
   by_cases ht:t=[]
   · rw [if_pos ht,if_pos ht]
     unfold reqH;rw [zs3];generalize r.drop n=rest
     split
     · rfl
     split
     · split
       · simp [preG]
       · rfl
     · cases hc:yR rest with
       |more o k=>simp [Qb,isR,outR,preG]
       | bad o e r2=>
         have:=ziB hc
         simp [Qb,outR,preG,this]
       | over o r2=>
         have hd:=ziA hc;rw [hc] at hd
         simp [Qb,isR,outR,preG,hd]
   · rw [if_neg ht,if_neg ht]
 |bad e rest=>obtain⟨n,h1,h2,h3,h4,rfl⟩:=zlJ hr;rw [h1];simp [h2]
theorem zv5 (l:Str):bodE l=if 0<(l.length:Int) then [evB l] else []:=by
 unfold bodE
 cases l with
 |nil=>rfl
 |cons c r=>rw [if_neg (by simp),if_pos (by rw [jh];omega)]
theorem zxd (s:Str):(firM s).1.fields=[]:=by
 unfold firM
 split
 · repeat' split
   all_goals rfl
 · rfl
def znP:Cfg:= { nr:=[15],sl:=[⟨30,3,.fld,some 108⟩,⟨25,0,.evt,some 34⟩]}
def ZP (I:Alg) (args:List D) (hp:List HO):Option CT:=match args,hp with
 |[.v (.one (.p (.list .byte b)))],[]=>(fun(b:Str)=>(some (.one ⟨I.hid (b.length≤200000),(.ret (.tup [(.one (.row 0)),(.one (.p (.bool (I.hid ((reqG (b.length+1) none b).2)))))])),[.row .evt 34 (I.hid ((reqG (b.length+1) none b).1))]⟩):Option CT)) b
 |_,_=>none
set_option maxHeartbeats 8000000 in
theorem zbX:zx Tryz.prog 10 (ZP alg):=by
 intro args hp r h;unfold ZP at h;split at h<;>cases h
 rename_i b;simp only [CT.Good,zi];intro hneed;generalize hR:reqG (b.length+1) none b=R;obtain⟨RE,RB⟩:=R
 refine spcG zh mixed Tryz.func10 (by kernel_rfl) { znP with keep:=some [0,2,3,4,5,6,7,8,9,10,11,12,13,14,15,16]} [XA,rU,rQ,Y3,Y2,Vd,Vb,ZC,ZB,zjP,zjO,XA,Rj] (by kernel_rfl) ?_
 intro I X hI hX
 refine orcL ?_;go_invoke;refine orcS (by kernel_rfl) ?_
 simp only [zq,Nat.reduceAdd]
 refine zB hI zh mixed [rU,rQ,Y3,Y2,Vd,Vb,ZC,ZB,zjP,zjO,XA,Rj] hX [0,4,5,6] (fun(g:Nat × List Evt)=>match g with|(i,o)=>i≤b.length∧o.length≤4 * i∧∃ f,(b.drop i).length<f∧preG o (reqG f none (b.drop i))=(RE,RB)) (fun(g:Nat × List Evt)=>match g with|(i,o)=>⟨[(0,.v (.one (.p (.list .byte b)))),(4,.v (.one (.ptr 0 0))),(5,.v (.one (.fn 35 [.ptr 0 0]))),(6,.v (.one (.p (.int .i64 i))))],[.pack [.obj 25 [(.row 1)],.row .evt 34 o]],188,none⟩) (fun(g:Nat × List Evt)=>match g with|(i,o)=>b.length - i) (0,[]) (by kernel_rfl) (by kernel_rfl) ?_ ?_
 · exact⟨jM _,jM _,b.length+1,Nat.lt_succ_self _,by rw [← hR];simp [preG]⟩
 rintro⟨i,o⟩ ⟨h1,h2,f,h3,h4⟩ A hA;simp only at hA h1 h2 h3 h4
 have keyF: ∀ (m t:Str) (mi le:Int) (j g:Nat) (st:St),i<j→j≤b.length→(b.drop j).length<g→preG o (reqG g (some ⟨m,t,mi,[],le⟩) (b.drop j))=(RE,RB)→cutM { znP with keep:=some [0,2,3,4,5,6,7,8,9,10,11,12,13,14,15,16]} 0 [0,4,5,6,11] st=some ⟨[(0,.v (.one (.p (.list .byte b)))),(4,.v (.one (.ptr 0 0))),(5,.v (.one (.fn 35 [.ptr 0 0]))),(6,.v (.one (.p (.int .i64 j)))),(11,.v (.one (.ptr 1 0)))],[.pack [.obj 25 [(.row 1)],.row .evt 34 o],.pack [.obj 30 [(.p (.str m)),(.p (.str t)),(.p (.int .i64 mi)),(.row 1),(.p (.int .i64 le))],.row .fld 108 ([])]],188,none⟩→Ok Tryz.prog X (fun o h=>o=(.ret (.tup [(.one (.row 0)),(.one (.p (.bool RB)))]))∧h=[.row .evt 34 RE]) (leaf I tab { znP with keep:=some [0,2,3,4,5,6,7,8,9,10,11,12,13,14,15,16]} (round I tab { znP with keep:=some [0,2,3,4,5,6,7,8,9,10,11,12,13,14,15,16]} 0 [0,4,5,6] A [⟨vV Tryz.f10,finK I tab { znP with keep:=some [0,2,3,4,5,6,7,8,9,10,11,12,13,14,15,16]} 0 Tryz.f10⟩] 0 [1,1,1,1,0]::[⟨vV Tryz.f10,finK I tab { znP with keep:=some [0,2,3,4,5,6,7,8,9,10,11,12,13,14,15,16]} 0 Tryz.f10⟩]) 0 [0,1,1,1,1,1,1,1,0,0] st):=by
  intro m t mi le j g st hj1 hj2 hg1 hg2 hst
  refine zB hI zh mixed [rU,rQ,Y3,Y2,Vd,Vb,ZC,ZB,zjP,zjO,XA,Rj] hX [0,4,5,6,11] (fun(g:Nat × List Fld)=>match g with|(j,fs)=>i<j∧j≤b.length∧fs.length≤16∧(∀ x ∈ fs,x.name.length≤1000000∧x.value.length≤1000000)∧∃ g,(b.drop j).length<g∧preG o (reqG g (some ⟨m,t,mi,fs,le⟩) (b.drop j))=(RE,RB)) (fun(g:Nat × List Fld)=>match g with|(j,fs)=>⟨[(0,.v (.one (.p (.list .byte b)))),(4,.v (.one (.ptr 0 0))),(5,.v (.one (.fn 35 [.ptr 0 0]))),(6,.v (.one (.p (.int .i64 j)))),(11,.v (.one (.ptr 1 0)))],[.pack [.obj 25 [(.row 1)],.row .evt 34 o],.pack [.obj 30 [(.p (.str m)),(.p (.str t)),(.p (.int .i64 mi)),(.row 1),(.p (.int .i64 le))],.row .fld 108 fs]],188,none⟩) (fun(g:Nat × List Fld)=>match g with|(j,fs)=>b.length - j) (j,[]) (by kernel_rfl) hst ?_ ?_
  · exact⟨hj1,hj2,jM _,(fun x h=>by cases h),g,hg1,hg2⟩
  clear hg1 hg2 hst hj1 hj2;rintro⟨j,fs⟩ ⟨k1,k2,k3,k4,g,k5,k6⟩ B hB;simp only at hB k1 k2 k3 k4 k5 k6
  refine orcL ?_;go_invoke;refine orcS (by kernel_rfl) ?_
  simp only [zq,Nat.reduceAdd]
  have hh: ∀ {α:Type} (x:α),I.hid x=x:=by subst hI;intros;rfl
  have hcut: ∀ j:Nat,I.cut b (j:Int) (I.len b)=b.drop j:=fun j=>by
   subst hI;rw [wB,zV,jJ,jJ]
   exact jq (by rw [jC];exact jL _)
  have hadd: ∀ j k:Nat,I.add (j:Int) (k:Int)=((j+k:Nat):Int):=fun j k=>by subst hI;rw [vP];omega
  have hcut0:I.cut b (Int.ofNat j) (I.len b)=b.drop j:=hcut j;simp only [hcut0,hh];obtain⟨n,hn,hn1,hn2,hn3,hn4⟩:=uH (b.drop j)
  obtain⟨g,rfl⟩: ∃ g',g=g'+1:=⟨g - 1,by omega⟩
  rw [zpw] at k6;unfold reqH at k6;rw [jC] at k5 hn1;simp only [hn,hadd,hcut,jJ,List.drop_drop] at k6 ⊢;have hll:=ZA (b.drop j);rw [jC] at hll;generalize zF (b.drop j)=x at *;obtain⟨t',n',ok,e⟩:=x;simp only at *;subst hn;have hpl:=zb4 t'
  have hfs:FsOk fs:=⟨by omega,k4⟩
  have hcl:=zjS (b.drop (j+n));rw [jC] at hcl;generalize YN mi fs=lh at *;obtain⟨k,kc⟩:=lh;simp only at *;generalize WQ (b.drop (j+n)) (yR (b.drop (j+n)))=ur at *;generalize yR (b.drop (j+n))=R at *;generalize outR R=ro at *;generalize isR R=ri at *;generalize Qb R=rc at *
  have hle:(((b.drop (j+n)).length:Nat):Int)=(b.length:Int) - ((j+n:Nat):Int):=by rw [jC];omega
  rw [hle] at k6;simp only [zv5,Ug] at k6
  have hBn:e=0→ok=true→¬ t'=[]→¬ fs.length=16→(yj t').2=0→_:=fun c1 c2 c3 c4 c5=>hB (j+n,fs++[(yj t').1]) ⟨by simp only;omega,by simp only;omega,by simp;omega,(by
   intro x hx
   rcases List.mem_append.1 hx with hx|hx
   · exact k4 x hx
   · rw [List.mem_singleton.1 hx];omega),g,by simp only;rw [jC];have:=hn2 (.inl c2);omega,by
     rw [if_neg (by simp [c1]),if_neg (by simp [c2]),if_neg c3,if_neg c4,if_neg (by simp [c5])] at k6;exact k6⟩ (by simp only;have:=hn2 (.inl c2);omega)
  have hAn: ∀ (o':List Evt) (q:Nat),i<q→q≤b.length→o'.length≤o.length+3→(b.drop q).length<g→preG o' (reqG g none (b.drop q))=(RE,RB)→_:=fun o' q q1 q2 q3 q4 q5=>hA (q,o') ⟨q2,by simp only;omega,g,q4,q5⟩ (by simp only;omega)
  have htk:(((j+n:Nat):Int)+k).toNat - (j+n)=k.toNat:=by omega
  clear hA hB hpl hn3 hn4 hR h4 hle
  (repeat' (first|refine ja ?_ ?_|intro _))
  all_goals(subst hI;(simp only [nrmA,nrmB,nrlB,reduceCtorEq] at *);(try simp only [List.nil_append,htk] at *))
  all_goals first
   |done
   |omega
   |exact hfs
   |exact(k4 _ ‹_›).1
   |exact(k4 _ ‹_›).2
   |(with_reducible show _≤_;simp only [jk,jv,jC,jh,ji];omega)
   |exact hBn ‹_› ‹_› ‹_› (by omega) ‹_›
   |(with_reducible show _=_;clear hAn hBn hcl hfs k4 h2 h3 k5 hn2 k1 k2 hn1 k3 h1;((repeat(first|rw [if_pos (by first|omega|assumption)] at k6|rw [if_neg (by first|omega|assumption|(rw [‹ok=true›];decide)|(rw [‹ri=true›];decide))] at k6));simp only [preG,Prod.mk.injEq,List.append_nil,List.nil_append] at k6;obtain⟨rfl,rfl⟩:=k6;first|rfl|(simp [evH,evB,evE,evF,hd0,prt0];done)))
   | (with_reducible show A _
      (repeat(first|rw [if_pos (by first|omega|assumption)] at k6|rw [if_neg (by first|omega|assumption|(rw [‹ok=true›];decide)|(rw [‹ri=true›];decide))] at k6))
      have hn0:=hn2 (.inl ‹ok=true›)
      first
       |rw [show((j+n:Nat):Int)+k=((j+n+k.toNat:Nat):Int) by omega]
       |rw [show((j+n:Nat):Int)+ur=((j+n+ur.toNat:Nat):Int) by omega]
      rw [Ug] at k6
      refine hAn _ _ (by omega) (by omega) (by simp only [jk,jh,ji];omega) (by rw [jC];omega) ?_
      rw [← k6]
      simp only [jo,evH,evB,evE,hd0,prt0,List.nil_append,List.cons_append])
 refine orcL ?_;go_invoke;refine orcS (by kernel_rfl) ?_
 simp only [zq,Nat.reduceAdd]
 have hh: ∀ {α:Type} (x:α),I.hid x=x:=by subst hI;intros;rfl
 have hcut: ∀ j:Nat,I.cut b (j:Int) (I.len b)=b.drop j:=fun j=>by
  subst hI;rw [wB,zV,jJ,jJ]
  exact jq (by rw [jC];exact jL _)
 have hadd: ∀ j k:Nat,I.add (j:Int) (k:Int)=((j+k:Nat):Int):=fun j k=>by subst hI;rw [vP];omega
 have hcut0:I.cut b (Int.ofNat i) (I.len b)=b.drop i:=hcut i;simp only [hcut0,hh];obtain⟨n,hn,hn1,hn2,hn3,hn4⟩:=uH (b.drop i)
 obtain⟨f,rfl⟩: ∃ g',f=g'+1:=⟨f - 1,by omega⟩
 rw [zpx] at h4;rw [jC] at h3 hn1;simp only [hn,hadd,hcut,jJ,List.drop_drop] at h4 ⊢;have hll:=ZA (b.drop i);rw [jC] at hll;generalize zF (b.drop i)=x at *;obtain⟨t',n',ok,e⟩:=x;simp only at *;subst hn;have hfm:(firM t').1.fields=[]:=zxd t'
 have hlt:(i:Int)<(b.length:Int)↔b.drop i≠[]:=by
  constructor
  · intro h k
    have:=congrArg List.length k;rw [jC] at this
    simp at this;omega
  · intro h
    have:b.length - i≠0:=fun k=>h (List.eq_nil_of_length_eq_zero (by rw [jC];exact k))
    omega
 generalize firM t'=fm at *;obtain⟨⟨hm,ht,hmi,hfl,hle⟩,fc⟩:=fm;simp only at *;subst hfm
 have hkF:=fun(h:ok=true) st=>keyF hm ht hmi hle (i+n) f st (by have:=hn2 (.inl h);omega) (by omega) (by rw [jC];have:=hn2 (.inl h);omega)
 clear keyF
 (repeat' (first|refine ja ?_ ?_|intro _))
 all_goals first
  | ((with_reducible show Ok _ _ _ _)
     have k1:ok=true:=by clear hkF hA;subst hI;(simp only [nrmA,nrmB,nrlB,reduceCtorEq] at *);assumption
     have k2: ¬ t'=[]:=by clear hkF hA;subst hI;(simp only [nrmA,nrmB,nrlB,reduceCtorEq] at *);assumption
     have k3:fc=0:=by clear hkF hA;subst hI;(simp only [nrmA,nrmB,nrlB,reduceCtorEq] at *);assumption
     have k4:e=0:=hn4 k1
     rw [if_neg (by simp [k4]),if_neg (by simp [k1]),if_neg k2,if_neg (by simp [k3])] at h4
     subst hI
     exact hkF k1 _ h4 (by kernel_rfl))
  | (clear hkF
     subst hI
     (simp only [nrmA,nrmB,nrlB,reduceCtorEq] at *)
     first
     |done
     |omega
     |(rw [jC];omega)
     | (with_reducible show A _
        have hn0:=hn2 (.inl ‹ok=true›)
        ((repeat(first|rewrite [if_pos (by first|omega|assumption|(simp only [*,or_self,or_true,true_or,or_false,false_or,jf,jg,jd,je,and_self,and_true,true_and];done)|(simp only [*];omega)|(simp [*];done)|(simp [*];omega))] at h4|rewrite [if_neg (by first|omega|assumption|(simp only [*,or_self,or_true,true_or,or_false,false_or,jf,jg,jd,je,and_self,and_true,true_and];done)|(simp only [*];omega)|(simp [*];done)|(simp [*];omega))] at h4)))
        exact hA (i+n,o) ⟨by simp only;omega,by simp only;omega,f,by simp only;rw [jC];omega,h4⟩ (by simp only;omega))
     | (clear hn2 hn3 hn4 hA hR
        with_reducible show _=_
        ((repeat(first|rewrite [if_pos (by first|omega|assumption|(simp only [*,or_self,or_true,true_or,or_false,false_or,jf,jg,jd,je,and_self,and_true,true_and];done)|(simp only [*];omega)|(simp [*];done)|(simp [*];omega))] at h4|rewrite [if_neg (by first|omega|assumption|(simp only [*,or_self,or_true,true_or,or_false,false_or,jf,jg,jd,je,and_self,and_true,true_and];done)|(simp only [*];omega)|(simp [*];done)|(simp [*];omega))] at h4));simp only [preG,Prod.mk.injEq,List.append_nil,List.nil_append] at h4;obtain⟨rfl,rfl⟩:=h4;first|rfl|(simp [evH,evB,evE,evF,hd0,prt0];done)|exact decide_eq_decide.2 hlt))
     )
def WV:Know Tryz.prog:=⟨10,ZP,zbX⟩
def WU:Know Tryz.prog:=⟨10,fun I=>zy I (ZP I),zf zbX⟩
end Go.Proofs.YtkjepecoodjbmaaGreatDoor
namespace Go.Proofs.YtkjepecoodjbmaaGreatDoor
open Go Go.Sep Go.Ab
set_option maxRecDepth 100000
set_option maxHeartbeats 4000000 in
theorem gApart_ (b other:Str) (cs:List Int) (hneed:b.length≤140737488355328∧other.length≤140737488355328):Spc Tryz.prog 3 [.v (.one (.p (.list .byte b))),.v (.one (.p (.list .byte other))),.v (.one (.p (.list .int cs)))] [] (.ret (.v (.one (.p (.bool true))))) []:=by
 obtain⟨hz1,hz2⟩:=hneed;have hfx:=zfj cs b;have hfy:=zfj cs other;have hlx:=zja cs b;have hly:=zja cs other;have hno:=zwW (b:=other)
 refine spcG zh mixed Tryz.func3 (by kernel_rfl) { cfgG with nr:=[14],keep:=some [0,1,2,6,7,9,10,11,12,13,14,15,16,18]} [vz,vw,VQ,VP,zaC,zaB,VD,VB,VL,VK,zbR,zbQ,xI,xH,vG,vF,tY,tX,YV,YU,UX,UW,zfM,zfL,YR,YQ,zb3,zb2,WV,WU] (by kernel_rfl) ?_
 intro I X hI hX
 refine orcL ?_;go_invoke;refine orcS (by kernel_rfl) ?_
 simp only [zq,Nat.reduceAdd]
 have hh: ∀ {α:Type} (y:α),I.hid y=y:=fun y=>by subst hI;rfl
 simp only [hh]
 have hEl:other.length≤1000000→(reqG (other.length+1) none other).1.length≤4000000:=fun h=>by rw [← (zgV other).1];exact zss h
 generalize reqG (other.length+1) none other=E at *;obtain⟨E,bu⟩:=E;dsimp only at hno hEl
 (repeat' (first|refine ja ?_ ?_|intro _))
 all_goals try(subst hI;(simp only [nrmA,nrmB,nrlB,reduceCtorEq] at *);first|done|trivial|omega|exact⟨by omega,by omega⟩)
 have hb:b.length+other.length≤9000∧cs.length≤40:=by
  subst hI;simp only [nrmA,nrmB,nrlB,reduceCtorEq] at *;omega
 refine zB hI zh mixed [vz,vw,VQ,VP,zaC,zaB,VD,VB,VL,VK,zbR,zbQ,xI,xH,vG,vF,tY,tX,YV,YU,UX,UW,zfM,zfL,YR,YQ,zb3,zb2,WV,WU] hX [0,1,2,7,9] (fun(i:Nat)=>i≤E.length∧∀ j,j<i→(E.getD j ⟨0,⟨[],[],0,[],0⟩,[],⟨[],[],[],[]⟩,0⟩).kind≠3) (fun(i:Nat)=>⟨[(0,.v (.one (.p (.list .byte b)))),(1,.v (.one (.p (.list .byte other)))),(2,.v (.one (.p (.list .int cs)))),(7,.v (.one (.row 0))),(9,.v (.one (.p (.int .i64 i))))],[.row .evt 34 E],112,none⟩) (fun(i:Nat)=>E.length - i) 0 (by kernel_rfl) (by kernel_rfl) ?_ ?_
 · exact⟨jM _,fun j h=>absurd h (by omega)⟩
 rintro i ⟨h1,h2⟩ A hA
 refine orcL ?_;go_invoke;refine orcS (by kernel_rfl) ?_
 simp only [zq,Nat.reduceAdd]
 have e1:I.get E ⟨0,⟨[],[],0,[],0⟩,[],⟨[],[],[],[]⟩,0⟩ (i:Int)=E.getD i ⟨0,⟨[],[],0,[],0⟩,[],⟨[],[],[],[]⟩,0⟩:=by subst hI;first|rfl|simp
 simp only [hh,e1]
 have hEl1:=hEl (by omega)
 (repeat' (first|refine ja ?_ ?_|intro _))
 all_goals try(subst hI;(simp only [nrmA,nrmB,nrlB,reduceCtorEq] at *);first|done|omega|(with_reducible exact jb)|exact⟨by omega,by omega⟩|exact hA (i+1) ⟨by omega,fun j hj=>(Nat.lt_or_eq_of_le (Nat.le_of_lt_succ hj)).elim (h2 j) (fun e=>by subst e;assumption)⟩ (by omega))
 have hil: ¬ i<E.length:=by
  subst hI;simp only [nrmA,nrmB,nrlB,reduceCtorEq] at *;omega
 have h3:cnt3 (zC rq0 other).out=0:=hno fun e he=>by
  obtain⟨j,hj,rfl⟩:=List.getElem_of_mem he
  have:=h2 j (by omega)
  rw [jH,jm hj] at this;exact this
 clear hA hno h2;generalize pcs b cs=L at *;generalize pcs other cs=M at *
 have hn0:=zxk (x:=b) (by omega)
 refine zB hI zh mixed [vz,vw,VQ,VP,zaC,zaB,VD,VB,VL,VK,zbR,zbQ,xI,xH,vG,vF,tY,tX,YV,YU,UX,UW,zfM,zfL,YR,YQ,zb3,zb2,WV,WU] hX [0,10,11,12,13,14,15] (fun(g:Nat × List Upl × Int × Str × Int × Cn × Cn × Str)=>match g with|(i,l1,n1,b1,s1,c,d,o)=>PcG b L i ⟨l1,n1,b1,s1⟩ c o∧PcD other M i d) (fun(g:Nat × List Upl × Int × Str × Int × Cn × Cn × Str)=>match g with|(i,l1,n1,b1,s1,c,d,o)=>⟨[(0,.v (.one (.p (.list .byte b)))),(10,.v (.one (.ptr 0 0))),(11,.v (.one (.ptr 1 0))),(12,.v (.one (.row 2))),(13,.v (.one (.row 3))),(14,.v (.one (.row 4))),(15,.v (.one (.p (.int .i64 i))))],[.obj 50 [(.ptr 5 0),(.ptr 6 0),(.ptr 7 0),(.ptr 8 0),(.ptr 9 0)],.obj 50 [(.ptr 10 0),(.ptr 11 0),(.ptr 12 0),(.ptr 13 0),(.ptr 14 0)],.row .bytes 22 L,.row .bytes 22 M,.row .byte 5 o,.pack [.obj 54 [(.ptr 1 0),(.ptr 2 0)],.pack [.obj 124 [(.row 1),(.p (.int .i64 n1))],.row .upl 81 l1],.pack [.obj 156 [(.row 1),(.p (.int .i64 s1))],.row .byte 5 b1]],.abs (.cn c),.abs (.cn d),.abs (.cn cn0),.abs (.cn cn0),.pack [.obj 54 [(.ptr 1 0),(.ptr 2 0)],.pack [.obj 124 [(.row 1),(.p (.int .i64 0))],.row .upl 81 ([])],.pack [.obj 156 [(.row 1),(.p (.int .i64 0))],.row .byte 5 ([])]],.abs (.cn cn0),.abs (.cn cn0),.abs (.cn cn0),.abs (.cn cn0)],112,none⟩) (fun(g:Nat × List Upl × Int × Str × Int × Cn × Cn × Str)=>match g with|(i,l1,n1,b1,s1,c,d,o)=>L.length - i) (0,[],0,[],0,cn0,cn0,[]) (by kernel_rfl) (by kernel_rfl) ?_ ?_
 · exact⟨zxW b L,zxY other M⟩
 rintro⟨i,l1,n1,b1,s1,c,d,o⟩ ⟨h1,h2⟩ A hA;simp only at hA h1 h2;have hf0:fdK cn0=0:=rfl
 have hnd:=fun h:i<L.length=>zsN h1 hfx h (by omega)
 have hnx:=fun h:i<L.length=>zxV h1 hfx h (by omega)
 have hol:=fun h:i<L.length=>zue (hnx h) hfx (by omega)
 have hil:=h1.le
 have hen:=fun h: ¬ i<L.length=>zvi (show PcG b L L.length ⟨l1,n1,b1,s1⟩ c o by rw [show L.length=i by omega];exact h1) hfx
 have hol1:=zue h1 hfx (by omega)
 have hwk:=(ztz zoz znO (b:=b) (by omega)).1
 have hct:=h1.sk.1.cnt;have hcu:=hwk.1.cnt
 have hD:=fun h:i<L.length=>zxX h2 (hnx h).sk hfy h3 (by omega) (by omega)
 have hDn:=fun h:i<L.length=>zsO h2 (hnx h).sk (by have:=uf L (i+1);rw [hfx] at this;omega) hfy (by omega) (by omega)
 refine orcL ?_;go_invoke;refine orcS (by kernel_rfl) ?_
 simp only [zq,Nat.reduceAdd]
 have e1:I.get L [] (i:Int)=L.getD i []:=by subst hI;first|rfl|simp
 have e2:I.get M [] (i:Int)=M.getD i []:=by subst hI;first|rfl|simp
 simp only [e1,e2,hh];generalize L.getD i []=x at *;generalize M.getD i []=y at *;generalize hq1:fdQ ⟨l1,n1,b1,s1⟩ c x=q1 at *;obtain⟨l2,n2,b2,s2⟩:=q1;subst hI
 try rw [hf0]
 dsimp only
 by_cases hlt:i<L.length
 · obtain⟨hD1,hD2⟩:=hD hlt
   have hnd:=hnd hlt;have hnx:=hnx hlt;have hol:=hol hlt;have hDn:=hDn hlt;clear hD hen;simp only [hD1];rw [jk] at hol;simp only [nrmA,nrmB,nrlB,reduceCtorEq]
   (repeat' (first|refine ja ?_ ?_|intro _))<;>first|omega|exact jb|exact jc ‹False›|skip
   all_goals first
    |omega
    |exact hn0
    |exact hnd
    |exact hDn
    |exact hA (i+1,_,_,_,_,_,_,_) ⟨hnx,hD2⟩ (by dsimp only;omega)
 · clear hD hnd hnx hol hDn
   obtain⟨he1,he2,he3⟩:=hen hlt;simp only [nrmA,nrmB,nrlB,reduceCtorEq]
   (repeat' (first|refine ja ?_ ?_|intro _))<;>first|omega|exact jb|exact jc ‹False›|skip
   all_goals first
    |omega
    |exact hn0
    |exact h1.sk.1
    |exact hwk.1
    |exact Nat.le_trans hct (by decide)
    |exact he3
    |exact congrArg Sto.l he1
    |exact he2
end Go.Proofs.YtkjepecoodjbmaaGreatDoor
