/- Texts of this proof, one behind the other: GatI GatH GatJ ShlA Idx ReqG PrtA PrtB GatK PrtC PrtD PrtI PrtE PrtF. -/
import Derived.Shelf.Strings.Trim
import Derived.Shelf.Small.Utf8
import Derived.Shelf.Small.Strs
import Derived.Shelf.Small.Wraps
import Derived.Shelf.Strconv.Itoa0
import Derived.Shelf.Strconv.Itoa1
import Derived.Shelf.LaysM
import Derived.Shelf.Strconv.Itoa2
import Derived.Shelf.Strconv.Itoa3
import Derived.Shelf.Strings.Search1
import Derived.Shelf.Strings.Search2
import Derived.Shelf.Strings.Search3
import Derived.Shelf.Strings.Cut
import Derived.Shelf.Strings.Count
import Derived.Shelf.Strings.Shaped
import Derived.Shelf.Strings.Prefix
import Derived.Shelf.Strings.Split
import Derived.Shelf.Strings.Runes
import Derived.Shelf.Strings.IndexAny
import Derived.Shelf.Strings.AsciiSet
import Derived.Shelf.Strings.IndexAnyAll
import Derived.Shelf.Unicode.DecodeSlow
import Derived.Test.YtkjepecoodjbmaaGreatDoorProg
import Derived.Laws.Runes
import Derived.Lib.OthersKept
import Derived.Deep.QuietTactic
import Derived.BigQuiet
import Derived.Test.YtkjepecoodjbmaaGreatDoorMe
set_option linter.all false
namespace Go.Proofs.YtkjepecoodjbmaaGreatDoor
open Go Go.Sep Go.Ab
set_option maxRecDepth 100000
def oldC (c:Cn):Cn:= { c with own:=if zbV c then false else c.own}
def VS (I:Alg) (args:List D) (hp:List HO):Option CT:=match args,hp with
 |[.v (.one (.ptr 0 0)),.v (.one (.p (.int .i64 0)))],[.obj 50 [(.ptr 1 0),(.ptr 2 0),(.ptr 3 0),(.ptr 4 0),(.ptr 5 0)],.pack [.obj 54 [(.ptr 1 0),(.ptr 2 0)],.pack [.obj 124 [(.row 1),(.p (.int .i64 n))],.row .upl 81 l],.pack [.obj 156 [(.row 1),(.p (.int .i64 s))],.row .byte 5 b]],.abs (.cn c0),.abs (.cn c1),.abs (.cn c2),.abs (.cn c3)]=>(fun(l:List Upl) (n:Int) (b:Str) (s:Int) (c0 c1 c2 c3:Cn)=>(some (.one ⟨I.hid (zK l n∧n≤200000∧b.length≤100000∧FOk c0.h.fields∧c0.body.length≤100000),(.ret (.v (.one (.p (.int .i64 0))))),[.obj 50 [(.ptr 1 0),(.ptr 6 0),(.ptr 3 0),(.ptr 4 0),(.ptr 5 0)],.pack [.obj 54 [(.ptr 1 0),(.ptr 2 0)],.pack [.obj 124 [(.row 1),(.p (.int .i64 (I.hid ((vW ⟨l,n,b,s⟩ c0).n))))],.row .upl 81 (I.hid ((vW ⟨l,n,b,s⟩ c0).l))],.pack [.obj 156 [(.row 1),(.p (.int .i64 (I.hid ((vW ⟨l,n,b,s⟩ c0).s))))],.row .byte 5 (I.hid ((vW ⟨l,n,b,s⟩ c0).b))]],.abs (.cn (I.hid ((oldC c0)))),.abs (.cn c1),.abs (.cn c2),.abs (.cn c3),.abs (.cn cn0)]⟩):Option CT)) l n b s c0 c1 c2 c3
 |_,_=>none
set_option maxHeartbeats 2000000 in
theorem zgx:zx Tryz.prog 20 (VS alg):=by
 intro args hp r h;unfold VS at h;split at h<;>cases h
 rename_i n l s b c0 c1 c2 c3
 revert l;intro(l:List Upl)
 simp only [CT.Good,zi];intro hneed;obtain⟨hs,hn,hb,hf,hbo⟩:=hneed;generalize hq:vW ⟨l,n,b,s⟩ c0=rq;generalize hc:oldC c0=rc;obtain⟨l',n',b',s'⟩:=rq;obtain⟨q,⟨m,t,mi,f,le⟩,cb,li,w⟩:=c0;unfold vW zbV at hq;unfold oldC zbV at hc;dsimp only at *
 rw [show decide (cb≠[])=decide (0<(cb.length:Int)) by cases cb<;>simp] at hq hc
 generalize hg:(li&&(decide (m=Zh)&&(decide (0<(cb.length:Int))&&Lib.hasPrefix t xh)))=g at hq hc
 refine spcG zh mixed Tryz.func20 (by kernel_rfl) { cfgG with fz:=[49],keep:=some [0,1,4,5]} [yL,yK,zb5,zb4,sK,sJ] (by kernel_rfl) ?_
 intro I X hI hX;cases w
 all_goals
  refine orcL ?_;go_invoke;refine orcS (by kernel_rfl) ?_
  simp only [zq,Nat.reduceAdd]
  have hh: ∀ {α:Type} (y:α),I.hid y=y:=fun y=>by subst hI;rfl
  simp only [hh];rw [show([80,65,84,67,72]:Str)=Zh from rfl,show([47,102,105,108,101,115,47]:Str)=xh from rfl];generalize yC ⟨l,n,b,s⟩ m t f cb=x at *;obtain⟨x1,x2,⟨x3,x4,x5,x6⟩⟩:=x;generalize Lib.hasPrefix t xh=hp at *;subst hI;dsimp only at *;simp only [nrmA,nrmB,nrlB,reduceCtorEq,V0.agg.injEq,HO.pack.injEq,HO.obj.injEq,HO.abs.injEq,Gh.cn.injEq,decide_eq_true_eq];cases g
  all_goals
   simp only [jd,if_false,if_true,Sto.mk.injEq] at hq hc;obtain⟨rfl,rfl,rfl,rfl⟩:=hq;subst hc
   (repeat' (first|refine ja ?_ ?_|intro _))<;>first|omega|exact jb|exact jc ‹False›|skip
   all_goals first
    |omega
    |with_reducible rfl
    |with_reducible assumption
    |exact hf.1
    |(exact(hf.2 _ ‹_›).1)
    |(exact(hf.2 _ ‹_›).2)
    |rfl
    |(exfalso;simp [*] at hg;done)
    |(exfalso;have hq0:0<cb.length:=(by omega);have hq1:(0<(cb.length:Int))=True:=eq_true (by omega);simp only [*,decide_true,Bool.and_true,je] at hg;done)
    |(exfalso;simp [*] at hg;omega)
def Yy:Know Tryz.prog:=⟨20,VS,zgx⟩
def Yx:Know Tryz.prog:=⟨20,fun I=>zy I (VS I),zf zgx⟩
def VR (I:Alg) (args:List D) (hp:List HO):Option CT:=match args,hp with
 |[.v (.one (.ptr 0 0)),.v (.one (.p (.int .i64 1)))],[.obj 50 [(.ptr 1 0),(.ptr 2 0),(.ptr 3 0),(.ptr 4 0),(.ptr 5 0)],.pack [.obj 54 [(.ptr 1 0),(.ptr 2 0)],.pack [.obj 124 [(.row 1),(.p (.int .i64 n))],.row .upl 81 l],.pack [.obj 156 [(.row 1),(.p (.int .i64 s))],.row .byte 5 b]],.abs (.cn c0),.abs (.cn c1),.abs (.cn c2),.abs (.cn c3)]=>(fun(l:List Upl) (n:Int) (b:Str) (s:Int) (c0 c1 c2 c3:Cn)=>(some (.one ⟨I.hid (zK l n∧n≤200000∧b.length≤100000∧FOk c1.h.fields∧c1.body.length≤100000),(.ret (.v (.one (.p (.int .i64 0))))),[.obj 50 [(.ptr 1 0),(.ptr 2 0),(.ptr 6 0),(.ptr 4 0),(.ptr 5 0)],.pack [.obj 54 [(.ptr 1 0),(.ptr 2 0)],.pack [.obj 124 [(.row 1),(.p (.int .i64 (I.hid ((vW ⟨l,n,b,s⟩ c1).n))))],.row .upl 81 (I.hid ((vW ⟨l,n,b,s⟩ c1).l))],.pack [.obj 156 [(.row 1),(.p (.int .i64 (I.hid ((vW ⟨l,n,b,s⟩ c1).s))))],.row .byte 5 (I.hid ((vW ⟨l,n,b,s⟩ c1).b))]],.abs (.cn c0),.abs (.cn (I.hid ((oldC c1)))),.abs (.cn c2),.abs (.cn c3),.abs (.cn cn0)]⟩):Option CT)) l n b s c0 c1 c2 c3
 |_,_=>none
set_option maxHeartbeats 2000000 in
theorem zgw:zx Tryz.prog 20 (VR alg):=by
 intro args hp r h;unfold VR at h;split at h<;>cases h
 rename_i n l s b c0 c1 c2 c3
 revert l;intro(l:List Upl)
 simp only [CT.Good,zi];intro hneed;obtain⟨hs,hn,hb,hf,hbo⟩:=hneed;generalize hq:vW ⟨l,n,b,s⟩ c1=rq;generalize hc:oldC c1=rc;obtain⟨l',n',b',s'⟩:=rq;obtain⟨q,⟨m,t,mi,f,le⟩,cb,li,w⟩:=c1;unfold vW zbV at hq;unfold oldC zbV at hc;dsimp only at *
 rw [show decide (cb≠[])=decide (0<(cb.length:Int)) by cases cb<;>simp] at hq hc
 generalize hg:(li&&(decide (m=Zh)&&(decide (0<(cb.length:Int))&&Lib.hasPrefix t xh)))=g at hq hc
 refine spcG zh mixed Tryz.func20 (by kernel_rfl) { cfgG with fz:=[49],keep:=some [0,1,4,5]} [yL,yK,zb5,zb4,sK,sJ,Yy,Yx] (by kernel_rfl) ?_
 intro I X hI hX;cases w
 all_goals
  refine orcL ?_;go_invoke;refine orcS (by kernel_rfl) ?_
  simp only [zq,Nat.reduceAdd]
  have hh: ∀ {α:Type} (y:α),I.hid y=y:=fun y=>by subst hI;rfl
  simp only [hh];rw [show([80,65,84,67,72]:Str)=Zh from rfl,show([47,102,105,108,101,115,47]:Str)=xh from rfl];generalize yC ⟨l,n,b,s⟩ m t f cb=x at *;obtain⟨x1,x2,⟨x3,x4,x5,x6⟩⟩:=x;generalize Lib.hasPrefix t xh=hp at *;subst hI;dsimp only at *;simp only [nrmA,nrmB,nrlB,reduceCtorEq,V0.agg.injEq,HO.pack.injEq,HO.obj.injEq,HO.abs.injEq,Gh.cn.injEq,decide_eq_true_eq];cases g
  all_goals
   simp only [jd,if_false,if_true,Sto.mk.injEq] at hq hc;obtain⟨rfl,rfl,rfl,rfl⟩:=hq;subst hc
   (repeat' (first|refine ja ?_ ?_|intro _))<;>first|omega|exact jb|exact jc ‹False›|skip
   all_goals first
    |omega
    |with_reducible rfl
    |with_reducible assumption
    |exact hf.1
    |(exact(hf.2 _ ‹_›).1)
    |(exact(hf.2 _ ‹_›).2)
    |rfl
    |(exfalso;simp [*] at hg;done)
    |(exfalso;have hq0:0<cb.length:=(by omega);have hq1:(0<(cb.length:Int))=True:=eq_true (by omega);simp only [*,decide_true,Bool.and_true,je] at hg;done)
    |(exfalso;simp [*] at hg;omega)
def VQ:Know Tryz.prog:=⟨20,VR,zgw⟩
def VP:Know Tryz.prog:=⟨20,fun I=>zy I (VR I),zf zgw⟩
def VO (I:Alg) (args:List D) (hp:List HO):Option CT:=match args,hp with
 |[.v (.one (.ptr 0 0)),.v (.one (.p (.int .i64 2)))],[.obj 50 [(.ptr 1 0),(.ptr 2 0),(.ptr 3 0),(.ptr 4 0),(.ptr 5 0)],.pack [.obj 54 [(.ptr 1 0),(.ptr 2 0)],.pack [.obj 124 [(.row 1),(.p (.int .i64 n))],.row .upl 81 l],.pack [.obj 156 [(.row 1),(.p (.int .i64 s))],.row .byte 5 b]],.abs (.cn c0),.abs (.cn c1),.abs (.cn c2),.abs (.cn c3)]=>(fun(l:List Upl) (n:Int) (b:Str) (s:Int) (c0 c1 c2 c3:Cn)=>(some (.one ⟨I.hid (zK l n∧n≤200000∧b.length≤100000∧FOk c2.h.fields∧c2.body.length≤100000),(.ret (.v (.one (.p (.int .i64 0))))),[.obj 50 [(.ptr 1 0),(.ptr 2 0),(.ptr 3 0),(.ptr 6 0),(.ptr 5 0)],.pack [.obj 54 [(.ptr 1 0),(.ptr 2 0)],.pack [.obj 124 [(.row 1),(.p (.int .i64 (I.hid ((vW ⟨l,n,b,s⟩ c2).n))))],.row .upl 81 (I.hid ((vW ⟨l,n,b,s⟩ c2).l))],.pack [.obj 156 [(.row 1),(.p (.int .i64 (I.hid ((vW ⟨l,n,b,s⟩ c2).s))))],.row .byte 5 (I.hid ((vW ⟨l,n,b,s⟩ c2).b))]],.abs (.cn c0),.abs (.cn c1),.abs (.cn (I.hid ((oldC c2)))),.abs (.cn c3),.abs (.cn cn0)]⟩):Option CT)) l n b s c0 c1 c2 c3
 |_,_=>none
set_option maxHeartbeats 2000000 in
theorem zgv:zx Tryz.prog 20 (VO alg):=by
 intro args hp r h;unfold VO at h;split at h<;>cases h
 rename_i n l s b c0 c1 c2 c3
 revert l;intro(l:List Upl)
 simp only [CT.Good,zi];intro hneed;obtain⟨hs,hn,hb,hf,hbo⟩:=hneed;generalize hq:vW ⟨l,n,b,s⟩ c2=rq;generalize hc:oldC c2=rc;obtain⟨l',n',b',s'⟩:=rq;obtain⟨q,⟨m,t,mi,f,le⟩,cb,li,w⟩:=c2;unfold vW zbV at hq;unfold oldC zbV at hc;dsimp only at *
 rw [show decide (cb≠[])=decide (0<(cb.length:Int)) by cases cb<;>simp] at hq hc
 generalize hg:(li&&(decide (m=Zh)&&(decide (0<(cb.length:Int))&&Lib.hasPrefix t xh)))=g at hq hc
 refine spcG zh mixed Tryz.func20 (by kernel_rfl) { cfgG with fz:=[49],keep:=some [0,1,4,5]} [yL,yK,zb5,zb4,sK,sJ,Yy,Yx,VQ,VP] (by kernel_rfl) ?_
 intro I X hI hX;cases w
 all_goals
  refine orcL ?_;go_invoke;refine orcS (by kernel_rfl) ?_
  simp only [zq,Nat.reduceAdd]
  have hh: ∀ {α:Type} (y:α),I.hid y=y:=fun y=>by subst hI;rfl
  simp only [hh];rw [show([80,65,84,67,72]:Str)=Zh from rfl,show([47,102,105,108,101,115,47]:Str)=xh from rfl];generalize yC ⟨l,n,b,s⟩ m t f cb=x at *;obtain⟨x1,x2,⟨x3,x4,x5,x6⟩⟩:=x;generalize Lib.hasPrefix t xh=hp at *;subst hI;dsimp only at *;simp only [nrmA,nrmB,nrlB,reduceCtorEq,V0.agg.injEq,HO.pack.injEq,HO.obj.injEq,HO.abs.injEq,Gh.cn.injEq,decide_eq_true_eq];cases g
  all_goals
   simp only [jd,if_false,if_true,Sto.mk.injEq] at hq hc;obtain⟨rfl,rfl,rfl,rfl⟩:=hq;subst hc
   (repeat' (first|refine ja ?_ ?_|intro _))<;>first|omega|exact jb|exact jc ‹False›|skip
   all_goals first
    |omega
    |with_reducible rfl
    |with_reducible assumption
    |exact hf.1
    |(exact(hf.2 _ ‹_›).1)
    |(exact(hf.2 _ ‹_›).2)
    |rfl
    |(exfalso;simp [*] at hg;done)
    |(exfalso;have hq0:0<cb.length:=(by omega);have hq1:(0<(cb.length:Int))=True:=eq_true (by omega);simp only [*,decide_true,Bool.and_true,je] at hg;done)
    |(exfalso;simp [*] at hg;omega)
def zbe:Know Tryz.prog:=⟨20,VO,zgv⟩
def zbd:Know Tryz.prog:=⟨20,fun I=>zy I (VO I),zf zgv⟩
def VN (I:Alg) (args:List D) (hp:List HO):Option CT:=match args,hp with
 |[.v (.one (.ptr 0 0)),.v (.one (.p (.int .i64 3)))],[.obj 50 [(.ptr 1 0),(.ptr 2 0),(.ptr 3 0),(.ptr 4 0),(.ptr 5 0)],.pack [.obj 54 [(.ptr 1 0),(.ptr 2 0)],.pack [.obj 124 [(.row 1),(.p (.int .i64 n))],.row .upl 81 l],.pack [.obj 156 [(.row 1),(.p (.int .i64 s))],.row .byte 5 b]],.abs (.cn c0),.abs (.cn c1),.abs (.cn c2),.abs (.cn c3)]=>(fun(l:List Upl) (n:Int) (b:Str) (s:Int) (c0 c1 c2 c3:Cn)=>(some (.one ⟨I.hid (zK l n∧n≤200000∧b.length≤100000∧FOk c3.h.fields∧c3.body.length≤100000),(.ret (.v (.one (.p (.int .i64 0))))),[.obj 50 [(.ptr 1 0),(.ptr 2 0),(.ptr 3 0),(.ptr 4 0),(.ptr 6 0)],.pack [.obj 54 [(.ptr 1 0),(.ptr 2 0)],.pack [.obj 124 [(.row 1),(.p (.int .i64 (I.hid ((vW ⟨l,n,b,s⟩ c3).n))))],.row .upl 81 (I.hid ((vW ⟨l,n,b,s⟩ c3).l))],.pack [.obj 156 [(.row 1),(.p (.int .i64 (I.hid ((vW ⟨l,n,b,s⟩ c3).s))))],.row .byte 5 (I.hid ((vW ⟨l,n,b,s⟩ c3).b))]],.abs (.cn c0),.abs (.cn c1),.abs (.cn c2),.abs (.cn (I.hid ((oldC c3)))),.abs (.cn cn0)]⟩):Option CT)) l n b s c0 c1 c2 c3
 |_,_=>none
set_option maxHeartbeats 2000000 in
theorem zgu:zx Tryz.prog 20 (VN alg):=by
 intro args hp r h;unfold VN at h;split at h<;>cases h
 rename_i n l s b c0 c1 c2 c3
 revert l;intro(l:List Upl)
 simp only [CT.Good,zi];intro hneed;obtain⟨hs,hn,hb,hf,hbo⟩:=hneed;generalize hq:vW ⟨l,n,b,s⟩ c3=rq;generalize hc:oldC c3=rc;obtain⟨l',n',b',s'⟩:=rq;obtain⟨q,⟨m,t,mi,f,le⟩,cb,li,w⟩:=c3;unfold vW zbV at hq;unfold oldC zbV at hc;dsimp only at *
 rw [show decide (cb≠[])=decide (0<(cb.length:Int)) by cases cb<;>simp] at hq hc
 generalize hg:(li&&(decide (m=Zh)&&(decide (0<(cb.length:Int))&&Lib.hasPrefix t xh)))=g at hq hc
 refine spcG zh mixed Tryz.func20 (by kernel_rfl) { cfgG with fz:=[49],keep:=some [0,1,4,5]} [yL,yK,zb5,zb4,sK,sJ,Yy,Yx,VQ,VP,zbe,zbd] (by kernel_rfl) ?_
 intro I X hI hX;cases w
 all_goals
  refine orcL ?_;go_invoke;refine orcS (by kernel_rfl) ?_
  simp only [zq,Nat.reduceAdd]
  have hh: ∀ {α:Type} (y:α),I.hid y=y:=fun y=>by subst hI;rfl
  simp only [hh];rw [show([80,65,84,67,72]:Str)=Zh from rfl,show([47,102,105,108,101,115,47]:Str)=xh from rfl];generalize yC ⟨l,n,b,s⟩ m t f cb=x at *;obtain⟨x1,x2,⟨x3,x4,x5,x6⟩⟩:=x;generalize Lib.hasPrefix t xh=hp at *;subst hI;dsimp only at *;simp only [nrmA,nrmB,nrlB,reduceCtorEq,V0.agg.injEq,HO.pack.injEq,HO.obj.injEq,HO.abs.injEq,Gh.cn.injEq,decide_eq_true_eq];cases g
  all_goals
   simp only [jd,if_false,if_true,Sto.mk.injEq] at hq hc;obtain⟨rfl,rfl,rfl,rfl⟩:=hq;subst hc
   (repeat' (first|refine ja ?_ ?_|intro _))<;>first|omega|exact jb|exact jc ‹False›|skip
   all_goals first
    |omega
    |with_reducible rfl
    |with_reducible assumption
    |exact hf.1
    |(exact(hf.2 _ ‹_›).1)
    |(exact(hf.2 _ ‹_›).2)
    |rfl
    |(exfalso;simp [*] at hg;done)
    |(exfalso;have hq0:0<cb.length:=(by omega);have hq1:(0<(cb.length:Int))=True:=eq_true (by omega);simp only [*,decide_true,Bool.and_true,je] at hg;done)
    |(exfalso;simp [*] at hg;omega)
def zgt:Know Tryz.prog:=⟨20,VN,zgu⟩
def zgs:Know Tryz.prog:=⟨20,fun I=>zy I (VN I),zf zgu⟩
end Go.Proofs.YtkjepecoodjbmaaGreatDoor
namespace Go.Proofs.YtkjepecoodjbmaaGreatDoor
open Go Go.Sep Go.Ab
set_option maxRecDepth 100000
def Xj (I:Alg) (args:List D) (hp:List HO):Option CT:=match args,hp with
 |[.v (.one (.ptr 0 0))],[.obj 50 [(.ptr 1 0),(.p (.val (.pointer none))),(.p (.val (.pointer none))),(.p (.val (.pointer none))),(.p (.val (.pointer none)))],.pack [.obj 54 [(.ptr 1 0),(.ptr 2 0)],.pack [.obj 124 [(.row 1),(.p (.int .i64 n))],.row .upl 81 l],.pack [.obj 156 [(.row 1),(.p (.int .i64 s))],.row .byte 5 b]]]=>(fun(l:List Upl) (n:Int) (b:Str) (s:Int)=>(some (.one ⟨I.hid (True),(.ret (.tup [])),[.obj 50 [(.ptr 1 0),(.ptr 2 0),(.ptr 3 0),(.ptr 4 0),(.ptr 5 0)],.pack [.obj 54 [(.ptr 1 0),(.ptr 2 0)],.pack [.obj 124 [(.row 1),(.p (.int .i64 n))],.row .upl 81 l],.pack [.obj 156 [(.row 1),(.p (.int .i64 s))],.row .byte 5 b]],.abs (.cn cn0),.abs (.cn cn0),.abs (.cn cn0),.abs (.cn cn0)]⟩):Option CT)) l n b s
 |_,_=>none
theorem zcQ:zx Tryz.prog 41 (Xj alg):=by
 intro args hp r h;unfold Xj at h;split at h<;>cases h
 rename_i n l s b
 revert l;intro(l:List Upl)
 simp only [CT.Good,zi];intro _
 refine spcG zh mixed Tryz.func41 (by kernel_rfl) { cfgG with keep:=some [0,2,3]} [sK,sJ] (by kernel_rfl) ?_
 intro I X hI hX
 refine orcL ?_;go_invoke;refine orcS (by kernel_rfl) ?_
 simp only [zq,Nat.reduceAdd]
 refine zB hI zh mixed [sK,sJ] hX [0,3] (fun i:Nat=>i≤4) (fun i:Nat=>match i with
  |0=>⟨[(0,.v (.one (.ptr 0 0))),(3,.v (.one (.p (.int .i64 0))))],[.obj 50 [(.ptr 1 0),(.p (.val (.pointer none))),(.p (.val (.pointer none))),(.p (.val (.pointer none))),(.p (.val (.pointer none)))],.pack [.obj 54 [(.ptr 1 0),(.ptr 2 0)],.pack [.obj 124 [(.row 1),(.p (.int .i64 n))],.row .upl 81 l],.pack [.obj 156 [(.row 1),(.p (.int .i64 s))],.row .byte 5 b]]],15,none⟩
  |1=>⟨[(0,.v (.one (.ptr 0 0))),(3,.v (.one (.p (.int .i64 1))))],[.obj 50 [(.ptr 1 0),(.ptr 2 0),(.p (.val (.pointer none))),(.p (.val (.pointer none))),(.p (.val (.pointer none)))],.pack [.obj 54 [(.ptr 1 0),(.ptr 2 0)],.pack [.obj 124 [(.row 1),(.p (.int .i64 n))],.row .upl 81 l],.pack [.obj 156 [(.row 1),(.p (.int .i64 s))],.row .byte 5 b]],.abs (.cn cn0)],15,none⟩
  |2=>⟨[(0,.v (.one (.ptr 0 0))),(3,.v (.one (.p (.int .i64 2))))],[.obj 50 [(.ptr 1 0),(.ptr 2 0),(.ptr 3 0),(.p (.val (.pointer none))),(.p (.val (.pointer none)))],.pack [.obj 54 [(.ptr 1 0),(.ptr 2 0)],.pack [.obj 124 [(.row 1),(.p (.int .i64 n))],.row .upl 81 l],.pack [.obj 156 [(.row 1),(.p (.int .i64 s))],.row .byte 5 b]],.abs (.cn cn0),.abs (.cn cn0)],15,none⟩
  |3=>⟨[(0,.v (.one (.ptr 0 0))),(3,.v (.one (.p (.int .i64 3))))],[.obj 50 [(.ptr 1 0),(.ptr 2 0),(.ptr 3 0),(.ptr 4 0),(.p (.val (.pointer none)))],.pack [.obj 54 [(.ptr 1 0),(.ptr 2 0)],.pack [.obj 124 [(.row 1),(.p (.int .i64 n))],.row .upl 81 l],.pack [.obj 156 [(.row 1),(.p (.int .i64 s))],.row .byte 5 b]],.abs (.cn cn0),.abs (.cn cn0),.abs (.cn cn0)],15,none⟩
  |_=>⟨[(0,.v (.one (.ptr 0 0))),(3,.v (.one (.p (.int .i64 4))))],[.obj 50 [(.ptr 1 0),(.ptr 2 0),(.ptr 3 0),(.ptr 4 0),(.ptr 5 0)],.pack [.obj 54 [(.ptr 1 0),(.ptr 2 0)],.pack [.obj 124 [(.row 1),(.p (.int .i64 n))],.row .upl 81 l],.pack [.obj 156 [(.row 1),(.p (.int .i64 s))],.row .byte 5 b]],.abs (.cn cn0),.abs (.cn cn0),.abs (.cn cn0),.abs (.cn cn0)],15,none⟩) (fun i:Nat=>4 - i) 0 (by kernel_rfl) (by kernel_rfl) ?_ ?_
 · exact jM _
 rintro i h1 A hA
 obtain rfl|rfl|rfl|rfl|rfl:i=0∨i=1∨i=2∨i=3∨i=4:=by omega
 all_goals
  refine orcL ?_;go_invoke;refine orcS (by kernel_rfl) ?_
  simp only [zq,Nat.reduceAdd];subst hI;refine⟨fun c=> ?_,fun c=> ?_⟩
  all_goals first
   |exact absurd c (by decide)
   |exact⟨jb,by show IntKind.i64.min≤_∧_;decide,hA 1 (by decide) (by decide),jb⟩
   |exact⟨jb,by show IntKind.i64.min≤_∧_;decide,hA 2 (by decide) (by decide),jb⟩
   |exact⟨jb,by show IntKind.i64.min≤_∧_;decide,hA 3 (by decide) (by decide),jb⟩
   |exact⟨jb,by show IntKind.i64.min≤_∧_;decide,hA 4 (by decide) (by decide),jb⟩
   |exact⟨jb,jb⟩
def Xi:Know Tryz.prog:=⟨41,Xj,zcQ⟩
def Xh:Know Tryz.prog:=⟨41,fun I=>zy I (Xj I),zf zcQ⟩
end Go.Proofs.YtkjepecoodjbmaaGreatDoor
namespace Go.Proofs.YtkjepecoodjbmaaGreatDoor
open Go Go.Sep Go.Ab
set_option maxRecDepth 100000
theorem outK {k:Int} (h:k<0∨4≤k):(∃ j:Nat,k=Int.negSucc j)∨(∃ j:Nat,k=Int.ofNat (j+4)):=by
 rcases k with j|j
 · refine .inr ⟨j - 4,?_⟩
   have:(Int.ofNat j)=(j:Int):=rfl;rw [this] at h
   rw [show j - 4+4=j by omega]
 · exact .inl ⟨j,rfl⟩
def VT (I:Alg) (args:List D) (hp:List HO):Option CT:=match args,hp with
 |[.v (.one (.ptr 0 0)),.v (.one (.p (.int .i64 k))),.v (.one (.p (.list .byte x)))],[.obj 50 [(.ptr 1 0),(.ptr 2 0),(.ptr 3 0),(.ptr 4 0),(.ptr 5 0)],.pack [.obj 54 [(.ptr 1 0),(.ptr 2 0)],.pack [.obj 124 [(.row 1),(.p (.int .i64 n))],.row .upl 81 l],.pack [.obj 156 [(.row 1),(.p (.int .i64 s))],.row .byte 5 b]],.abs (.cn c0),.abs (.cn c1),.abs (.cn c2),.abs (.cn c3)]=>(fun(l:List Upl) (n:Int) (b:Str) (s:Int) (c0 c1 c2 c3:Cn) (k:Int) (x:Str)=>(some (.one ⟨I.hid (k<0∨4≤k),(.ret (.tup [(.one (.p (.list .byte (I.hid ([]))))),(.one (.p (.int .i64 1)))])),[.obj 50 [(.ptr 1 0),(.ptr 2 0),(.ptr 3 0),(.ptr 4 0),(.ptr 5 0)],.pack [.obj 54 [(.ptr 1 0),(.ptr 2 0)],.pack [.obj 124 [(.row 1),(.p (.int .i64 n))],.row .upl 81 l],.pack [.obj 156 [(.row 1),(.p (.int .i64 s))],.row .byte 5 b]],.abs (.cn c0),.abs (.cn c1),.abs (.cn c2),.abs (.cn c3)]⟩):Option CT)) l n b s c0 c1 c2 c3 k x
 |_,_=>none
theorem zgy:zx Tryz.prog 14 (VT alg):=by
 intro args hp r h;unfold VT at h;split at h<;>cases h
 rename_i k x n l s b c0 c1 c2 c3
 revert l;intro(l:List Upl)
 simp only [CT.Good,zi];intro hneed;have hk:=outK hneed
 refine spcG zh mixed Tryz.func14 (by kernel_rfl) { cfgG with rl:=[0],keep:=some [0,1,2,6,7,8,10,37,38,39]} [xR,xQ,xP,xO,yw,yu,yH,yG,yP,yO,yY,yX,wY,wX,uU,uT,YA,Yz,zgA,zgz] (by kernel_rfl) ?_
 intro I X hI hX
 rcases hk with⟨j,rfl⟩|⟨j,rfl⟩
 all_goals
  refine orcL ?_;go_invoke;refine orcS (by kernel_rfl) ?_
  simp only [zq,Nat.reduceAdd];subst hI;simp only [nrmA,nrmB,nrlB,reduceCtorEq]
  (repeat' (first|refine ja ?_ ?_|intro _))<;>first|omega|exact jb|exact jc ‹False›|skip
def zpw:Know Tryz.prog:=⟨14,VT,zgy⟩
def zpv:Know Tryz.prog:=⟨14,fun I=>zy I (VT I),zf zgy⟩
def VL (I:Alg) (args:List D) (hp:List HO):Option CT:=match args,hp with
 |[.v (.one (.ptr 0 0)),.v (.one (.p (.int .i64 k)))],[.obj 50 [(.ptr 1 0),(.ptr 2 0),(.ptr 3 0),(.ptr 4 0),(.ptr 5 0)],.pack [.obj 54 [(.ptr 1 0),(.ptr 2 0)],.pack [.obj 124 [(.row 1),(.p (.int .i64 n))],.row .upl 81 l],.pack [.obj 156 [(.row 1),(.p (.int .i64 s))],.row .byte 5 b]],.abs (.cn c0),.abs (.cn c1),.abs (.cn c2),.abs (.cn c3)]=>(fun(l:List Upl) (n:Int) (b:Str) (s:Int) (c0 c1 c2 c3:Cn) (k:Int)=>(some (.one ⟨I.hid (k<0∨4≤k),(.ret (.v (.one (.p (.int .i64 1))))),[.obj 50 [(.ptr 1 0),(.ptr 2 0),(.ptr 3 0),(.ptr 4 0),(.ptr 5 0)],.pack [.obj 54 [(.ptr 1 0),(.ptr 2 0)],.pack [.obj 124 [(.row 1),(.p (.int .i64 n))],.row .upl 81 l],.pack [.obj 156 [(.row 1),(.p (.int .i64 s))],.row .byte 5 b]],.abs (.cn c0),.abs (.cn c1),.abs (.cn c2),.abs (.cn c3)]⟩):Option CT)) l n b s c0 c1 c2 c3 k
 |_,_=>none
theorem zgr:zx Tryz.prog 20 (VL alg):=by
 intro args hp r h;unfold VL at h;split at h<;>cases h
 rename_i k n l s b c0 c1 c2 c3
 revert l;intro(l:List Upl)
 simp only [CT.Good,zi];intro hneed;have hk:=outK hneed
 refine spcG zh mixed Tryz.func20 (by kernel_rfl) { cfgG with keep:=some [0,1,4,5]} [yL,yK,zb5,zb4,sK,sJ,Yy,Yx,VQ,VP,zbe,zbd,zgt,zgs] (by kernel_rfl) ?_
 intro I X hI hX
 rcases hk with⟨j,rfl⟩|⟨j,rfl⟩
 all_goals
  refine orcL ?_;go_invoke;refine orcS (by kernel_rfl) ?_
  simp only [zq,Nat.reduceAdd];subst hI;simp only [nrmA,nrmB,nrlB,reduceCtorEq]
  (repeat' (first|refine ja ?_ ?_|intro _))<;>first|omega|exact jb|exact jc ‹False›|skip
def zpu:Know Tryz.prog:=⟨20,VL,zgr⟩
def zpt:Know Tryz.prog:=⟨20,fun I=>zy I (VL I),zf zgr⟩
def zer (I:Alg) (args:List D) (hp:List HO):Option CT:=match args,hp with
 |[.v (.one (.ptr 0 0))],[.pack [.obj 54 [(.ptr 1 0),(.ptr 2 0)],.pack [.obj 124 [(.row 1),(.p (.int .i64 n))],.row .upl 81 l],.pack [.obj 156 [(.row 1),(.p (.int .i64 s))],.row .byte 5 b]]]=>(fun(l:List Upl) (n:Int) (b:Str) (s:Int)=>(some (.one ⟨I.hid (True),(.ret (.v (.one (.ptr 1 0)))),[.pack [.obj 54 [(.ptr 1 0),(.ptr 2 0)],.pack [.obj 124 [(.row 1),(.p (.int .i64 n))],.row .upl 81 l],.pack [.obj 156 [(.row 1),(.p (.int .i64 s))],.row .byte 5 b]],.obj 50 [(.ptr 0 0),(.ptr 2 0),(.ptr 3 0),(.ptr 4 0),(.ptr 5 0)],.abs (.cn cn0),.abs (.cn cn0),.abs (.cn cn0),.abs (.cn cn0)]⟩):Option CT)) l n b s
 |_,_=>none
theorem zps:zx Tryz.prog 11 (zer alg):=by
 intro args hp r h;unfold zer at h;split at h<;>cases h
 rename_i n l s b
 revert l;intro(l:List Upl)
 simp only [CT.Good,zi];intro _
 refine spcG zh mixed Tryz.func11 (by kernel_rfl) { cfgG with keep:=some [0,2,3]} [Xi,Xh] (by kernel_rfl) ?_
 intro I X hI hX
 refine orcL ?_;go_invoke;refine orcS (by kernel_rfl) ?_
 simp only [zq,Nat.reduceAdd];subst hI;simp only [nrmA,nrmB,nrlB,reduceCtorEq,HO.pack.injEq,HO.obj.injEq]
def zu1:Know Tryz.prog:=⟨11,zer,zps⟩
def zu0:Know Tryz.prog:=⟨11,fun I=>zy I (zer I),zf zps⟩
end Go.Proofs.YtkjepecoodjbmaaGreatDoor
namespace Go.Proofs
open Go.Shelf
def Tryz.lays150_ren:Go.Shelf.Ren:=⟨fun|150=>143|153=>194|152=>232|226=>233|227=>234|228=>235|137=>231|119=>262|224=>263|225=>264|217=>261|266=>282|n=>n,fun|9=>9|4=>4|3=>3|5=>5|21=>21|117=>275|116=>274|0=>0|46=>117|124=>295|n=>n,fun|n=>n⟩
theorem Tryz.lays150:Go.Proofs.Lays.n150 Tryz.prog Tryz.lays150_ren:= {
 mixed:=by kernel_rfl
 f119:=Tryz.func262.trans (congrArg some (by kernel_rfl))
 f137:=Tryz.func231.trans (congrArg some (by kernel_rfl))
 f150:=Tryz.func143.trans (congrArg some (by kernel_rfl))
 f152:=Tryz.func232.trans (congrArg some (by kernel_rfl))
 f153:=Tryz.func194.trans (congrArg some (by kernel_rfl))
 f217:=Tryz.func261.trans (congrArg some (by kernel_rfl))
 f224:=Tryz.func263.trans (congrArg some (by kernel_rfl))
 f225:=Tryz.func264.trans (congrArg some (by kernel_rfl))
 f226:=Tryz.func233.trans (congrArg some (by kernel_rfl))
 f227:=Tryz.func234.trans (congrArg some (by kernel_rfl))
 f228:=Tryz.func235.trans (congrArg some (by kernel_rfl))
 f266:=Tryz.func282.trans (congrArg some (by kernel_rfl))
 t0:=Tryz.underlying0
 a0:=Tryz.isAgg0
 z0:=Tryz.sizeOf0
 v0:=Tryz.zeroValue0
 t3:=Tryz.underlying3
 a3:=Tryz.isAgg3
 z3:=Tryz.sizeOf3
 v3:=Tryz.zeroValue3
 t4:=Tryz.underlying4
 a4:=Tryz.isAgg4
 z4:=Tryz.sizeOf4
 v4:=Tryz.zeroValue4
 t5:=Tryz.underlying5
 a5:=Tryz.isAgg5
 z5:=Tryz.sizeOf5
 v5:=Tryz.zeroValue5
 t9:=Tryz.underlying9
 a9:=Tryz.isAgg9
 z9:=Tryz.sizeOf9
 v9:=Tryz.zeroValue9
 t21:=Tryz.underlying21
 a21:=Tryz.isAgg21
 z21:=Tryz.sizeOf21
 v21:=Tryz.zeroValue21
 t46:=Tryz.underlying117
 a46:=Tryz.isAgg117
 z46:=Tryz.sizeOf117
 v46:=Tryz.zeroValue117
 t116:=Tryz.underlying274
 a116:=Tryz.isAgg274
 z116:=Tryz.sizeOf274
 t117:=Tryz.underlying275
 a117:=Tryz.isAgg275
 z117:=Tryz.sizeOf275
 v117:=Tryz.zeroValue275
 t124:=Tryz.underlying295
 a124:=Tryz.isAgg295
 z124:=Tryz.sizeOf295
 v124:=Tryz.zeroValue295}
end Go.Proofs
namespace Go.Proofs.YtkjepecoodjbmaaGreatDoor
open Go Go.Sep Go.Ab Go.RowKit
set_option maxRecDepth 100000
set_option maxHeartbeats 2000000
theorem ziK (s:ByteArray) (pos:Nat) (h:pos<s.size) (ha:128≤(s.get! pos).toNat): ∀ j,j<(Utf8.decode s pos).2→pos+j<s.size∧128≤(s.get! (pos+j)).toNat:=by
 have hn: ¬ (s.get! (pos+0)).toNat<128:=by rw [Nat.add_zero];omega
 intro j;simp only [Utf8.decode,hn,if_false,jK,decide_eq_true_eq,beq_iff_eq,ge_iff_le]
 repeat' split
 all_goals intro hj
 all_goals(try simp only at hj)
 all_goals rcases(show j=0∨j=1∨j=2∨j=3 by omega) with rfl|rfl|rfl|rfl
 all_goals first|exact⟨h,ha⟩|omega|(constructor<;>omega)
theorem UO (r:Int) (w:World):Calls Tryz.prog 262 #[.int .i32 r] w fun e w'=>e=.returned (.bool (Go.validRune r))∧w'=w:=by
 go_enter Tryz.func262,Tryz.ntmps262
 go_wp2
 all_goals(try go_ret)
 all_goals(refine⟨?_,rfl⟩;first|(show Ending.returned (Value.bool true)=_;rw [show Go.validRune r=true from decide_eq_true (by omega)])|(show Ending.returned (Value.bool false)=_;rw [show Go.validRune r=false from decide_eq_false (by omega)]))
theorem zvm (x:Int) (w:World):Calls Tryz.prog 231 #[.string ByteArray.empty,.int .u8 x] w fun e w'=>e=.returned (.int .i64 (-1))∧w'=w:=Tryz.strings_IndexByte _ _ _
theorem sixth (r:Int) (w:World) (h0:128≤r) (h1:r≤2147483647):Calls Tryz.prog 232 #[.string (Sep.S [32,9]),.int .i32 r] w fun e w'=>e=.returned (.int .i64 (-1))∧Below w.heap.size w w':=by
 by_cases hr:r=65533
 · subst hr
   go_enter Tryz.func232,Tryz.ntmps232
   go_wp2
   go_loopg [5,6] 2 (fun g _ _ wx=>∃ i:Nat,i+g=2∧wx=w.iter (Sep.S [32,9]) i)
   case atStart=>exact⟨0,by omega,rfl⟩
   case round=>
    obtain⟨i,hig,rfl⟩:=hrel;have hsz:(Sep.S [32,9]).size=2:=rfl
    cases gk with
    | zero=>
      obtain rfl:i=2:=by omega
      have hnx:=run_next_end (P:=Tryz.prog) w (Sep.S [32,9]) 2
      go_wp2
      go_ret
      exact⟨rfl,(Below.refl _ w).alloc (jL _) _⟩
    | succ g=>
      have hi:i<(Sep.S [32,9]).size:=by rw [hsz];omega
      have hx128:((Sep.S [32,9])[i]'hi).toNat<128:=by
       rcases(show i=0∨i=1 by omega) with rfl|rfl<;>exact of_decide_eq_true (by kernel_rfl)
      have hnx:=fun ty=>run_next_ascii (P:=Tryz.prog) w (Sep.S [32,9]) i ty hi hx128;generalize((Sep.S [32,9])[i]'hi).toNat=n at *
      have hne:((n:Int) == 65533)=false:=beq_eq_false_iff_ne.2 (by omega)
      go_wp2
      go_roundg g
      case measure=>omega
      case rel=>exact⟨i+1,by omega,rfl⟩
 · cases hv:Go.validRune r
   · go_enter Tryz.func232,Tryz.ntmps232
     go_wp2_with (go_at_call 262;refine(UO _ _).mono ?_;rintro e w' ⟨rfl,hw⟩;rw [hw,hv])
     go_ret
     exact⟨rfl,Below.refl _ w⟩
   · obtain⟨e1,e2,e3⟩:=encode_facts r (by rw [validRune_eq];exact hv) h0
     have hcv: ∀ w,(convert 21 9 (.int .i32 r)).run Tryz.prog w=.ok (.string (Utf8.encode r)) w:=fun w=>run_convert_int_string w _ _ _ _ (by rw [Tryz.underlying21];rfl) Tryz.underlying9
     obtain⟨l,hl⟩: ∃ l,Utf8.encode r=Sep.S l:=⟨(Utf8.encode r).data.toList,rfl⟩;rw [hl] at e1 e2 e3 hcv;have e1:2≤l.length:=e1;have e2:l.length≤4:=e2
     have e4: ∀ a c,l=[a,c]→128≤c.toNat:=fun a c h=>by subst h;exact e3 (show 1<2 by omega)
     clear e3 hl;have hsz:(Sep.S [32,9]).size=2:=rfl
     by_cases h2:l.length=2
     · obtain⟨a,c,rfl⟩: ∃ a c,l=[a,c]:=by
        rcases l with _|⟨a,_|⟨c,_|_⟩⟩<;>simp_all
       have e4:=e4 a c rfl;have hbs:(Sep.S [a,c]).size=2:=rfl;have hs1: ∀ h:1<(Sep.S [32,9]).size,(Sep.S [32,9])[1]'h=9:=fun _=>rfl;have hs2: ∀ h:1<(Sep.S [a,c]).size,(Sep.S [a,c])[1]'h=c:=fun _=>rfl
       have hc1:((9:Int) == (c.toNat:Int))=false:=beq_eq_false_iff_ne.2 (by omega)
       have hc2:((9:Int) != (c.toNat:Int))=true:=bne_iff_ne.2 (by omega)
       have hw2:IntKind.i64.wrap 2=2:=by rw [IntKind.wrap_i64];decide
       go_enter Tryz.func232,Tryz.ntmps232
       go_wp2_with (first|(go_at_call 262;refine(UO _ _).mono ?_;rintro e w' ⟨rfl,hw⟩;rw [hw,hv])|((with_reducible show wpList _ _ _ (⟨_,.convert _ _ _,_,_,_,_⟩::_) _ _);refine zdu rfl (v:=.string (Sep.S [a,c])) (w':=w) (hcv w) ?_;simp only [Act.put,List.setIfInBounds_toArray,List.set_cons_succ,List.set_cons_zero]))
       refine wp_scope_straight ?_
       go_wp2_with (((with_reducible show wpList _ _ _ (⟨_,.convert _ _ _,_,_,_,_⟩::_) _ _);refine zdu rfl (v:=.string (Sep.S [a,c])) (w':=w) (hcv w) ?_;simp only [Act.put,List.setIfInBounds_toArray,List.set_cons_succ,List.set_cons_zero]))
       go_loopg [9] 0 (fun g v9 wx=>wx=w∧v9=.int .i64 1)
       case atStart=>exact⟨rfl,rfl⟩
       case round=>
        obtain⟨rfl,rfl⟩:=hrel
        go_wp2
        refine wp_scope_straight ?_
        go_wp2
        go_quiet (fail)
        go_wp2
        have hB:Below wr.heap.size wr (wr.drewN nq):=⟨rfl,rfl,rfl,jL _,fun _ _=>rfl⟩;generalize wr.drewN nq=w2 at hB ⊢
        go_quiet (first|(go_at_call 231;refine Calls.quiet_of_same (zvm _ _)))
        go_wp2
        simp only [Exit.noGoto,Exit.inBlock,Exit.then]
        go_ret
        exact⟨rfl,hB.trans ⟨rfl,rfl,rfl,jL _,fun _ _=>rfl⟩⟩
     · have hlt:decide (((Sep.S l).size:Int) - 1<2)=false:=decide_eq_false (by show ¬ ((l.length:Int) - 1<2);omega)
       generalize hB:Sep.S l=B at *
       go_enter Tryz.func232,Tryz.ntmps232
       go_wp2_with (first|(go_at_call 262;refine(UO _ _).mono ?_;rintro e w' ⟨rfl,hw⟩;rw [hw,hv])|((with_reducible show wpList _ _ _ (⟨_,.convert _ _ _,_,_,_,_⟩::_) _ _);refine zdu rfl (v:=.string B) (w':=w) (hcv w) ?_;simp only [Act.put,List.setIfInBounds_toArray,List.set_cons_succ,List.set_cons_zero]))
       refine wp_scope_straight ?_
       go_wp2_with (((with_reducible show wpList _ _ _ (⟨_,.convert _ _ _,_,_,_,_⟩::_) _ _);refine zdu rfl (v:=.string B) (w':=w) (hcv w) ?_;simp only [Act.put,List.setIfInBounds_toArray,List.set_cons_succ,List.set_cons_zero]))
       go_loopg [9] 0 (fun g v9 wx=>wx=w∧v9=.int .i64 ((B.size:Int) - 1))
       case atStart=>exact⟨rfl,rfl⟩
       case round=>
        obtain⟨rfl,rfl⟩:=hrel
        go_wp2
        simp only [Exit.noGoto,Exit.inBlock,Exit.then]
        go_ret
        exact⟨rfl,Below.refl _ _⟩
theorem zt1 (n:Int) (w:World):Calls Tryz.prog 233 #[.int .i64 n] w fun e w'=>e=.returned (.bool (decide (8<n)))∧w'=w:=by
 go_enter Tryz.func233,Tryz.ntmps233
 go_wp2
 go_ret
 exact⟨rfl,rfl⟩
def rIx (r:Nat):Int:=if r<128 then Lib.indexByte [32,9] r.toUInt8 else -1
theorem zxg (r:Nat) (w:World) (h:r≤2147483647):Calls Tryz.prog 232 #[.string (Sep.S [32,9]),.int .i32 r] w fun e w'=>e=.returned (.int .i64 (rIx r))∧Below w.heap.size w w':=by
 unfold rIx
 by_cases h1:r<128
 · rw [if_pos h1]
   exact(Any.strings_IndexRune_ascii (ρ:=Tryz.lays150_ren) { Tryz.lays150 with} (Sep.S [32,9]) r w (by omega) (by omega)).mono fun e w' h=>⟨h.1,by rw [h.2];exact Below.refl _ _⟩
 · rw [if_neg h1]
   exact sixth r w (by omega) (by omega)
theorem zun (s:ByteArray) (i:Nat) (hi:i<s.size) (hn:Lib.NoAny s.data.toList [32,9] i):(0≤rIx (Utf8.decode s i).1→Lib.indexAny s.data.toList [32,9]=i)∧(¬ 0≤rIx (Utf8.decode s i).1→Lib.NoAny s.data.toList [32,9] (i+(Utf8.decode s i).2))∧1≤(Utf8.decode s i).2:=by
 have hat: ∀ j (h:j<s.size),s.data.toList[j]? =some (s.get! j):=fun j h=>by
  rw [Lib.data_getElem? s j h];have:=get_at s j h;rw [Nat.add_zero] at this;rw [this]
 by_cases hx:(s.get! i).toNat<128
 · have hx2:(s[i]'hi).toNat<128:=by
    have:=get_at s i hi;rw [Nat.add_zero] at this;rw [← this];exact hx
   have hd:=decode_ascii s i hi hx2
   have he:s[i]'hi=s.get! i:=by
    have:=get_at s i hi;rw [Nat.add_zero] at this;exact this.symm
   rw [hd,he]
   have hback:(s.get! i).toNat.toUInt8=s.get! i:=by simp
   have hcon:=Lib.contains_iff_indexByte [32,9] (s.get! i);unfold rIx;rw [if_pos hx,hback];refine⟨fun h=> ?_,fun h=> ?_,jL _⟩
   · exact Lib.indexAny_hit hn (hat i hi) (by rw [hcon];exact decide_eq_true h)
   · exact hn.succ (hat i hi) (by rw [hcon];exact decide_eq_false h)
 · have hw:=ziK s i hi (by omega)
   have hx2:128≤(s[i]'hi).toNat:=by
    have:=get_at s i hi;rw [Nat.add_zero] at this;rw [← this];omega
   have hd:=decode_high s i hi hx2;unfold rIx
   rw [if_neg (by omega)]
   refine⟨fun h=>absurd h (by decide),fun _=> ?_,hd.2⟩
   intro j b hj hb
   by_cases hji:j<i
   · exact hn j b hji hb
   · obtain⟨k1,k2⟩:=hw (j - i) (by omega)
     rw [show i+(j - i)=j by omega] at k1 k2
     rw [hat j k1] at hb;cases hb
     have hn1:s.get! j≠32:=fun e=>by rw [e] at k2;exact absurd k2 (by decide)
     have hn2:s.get! j≠9:=fun e=>by rw [e] at k2;exact absurd k2 (by decide)
     simp [hn1,hn2]
theorem zsi (s:ByteArray) (w:World) (h8:s.size≤8):Calls Tryz.prog 194 #[.string s,.string (Sep.S [32,9])] w fun e w'=>e=.returned (.int .i64 (Lib.indexAny s.data.toList [32,9]))∧Below w.heap.size w w':=by
 have h8z:decide ((8:Int)<(s.size:Int))=false:=decide_eq_false (by omega)
 have hsz:(Sep.S [32,9]).size=2:=rfl
 have hemp:(Sep.S [32,9]).toList.isEmpty=false:=by rw [Lib.toList_data];rfl
 go_enter Tryz.func194,Tryz.ntmps194
 go_wp2_with (go_at_call 233;refine(zt1 _ _).mono ?_;rintro e w' ⟨rfl,hw⟩;rw [hw,h8z])
 go_loopg [9,10] s.size (fun g _ _ wx=>∃ i:Nat,s.size≤i+g∧wx.heap[w.heap.size]? =some (.stringIter s i)∧Below w.heap.size w wx∧Lib.NoAny s.data.toList [32,9] i)
 case atStart=>exact⟨0,by omega,World.iter_heap w s 0,(Below.refl _ w).alloc (jL _) _,Lib.NoAny.zero _ _⟩
 case round=>
  obtain⟨i,hig,hit,hbw,hno⟩:=hrel;have HN:Aside (Lib.NoAny s.data.toList [32,9] i):=hno;clear hno
  by_cases hi:i<s.size
  · obtain⟨g',rfl⟩: ∃ g',gk=g'+1:=⟨gk - 1,by omega⟩
    have hnx: ∀ ty,(Instr.next (.pointer (some ⟨w.heap.size,0,none⟩)) true ty).run Tryz.prog wr=_:=fun ty=>Lib.run_next_any_at wr w.heap.size s i ty hit hi;obtain⟨k1,k2,k3⟩:=zun s i hi HN.out;have hR:=decode_le s i;generalize hdk:Utf8.decode s i=D at *;obtain⟨R,K⟩:=D;simp only at hnx k1 k2 k3 hR;have hit2:=Lib.iterAt_heap wr w.heap.size s i (i+K) hit;have hbw2:=Lib.below_iterAt hbw (k:=w.heap.size) (jL _) s (i+K);obtain⟨W,hWd⟩: ∃ W,wr.iterAt w.heap.size s (i+K)=W:=⟨_,rfl⟩;rw [hWd] at hnx hit2 hbw2;have hltW:w.heap.size<W.heap.size:=(Array.getElem?_eq_some_iff.1 hit2).1;have cS:=zxg R W hR;clear hdk;generalize rIx R=z at *
    by_cases hz:0≤z
    · have k1:=k1 hz
      clear k2
      go_wp2_with (go_at_call 232;refine cS.mono ?_;rintro e W' ⟨rfl,hbc⟩)
      go_ret
      exact⟨by rw [k1];rfl,hbw2.trans (hbc.mono hbw2.size)⟩
    · have k2:=k2 hz
      have K2:Aside (Lib.NoAny s.data.toList [32,9] (i+K)):=k2;clear k1 k2
      go_wp2_with (go_at_call 232;refine cS.mono ?_;rintro e W' ⟨rfl,hbc⟩)
      go_roundg g'
      case measure=>omega
      case rel=>exact⟨i+K,by omega,(hbc.block _ hltW).trans hit2,hbw2.trans (hbc.mono hbw2.size),K2.out⟩
  · have hnx:=fun ty=>Lib.run_next_end_at (P:=Tryz.prog) wr w.heap.size s i ty hit hi
    have hn:Lib.indexAny s.data.toList [32,9]= -1:=Lib.indexAny_none fun j b hj hb=>HN.out j b (by rw [← Lib.size_eq] at hj;omega) hb
    go_wp2
    go_ret
    exact⟨by rw [hn];rfl,hbw⟩
theorem zwv (s:ByteArray) (w:World) (hs:s.size<4294967281) (hv: ∀ w,(zeroValue 273).run Tryz.prog w=.ok (.agg (Array.replicate 256 (.bool false))) w):Calls Tryz.prog 194 #[.string s,.string (Sep.S [32,9])] w fun e w'=>e=.returned (.int .i64 (Lib.indexAny s.data.toList [32,9]))∧Below w.heap.size w w':=by
 by_cases h8:s.size≤8
 · exact zsi s w h8
 · refine(Any.strings_IndexAny_long (ρ:=Tryz.lays150_ren) { Tryz.lays150 with} hv (by kernel_rfl) s (Sep.S [32,9]) w (by decide) (by omega) hs (by decide) (fun j b h=> ?_)).mono fun e w' ⟨h1,h2⟩=>⟨h1,?_⟩
   · have:b ∈ ([32,9]:List UInt8):=List.mem_of_getElem? h
     simp only [List.mem_cons,List.not_mem_nil,or_false] at this
     rcases this with rfl|rfl<;>decide
   · rw [h2]
     exact((Below.refl _ _).alloc (jL _) _).alloc (by simp) _
theorem zhl (s:ByteArray) (w:World) (hs:s.size<4294967281) (hv: ∀ w,(zeroValue 273).run Tryz.prog w=.ok (.agg (Array.replicate 256 (.bool false))) w):Calls Tryz.prog 143 #[.string s,.string (Sep.S [32,9])] w fun e w'=>e=.returned (.bool (Lib.containsAny s.data.toList [32,9]))∧Below w.heap.size w w':=by
 have c:=zwv s w hs hv
 go_enter Tryz.func143,Tryz.ntmps143
 go_wp2_with (go_at_call 194;refine c.mono ?_;rintro e w' ⟨rfl,hw⟩)
 go_ret
 exact⟨rfl,hw⟩
end Go.Proofs.YtkjepecoodjbmaaGreatDoor
namespace Go.Proofs.YtkjepecoodjbmaaGreatDoor
open Go Go.Sep Go.Ab
set_option maxRecDepth 100000
theorem ztV (w:World):(zeroValue 273).run Tryz.prog w=.ok (.agg (Array.replicate 256 (.bool false))) w:=by
 kernel_rfl
def uM (I:Alg) (args:List D) (hp:List HO):Option CT:=match args,hp with
 |[.v (.one (.p (.str s))),.v (.one (.p (.str p)))],[]=>(fun(s p:Str)=>(some (.one ⟨I.hid (s.length≤1000000∧p=[32,9]),(.ret (.v (.one (.p (.bool (I.hid (Lib.containsAny s p))))))),[]⟩):Option CT)) s p
 |_,_=>none
theorem XP:zx Tryz.prog 143 (uM alg):=by
 intro args hp r h;unfold uM at h;split at h<;>cases h
 rename_i s p;simp only [CT.Good,zi];intro hneed;obtain⟨g1,g3⟩:=hneed;subst g3
 refine Spc.of_below ⟨_,Tryz.func143,by kernel_rfl,by kernel_rfl⟩ fun S bs w vs _ hM=> ?_
 obtain⟨v,r,rfl⟩: ∃ v r,vs=v::r:=by cases vs with|nil=>exact hM.elim|cons v r=>exact⟨v,r,rfl⟩
 obtain⟨h1,hM⟩:=hM
 obtain⟨v2,r2,rfl⟩: ∃ v r2,r=v::r2:=by cases r with|nil=>exact hM.elim|cons v r=>exact⟨v,r,rfl⟩
 obtain⟨h2,hM⟩:=hM
 obtain rfl:r2=[]:=by cases r2 with|nil=>rfl|cons v r=>exact hM.elim
 cases h1 with
 | str _ hl1=>
   cases h2 with
   | str _ hl2=>
     refine⟨.bool (Lib.containsAny s [32,9]),.bool _,(zhl (Sep.S s) w (by show s.length<_;omega) ztV).mono fun e w' h=> ?_⟩
     exact⟨h.1,h.2⟩
def XO:Know Tryz.prog:=⟨143,uM,XP⟩
def XM:Know Tryz.prog:=⟨143,fun I=>zy I (uM I),zf XP⟩
def YX (I:Alg) (args:List D) (hp:List HO):Option CT:=match args,hp with
 |[.v (.agg [(.p (.str m)),(.p (.str t)),(.p (.int .i64 mi)),(.p (.list .fld fs)),(.p (.int .i64 le))]),.v (.one (.p (.list .byte b)))],[]=>(fun(m t:Str) (mi:Int) (fs:List Fld) (le:Int) (b:Str)=>(some (.one ⟨I.hid ((m.length≤1000000∧t.length≤1000000)∧(fs.length≤1000∧∀ f ∈ fs,f.name.length≤1000000∧f.value.length≤1000000)∧b.length≤1000000),(.ret (.tup [(.one (.p (.list .byte (I.hid ((rqwT m t fs b)))))),(.one (.p (.int .i64 (I.hid ((rqwC m t fs b))))))])),[]⟩):Option CT)) m t mi fs le b
 |_,_=>none
theorem zcj:zx Tryz.prog 104 (YX alg):=by
 intro args hp r h;unfold YX at h;split at h<;>cases h
 rename_i m t mi fs le b
 revert fs;intro(fs:List Fld)
 simp only [CT.Good,zi];intro hneed;obtain⟨⟨hm1,ht1⟩,⟨hfl,hf⟩,hb⟩:=hneed;generalize hc:rqwC m t fs b=c;generalize ht:rqwT m t fs b=T;have hbl:=vz (b.length:Int);have hx0:=Wj fs YH;have hx1:=Wj fs zdB
 refine spcG zh mixed Tryz.func104 (by kernel_rfl) { rl:=[0],keep:=some [0,1,2,4,5,6,8,9,11,12,13,79,80,81]} [rC,ru,wW,wV,zdz,zdy,Wh,X9,YG,YF,qX,qW,yL,yK,XO,XM] (by kernel_rfl) ?_
 intro I X hI hX
 refine orcL ?_;go_invoke;refine orcS (by kernel_rfl) ?_
 simp only [zq,Nat.reduceAdd];rw [show([99,111,110,116,101,110,116,45,108,101,110,103,116,104]:Str)=YH from rfl,show([116,114,97,110,115,102,101,114,45,101,110,99,111,100,105,110,103]:Str)=zdB from rfl,show([104,111,115,116]:Str)=Rf from rfl]
 have hk1:YH.length≤1000000:=by decide
 have hk2:zdB.length≤1000000:=by decide
 have hk3:Rf.length≤1000000:=by decide
 (repeat' (first|refine ja ?_ ?_|intro _))
 all_goals try(subst hI;(simp only [nrmA,nrmB,nrlB,reduceCtorEq] at *);first|done|trivial|omega|exact⟨ht1,rfl⟩|exact⟨hfl,by assumption,hf⟩|(simp only [jk,jh,ji];omega)|(unfold rqwT at ht;unfold rqwC rqHd at ht hc;((repeat(first|rewrite [if_pos (by first|omega|assumption|(simp only [*,or_self,or_true,true_or,or_false,false_or,jf,jg,jd,je,and_self,and_true,true_and];done)|(simp only [*];omega)|(simp [*];done)|(simp [*];omega))] at hc|rewrite [if_neg (by first|omega|assumption|(simp only [*,or_self,or_true,true_or,or_false,false_or,jf,jg,jd,je,and_self,and_true,true_and];done)|(simp only [*];omega)|(simp [*];done)|(simp [*];omega))] at hc)));subst hc;((repeat(first|rewrite [if_pos (by first|omega|assumption|(simp only [*,or_self,or_true,true_or,or_false,false_or,jf,jg,jd,je,and_self,and_true,true_and];done)|(simp only [*];omega)|(simp [*];done)|(simp [*];omega))] at ht|rewrite [if_neg (by first|omega|assumption|(simp only [*,or_self,or_true,true_or,or_false,false_or,jf,jg,jd,je,and_self,and_true,true_and];done)|(simp only [*];omega)|(simp [*];done)|(simp [*];omega))] at ht)));subst ht;exact⟨rfl,rfl⟩))
 have hok:XH m=true∧Lib.hasPrefix t [47]=true∧Lib.containsAny t [32,9]=false∧XR t=true∧(rqHd m t).length≤200∧b.length≤4000∧fs.length≤15∧(valsF fs YH).length+(valsF fs zdB).length=0∧(oneF (valsF fs Rf)).2=0:=by
  subst hI;unfold rqHd;simp only [nrmA,nrmB,nrlB,reduceCtorEq] at *
  exact⟨by simpa using ‹XH m=_›,by simpa using ‹Lib.hasPrefix t [47]=_›,by simpa using ‹Lib.containsAny t [32,9]=_›,by simpa using ‹XR t=_›,by omega,by omega,by omega,by omega,by assumption⟩
 obtain⟨k1,k2,k3,k4,k5,k6,k7,k8,k9⟩:=hok
 have hc2:c=badF fs:=by
  rw [← hc,rqwC,if_neg (by rw [k1];simp),if_neg (by rw [k2];simp),if_neg (by rw [k3];simp),if_neg (by rw [k4];simp),if_neg (by omega),if_neg (by omega),if_neg (by omega),if_neg (by omega),if_neg (fun h=>h k9)]
 have ht2:badF fs=0→T=rqHd m t++[13,10]++tN fs++zhJ b.length++b:=fun h=>by
  rw [← ht,rqwT,hc,hc2,if_pos h]
 have ht3:badF fs≠0→T=[]:=fun h=>by rw [← ht,rqwT,hc,hc2,if_neg h]
 refine zB hI zh mixed [rC,ru,wW,wV,zdz,zdy,Wh,X9,YG,YF,qX,qW,yL,yK,XO,XM] hX [1,2,5,9,79,80,81] (fun(g:Nat × Str)=>match g with|(i,o)=>i≤fs.length∧o=rqHd m t++[13,10]++tN (fs.take i)∧badF fs=badF (fs.drop i)) (fun(g:Nat × Str)=>match g with|(i,o)=>⟨[(1,.v (.one (.p (.list .byte b)))),(2,.v (.one (.ptr 0 0))),(5,.v (.one (.p (.int .i64 0)))),(9,.v (.one (.row 1))),(79,.v (.one (.p (.list .fld fs)))),(80,.v (.one (.p (.int .i64 ((I.len (α:=Fld) fs)))))),(81,.v (.one (.p (.int .i64 i))))],[.pack [.obj 30 [(.p (.str m)),(.p (.str t)),(.p (.int .i64 mi)),(.p (.list .fld fs)),(.p (.int .i64 le))]],.row .byte 5 o],108,none⟩) (fun(g:Nat × Str)=>match g with|(i,o)=>fs.length - i) (0,I.app (I.app (I.app (I.app m [32]) t) [32,72,84,84,80,47,49,46,49]) [13,10]) (by kernel_rfl) (by kernel_rfl) ?_ ?_
 · refine⟨jM _,?_,rfl⟩
   subst hI;simp only [YL,zi,rqHd,List.take_zero,tN,List.append_nil]
 rintro⟨i,o⟩ ⟨h1,h2,h3⟩ A hA;simp only at hA h1 h2 h3
 refine orcL ?_;go_invoke;refine orcS (by kernel_rfl) ?_
 simp only [zq,Nat.reduceAdd];subst hI;simp only [nrmA,nrmB,nrlB,reduceCtorEq]
 have hx:i<fs.length→(fs.getD i ⟨[],[]⟩) ∈ fs:=fun h=>by rw [show fs.getD i ⟨[],[]⟩=fs[i] by simp [h]];exact List.getElem_mem h
 have hd:i<fs.length→_:=fun h=>zhu (fs:=fs) (i:=i) h;have hk:i<fs.length→_:=fun h=>zde (fs:=fs) (i:=i) h
 have hol:(tN (fs.take i)).length≤202 * 16:=by
  have:=Ud (fs.take i);rw [jv] at this;omega
 have hol2:o.length≤4000:=by rw [h2,jk,jk,jh,jh,ji];omega
 have hend: ¬ i<fs.length→badF fs=0∧tN (fs.take i)=tN fs:=fun h=>by
  rw [h3,jF (by omega),jq (by omega)];exact⟨rfl,rfl⟩
 have hfi:=fun h=>hf _ (hx h);have htl:=fun f=>zas f;generalize fs.getD i ⟨[],[]⟩=x at *;have e0:(⟨x.name,x.value⟩:Fld)=x:=rfl;rw [e0];have htl:=htl x
 refine⟨fun c1=>⟨⟨by omega,by omega⟩,⟨by omega,by omega⟩,hfi (by omega),fun c2=> ?_,fun c2=>⟨?_,?_,by omega,?_⟩⟩,fun c1=> ?_⟩
 · have hd:=hd (by omega)
   rw [if_neg c2] at hd
   exact⟨(ht3 (by rw [h3,hd];exact c2)).symm,by rw [hc2,h3,hd]⟩
 · simp only [jh,ji];omega
 · simp only [jk,jh,ji];omega
 · have hd:=hd (by omega)
   rw [if_pos c2] at hd
   exact hA (i+1,o++((textF x).1++[13,10])) ⟨by simp only;omega,by simp only;rw [hk (by omega),h2];simp only [jo],by simp only;rw [h3,hd]⟩ (by simp only;omega)
 · obtain⟨e1,e2⟩:=hend (by omega)
   simp only [jk,jh,ji]
   refine⟨by omega,by omega,by omega,by omega,by omega,?_,by rw [hc2,e1]⟩
   rw [ht2 e1,h2,e2];unfold zhJ;simp only [jo]
def zl6:Know Tryz.prog:=⟨104,YX,zcj⟩
def zl5:Know Tryz.prog:=⟨104,fun I=>zy I (YX I),zf zcj⟩
end Go.Proofs.YtkjepecoodjbmaaGreatDoor
namespace Go.Proofs.YtkjepecoodjbmaaGreatDoor
open Go Go.Sep Go.Ab
set_option maxRecDepth 100000
def Xg (I:Alg) (args:List D) (hp:List HO):Option CT:=match args,hp with
 |[.v (.one (.ptr 0 0))],[.obj 50 [(.ptr 1 0),(.ptr 2 0),(.ptr 3 0),(.ptr 4 0),(.ptr 5 0)],.pack [.obj 54 [(.ptr 1 0),(.ptr 2 0)],.pack [.obj 124 [(.row 1),(.p (.int .i64 n))],.row .upl 81 l],.pack [.obj 156 [(.row 1),(.p (.int .i64 s))],.row .byte 5 b]],.abs (.cn c0),.abs (.cn c1),.abs (.cn c2),.abs (.cn c3)]=>(fun(l:List Upl) (n:Int) (b:Str) (s:Int) (c0 c1 c2 c3:Cn)=>(some (.one ⟨I.hid (True),(.ret (.tup [])),[.obj 50 [(.ptr 1 0),(.ptr 6 0),(.ptr 7 0),(.ptr 8 0),(.ptr 9 0)],.pack [.obj 54 [(.ptr 1 0),(.ptr 2 0)],.pack [.obj 124 [(.row 1),(.p (.int .i64 n))],.row .upl 81 l],.pack [.obj 156 [(.row 1),(.p (.int .i64 s))],.row .byte 5 b]],.abs (.cn c0),.abs (.cn c1),.abs (.cn c2),.abs (.cn c3),.abs (.cn cn0),.abs (.cn cn0),.abs (.cn cn0),.abs (.cn cn0)]⟩):Option CT)) l n b s c0 c1 c2 c3
 |_,_=>none
theorem zcP:zx Tryz.prog 41 (Xg alg):=by
 intro args hp r h;unfold Xg at h;split at h<;>cases h
 rename_i n l s b c0 c1 c2 c3
 revert l;intro(l:List Upl)
 simp only [CT.Good,zi];intro _
 refine spcG zh mixed Tryz.func41 (by kernel_rfl) { cfgG with keep:=some [0,2,3]} [sK,sJ,Xi,Xh] (by kernel_rfl) ?_
 intro I X hI hX
 refine orcL ?_;go_invoke;refine orcS (by kernel_rfl) ?_
 simp only [zq,Nat.reduceAdd]
 refine zB hI zh mixed [sK,sJ,Xi,Xh] hX [0,3] (fun i:Nat=>i≤4) (fun i:Nat=>match i with
  |0=>⟨[(0,.v (.one (.ptr 0 0))),(3,.v (.one (.p (.int .i64 0))))],[.obj 50 [(.ptr 1 0),(.ptr 2 0),(.ptr 3 0),(.ptr 4 0),(.ptr 5 0)],.pack [.obj 54 [(.ptr 1 0),(.ptr 2 0)],.pack [.obj 124 [(.row 1),(.p (.int .i64 n))],.row .upl 81 l],.pack [.obj 156 [(.row 1),(.p (.int .i64 s))],.row .byte 5 b]],.abs (.cn c0),.abs (.cn c1),.abs (.cn c2),.abs (.cn c3)],15,none⟩
  |1=>⟨[(0,.v (.one (.ptr 0 0))),(3,.v (.one (.p (.int .i64 1))))],[.obj 50 [(.ptr 1 0),(.ptr 6 0),(.ptr 3 0),(.ptr 4 0),(.ptr 5 0)],.pack [.obj 54 [(.ptr 1 0),(.ptr 2 0)],.pack [.obj 124 [(.row 1),(.p (.int .i64 n))],.row .upl 81 l],.pack [.obj 156 [(.row 1),(.p (.int .i64 s))],.row .byte 5 b]],.abs (.cn c0),.abs (.cn c1),.abs (.cn c2),.abs (.cn c3),.abs (.cn cn0)],15,none⟩
  |2=>⟨[(0,.v (.one (.ptr 0 0))),(3,.v (.one (.p (.int .i64 2))))],[.obj 50 [(.ptr 1 0),(.ptr 6 0),(.ptr 7 0),(.ptr 4 0),(.ptr 5 0)],.pack [.obj 54 [(.ptr 1 0),(.ptr 2 0)],.pack [.obj 124 [(.row 1),(.p (.int .i64 n))],.row .upl 81 l],.pack [.obj 156 [(.row 1),(.p (.int .i64 s))],.row .byte 5 b]],.abs (.cn c0),.abs (.cn c1),.abs (.cn c2),.abs (.cn c3),.abs (.cn cn0),.abs (.cn cn0)],15,none⟩
  |3=>⟨[(0,.v (.one (.ptr 0 0))),(3,.v (.one (.p (.int .i64 3))))],[.obj 50 [(.ptr 1 0),(.ptr 6 0),(.ptr 7 0),(.ptr 8 0),(.ptr 5 0)],.pack [.obj 54 [(.ptr 1 0),(.ptr 2 0)],.pack [.obj 124 [(.row 1),(.p (.int .i64 n))],.row .upl 81 l],.pack [.obj 156 [(.row 1),(.p (.int .i64 s))],.row .byte 5 b]],.abs (.cn c0),.abs (.cn c1),.abs (.cn c2),.abs (.cn c3),.abs (.cn cn0),.abs (.cn cn0),.abs (.cn cn0)],15,none⟩
  |_=>⟨[(0,.v (.one (.ptr 0 0))),(3,.v (.one (.p (.int .i64 4))))],[.obj 50 [(.ptr 1 0),(.ptr 6 0),(.ptr 7 0),(.ptr 8 0),(.ptr 9 0)],.pack [.obj 54 [(.ptr 1 0),(.ptr 2 0)],.pack [.obj 124 [(.row 1),(.p (.int .i64 n))],.row .upl 81 l],.pack [.obj 156 [(.row 1),(.p (.int .i64 s))],.row .byte 5 b]],.abs (.cn c0),.abs (.cn c1),.abs (.cn c2),.abs (.cn c3),.abs (.cn cn0),.abs (.cn cn0),.abs (.cn cn0),.abs (.cn cn0)],15,none⟩) (fun i:Nat=>4 - i) 0 (by kernel_rfl) (by kernel_rfl) ?_ ?_
 · exact jM _
 rintro i h1 A hA
 obtain rfl|rfl|rfl|rfl|rfl:i=0∨i=1∨i=2∨i=3∨i=4:=by omega
 all_goals
  refine orcL ?_;go_invoke;refine orcS (by kernel_rfl) ?_
  simp only [zq,Nat.reduceAdd];subst hI;refine⟨fun c=> ?_,fun c=> ?_⟩
  all_goals first
   |exact absurd c (by decide)
   |exact⟨jb,by show IntKind.i64.min≤_∧_;decide,hA 1 (by decide) (by decide),jb⟩
   |exact⟨jb,by show IntKind.i64.min≤_∧_;decide,hA 2 (by decide) (by decide),jb⟩
   |exact⟨jb,by show IntKind.i64.min≤_∧_;decide,hA 3 (by decide) (by decide),jb⟩
   |exact⟨jb,by show IntKind.i64.min≤_∧_;decide,hA 4 (by decide) (by decide),jb⟩
   |exact⟨jb,jb⟩
def zmz:Know Tryz.prog:=⟨41,Xg,zcP⟩
def zmy:Know Tryz.prog:=⟨41,fun I=>zy I (Xg I),zf zcP⟩
def cfgP:Cfg:= { sl:=cfgG.sl++[⟨85,1,.int,some 3⟩,⟨54,1000001,.byte,none⟩]}
def zd8 (I:Alg) (args:List D) (hp:List HO):Option CT:=match args,hp with
 |[],[]=>(fun(_:Unit)=>(some (.one ⟨I.hid (True),(.ret (.v (.one (.ptr 0 0)))),[.pack [.obj 85 [(.ptr 1 0),(.row 7)],.obj 50 [(.ptr 2 0),(.ptr 3 0),(.ptr 4 0),(.ptr 5 0),(.ptr 6 0)],.pack [.obj 54 [(.ptr 1 0),(.ptr 2 0)],.pack [.obj 124 [(.row 1),(.p (.int .i64 0))],.row .upl 81 (I.hid ([]))],.pack [.obj 156 [(.row 1),(.p (.int .i64 0))],.row .byte 5 (I.hid ([]))]],.abs (.cn cn0),.abs (.cn cn0),.abs (.cn cn0),.abs (.cn cn0),.row .int 3 (I.hid ([]))]]⟩):Option CT)) ()
 |_,_=>none
theorem zoJ:zx Tryz.prog 27 (zd8 alg):=by
 intro args hp r h;unfold zd8 at h;split at h<;>cases h
 simp only [CT.Good,zi];intro _
 refine spcG zh mixed Tryz.func27 (by kernel_rfl) { cfgP with keep:=some [0]} [znw,znv,zu1,zu0] (by kernel_rfl) ?_
 intro I X hI hX
 refine orcL ?_;go_invoke;refine orcS (by kernel_rfl) ?_
 simp only [zq,Nat.reduceAdd];subst hI;simp only [nrmA,nrmB,nrlB,reduceCtorEq,HO.pack.injEq,HO.obj.injEq]
def zd7:Know Tryz.prog:=⟨27,zd8,zoJ⟩
def zd6:Know Tryz.prog:=⟨27,fun I=>zy I (zd8 I),zf zoJ⟩
theorem zui {q:Sto} {id:Int} (h: ¬ wsC q (begE id)=0) (t:List Int):Zt q id=wsS q (begE id)∧zbP q id=⟨wsC q (begE id),[],[]⟩∧zfq q id t=t:=by
 unfold zbP zfq Zt;rw [if_pos h,if_pos h,if_pos h];exact⟨rfl,rfl,rfl⟩
theorem zrm {q:Sto} {id:Int} (h:wsC q (begE id)=0) (t:List Int):Zt q id=syS (wsS q (begE id))∧zbP q id=⟨rqwC zbS (zne id) (znH (getU (wsS q (begE id)).l id).note) (getU (wsS q (begE id)).l id).bytes,[],rqwT zbS (zne id) (znH (getU (wsS q (begE id)).l id).note) (getU (wsS q (begE id)).l id).bytes⟩∧zfq q id t=t++[id]:=by
 have e:Zt q id=syS (wsS q (begE id)):=by unfold Zt;rw [if_neg (fun k=>k h)]
 unfold zbP zfq znI;rw [e,if_neg (fun k=>k h),if_neg (fun k=>k h)];exact⟨rfl,rfl,rfl⟩
theorem zsn {l:List Upl} {n:Int} (h:zK l n) (id:Int):(getU l id).note.length≤100∧(getU l id).bytes.length≤2000:=by
 unfold getU
 split
 · rename_i hk
   have:=h.each _ (vF hk);exact⟨this.nl,this.bl⟩
 · exact⟨jM _,jM _⟩
theorem zpm: ∀ f ∈ [zpn],f.name.length≤1000000∧f.value.length≤1000000:=by decide
theorem zuh {x:Str} (h:x.length≤100): ∀ f ∈ [zpn]++[⟨zlQ,x⟩],f.name.length≤1000000∧f.value.length≤1000000:=fun f hf=>by
 rcases List.mem_append.1 hf with k|k
 · exact zpm f k
 · rw [List.mem_singleton.1 k];exact⟨by show zlQ.length≤_;decide,by show x.length≤_;omega⟩
def Qq (I:Alg) (args:List D) (hp:List HO):Option CT:=match args,hp with
 |[.v (.one (.ptr 0 0)),.v (.one (.p (.int .i64 id)))],[.pack [.obj 85 [(.ptr 1 0),(.row 7)],.obj 50 [(.ptr 2 0),(.ptr 3 0),(.ptr 4 0),(.ptr 5 0),(.ptr 6 0)],.pack [.obj 54 [(.ptr 1 0),(.ptr 2 0)],.pack [.obj 124 [(.row 1),(.p (.int .i64 n))],.row .upl 81 l],.pack [.obj 156 [(.row 1),(.p (.int .i64 s))],.row .byte 5 b]],.abs (.cn c0),.abs (.cn c1),.abs (.cn c2),.abs (.cn c3),.row .int 3 t]]=>(fun(l:List Upl) (n:Int) (b:Str) (s:Int) (c0 c1 c2 c3:Cn) (t:List Int) (id:Int)=>(some (.one ⟨I.hid (zK l n∧n≤200000∧b.length≤100000∧t.length≤1000000),(.ret (.v (.agg [(.p (.int .i64 (I.hid ((zbP ⟨l,n,b,s⟩ id).c)))),(.p (.list .byte (I.hid ([])))),(.p (.list .byte (I.hid ((zbP ⟨l,n,b,s⟩ id).u))))]))),[.pack [.obj 85 [(.ptr 1 0),(.row 7)],.obj 50 [(.ptr 2 0),(.ptr 3 0),(.ptr 4 0),(.ptr 5 0),(.ptr 6 0)],.pack [.obj 54 [(.ptr 1 0),(.ptr 2 0)],.pack [.obj 124 [(.row 1),(.p (.int .i64 (I.hid ((Zt ⟨l,n,b,s⟩ id).n))))],.row .upl 81 (I.hid ((Zt ⟨l,n,b,s⟩ id).l))],.pack [.obj 156 [(.row 1),(.p (.int .i64 (I.hid ((Zt ⟨l,n,b,s⟩ id).s))))],.row .byte 5 (I.hid ((Zt ⟨l,n,b,s⟩ id).b))]],.abs (.cn c0),.abs (.cn c1),.abs (.cn c2),.abs (.cn c3),.row .int 3 (I.hid ((zfq ⟨l,n,b,s⟩ id t)))]]⟩):Option CT)) l n b s c0 c1 c2 c3 t id
 |_,_=>none
set_option maxHeartbeats 4000000 in
theorem zkf:zx Tryz.prog 60 (Qq alg):=by
 intro args hp r h;unfold Qq at h;split at h<;>cases h
 rename_i id n l s b c0 c1 c2 c3 t
 revert l t;intro(l:List Upl) (t:List Int)
 simp only [CT.Good,zi];intro hneed;obtain⟨hs,hn,hb,ht⟩:=hneed;have h0:=fun h=>zui (q:=⟨l,n,b,s⟩) (id:=id) h t;have h1:=fun h=>zrm (q:=⟨l,n,b,s⟩) (id:=id) h t
 have hid:wsC ⟨l,n,b,s⟩ (begE id)=0→0≤id∧id≤n:=fun h=>by
  obtain⟨k,_⟩:=zrn h;have:=hs.ids _ (at_mem k)
  have e:=YP (l:=l) (id:=id) (by simpa using k)
  omega
 have hw:=zah hs b (begE id);have hg:=zsn hw id;generalize Zt ⟨l,n,b,s⟩ id=Q at *;generalize zbP ⟨l,n,b,s⟩ id=O at *;generalize zfq ⟨l,n,b,s⟩ id t=L at *;unfold wsC wsS syS at *
 refine spcG zh mixed Tryz.func60 (by kernel_rfl) { cfgP with fz:=[104],keep:=some [0,1,4,5,6,8,9,10]} [Zv,Zu,XU,XT,zhO,zhN,zO,zN,qX,qW,zl6,zl5] (by kernel_rfl) ?_
 intro I X hI hX
 refine orcL ?_;go_invoke;refine orcS (by kernel_rfl) ?_
 simp only [zq,Nat.reduceAdd];subst hI;simp only [nrmA,nrmB,nrlB,reduceCtorEq,HO.pack.injEq,HO.obj.injEq];rw [show(⟨5,id,0,[]⟩:Ent)=begE id from rfl];dsimp only at *;have hd:=vz id;generalize wrtC l n b (begE id)=C at *;generalize wrtL l n b (begE id)=l' at *;generalize wrtN l n b (begE id)=n' at *;generalize wrtB l n b (begE id)=b' at *;generalize getU l' id=u at *
 by_cases hC:C=0
 · have h1:=h1 hC
   have hid:=hid hC;obtain⟨e1,e2,e3⟩:=h1;subst e1 e2 e3;have hF0:=zpm;have hF1:=zuh hg.1;unfold znH zne zpn zlQ zbS at *;dsimp only
   (repeat' (first|refine ja ?_ ?_|intro _))<;>first|omega|exact jb|exact jc ‹False›|skip
   all_goals first
    |omega
    |exact hw
    |(simp only [jk,jh,ji];omega)
    |exact(hF1 _ ‹_›).1
    |exact(hF1 _ ‹_›).2
    |exact(hF0 _ ‹_›).1
    |exact(hF0 _ ‹_›).2
    |(rw [if_neg ‹¬ u.note=[]›];done)
    |(rw [if_neg ‹¬ u.note=[]›];rfl)
    |(rw [if_pos ‹u.note=[]›];done)
    |(rw [if_pos ‹u.note=[]›];rfl)
    |rfl
 · have h0:=h0 hC
   obtain⟨e1,e2,e3⟩:=h0;subst e1 e2 e3;dsimp only
   (repeat' (first|refine ja ?_ ?_|intro _))<;>first|omega|exact jb|exact jc ‹False›|skip
   all_goals rfl
def zr1:Know Tryz.prog:=⟨60,Qq,zkf⟩
def zr0:Know Tryz.prog:=⟨60,fun I=>zy I (Qq I),zf zkf⟩
end Go.Proofs.YtkjepecoodjbmaaGreatDoor
namespace Go.Proofs.YtkjepecoodjbmaaGreatDoor
open Go Go.Sep Go.Ab
set_option maxRecDepth 100000
def PdN (g:GS) (t:List Int) (x:Stp):Prop:=∃ (N:Nat) (m:Int),GsI g m N∧N+x.bytes.length≤30000∧25000≤m∧m+12 * x.bytes.length≤199980∧t.length≤1000000
theorem kinds (k:Int):k=1∨k=2∨k=3∨k=4∨k=5∨(k≠1∧k≠2∧k≠3∧k≠4∧k≠5):=by omega
theorem zxx (j:Int):j=0∨j=1∨j=2∨j=3∨(∃ i:Nat,j=Int.negSucc i)∨(∃ i:Nat,j=Int.ofNat (i+4)):=by
 rcases Classical.em (j<0∨4≤j) with h|h
 · exact .inr (.inr (.inr (.inr (outK h))))
 · omega
theorem zuj (q:Sto) (id:Int):(zbP q id).b=[]:=by unfold zbP;split<;>rfl
def zkm (I:Alg) (args:List D) (hp:List HO):Option CT:=match args,hp with
 |[.v (.one (.ptr 0 0)),.v (.agg [(.p (.int .i64 k)),(.p (.int .i64 j)),(.p (.int .i64 m)),(.p (.list .byte x))])],[.pack [.obj 85 [(.ptr 1 0),(.row 7)],.obj 50 [(.ptr 2 0),(.ptr 3 0),(.ptr 4 0),(.ptr 5 0),(.ptr 6 0)],.pack [.obj 54 [(.ptr 1 0),(.ptr 2 0)],.pack [.obj 124 [(.row 1),(.p (.int .i64 n))],.row .upl 81 l],.pack [.obj 156 [(.row 1),(.p (.int .i64 s))],.row .byte 5 b]],.abs (.cn c0),.abs (.cn c1),.abs (.cn c2),.abs (.cn c3),.row .int 3 t]]=>(fun(l:List Upl) (n:Int) (b:Str) (s:Int) (c0 c1 c2 c3:Cn) (t:List Int) (k j m:Int) (x:Str)=>(some (.one ⟨I.hid (PdN ⟨⟨l,n,b,s⟩,c0,c1,c2,c3⟩ t ⟨k,j,m,x⟩),(.ret (.v (.agg [(.p (.int .i64 (I.hid ((doO ⟨⟨l,n,b,s⟩,c0,c1,c2,c3⟩ ⟨k,j,m,x⟩).c)))),(.p (.list .byte (I.hid ((doO ⟨⟨l,n,b,s⟩,c0,c1,c2,c3⟩ ⟨k,j,m,x⟩).b)))),(.p (.list .byte (I.hid ((doO ⟨⟨l,n,b,s⟩,c0,c1,c2,c3⟩ ⟨k,j,m,x⟩).u))))]))),[.pack [.obj 85 [(.ptr 1 0),(.row 7)],.obj 50 [(.ptr 2 0),(.ptr 3 0),(.ptr 4 0),(.ptr 5 0),(.ptr 6 0)],.pack [.obj 54 [(.ptr 1 0),(.ptr 2 0)],.pack [.obj 124 [(.row 1),(.p (.int .i64 (I.hid ((doP ⟨⟨⟨l,n,b,s⟩,c0,c1,c2,c3⟩,t⟩ ⟨k,j,m,x⟩).g.q.n))))],.row .upl 81 (I.hid ((doP ⟨⟨⟨l,n,b,s⟩,c0,c1,c2,c3⟩,t⟩ ⟨k,j,m,x⟩).g.q.l))],.pack [.obj 156 [(.row 1),(.p (.int .i64 (I.hid ((doP ⟨⟨⟨l,n,b,s⟩,c0,c1,c2,c3⟩,t⟩ ⟨k,j,m,x⟩).g.q.s))))],.row .byte 5 (I.hid ((doP ⟨⟨⟨l,n,b,s⟩,c0,c1,c2,c3⟩,t⟩ ⟨k,j,m,x⟩).g.q.b))]],.abs (.cn (I.hid ((doP ⟨⟨⟨l,n,b,s⟩,c0,c1,c2,c3⟩,t⟩ ⟨k,j,m,x⟩).g.c0))),.abs (.cn (I.hid ((doP ⟨⟨⟨l,n,b,s⟩,c0,c1,c2,c3⟩,t⟩ ⟨k,j,m,x⟩).g.c1))),.abs (.cn (I.hid ((doP ⟨⟨⟨l,n,b,s⟩,c0,c1,c2,c3⟩,t⟩ ⟨k,j,m,x⟩).g.c2))),.abs (.cn (I.hid ((doP ⟨⟨⟨l,n,b,s⟩,c0,c1,c2,c3⟩,t⟩ ⟨k,j,m,x⟩).g.c3))),.row .int 3 (I.hid ((doP ⟨⟨⟨l,n,b,s⟩,c0,c1,c2,c3⟩,t⟩ ⟨k,j,m,x⟩).t))]]⟩):Option CT)) l n b s c0 c1 c2 c3 t k j m x
 |_,_=>none
set_option maxHeartbeats 8000000 in
theorem ztn:zx Tryz.prog 29 (zkm alg):=by
 intro args hp r h;unfold zkm at h;split at h<;>cases h
 rename_i k j m x n l s b c0 c1 c2 c3 t
 revert l t;intro(l:List Upl) (t:List Int)
 simp only [CT.Good,zi];intro hneed;obtain⟨N,M,hg,hx,hM0,hM,ht⟩:=hneed;have hs:=hg.q.1;have hb:=hg.q.2.1;have hn:n≤M:=hg.q.2.2.1;have hs0:0≤s:=hg.q.2.2.2.1;have hs1:s≤b.length:=hg.q.2.2.2.2
 have hF: ∀ {c:Cn},CnI c N→FdN ⟨l,n,b,s⟩ c x∧FOk c.h.fields∧c.body.length≤100000:=fun h=>⟨⟨N,M,hg.q,h,hx,hM⟩,h.2.1,by have:=h.2.2.1;dsimp only at hx;omega⟩
 have f0:=hF hg.c0;have f1:=hF hg.c1;have f2:=hF hg.c2;have f3:=hF hg.c3;dsimp only at hs hb hx hM f0 f1 f2 f3;clear hF;generalize hO:doO ⟨⟨l,n,b,s⟩,c0,c1,c2,c3⟩ ⟨k,j,m,x⟩=O;generalize hP:doP ⟨⟨⟨l,n,b,s⟩,c0,c1,c2,c3⟩,t⟩ ⟨k,j,m,x⟩=P;obtain⟨oc,ob,ou⟩:=O;obtain⟨⟨⟨l',n',b',s'⟩,d0,d1,d2,d3⟩,t'⟩:=P;unfold doP doG doT at hP;unfold doO at hO;have hj:=zxx j;have hi0:inG 0=true:=rfl;have hi1:inG 1=true:=rfl;have hi2:inG 2=true:=rfl;have hi3:inG 3=true:=rfl;have hi4: ∀ i:Nat,inG (Int.negSucc i)=false:=fun i=>rfl
 have hi5: ∀ i:Nat,inG (Int.ofNat (i+4))=false:=fun i=>by unfold inG;rw [decide_eq_false (show ¬ Int.ofNat (i+4)<4 by rw [Int.ofNat_eq_natCast];omega),Bool.and_false]
 clear hM0
 have ht0:wrtC l n b (endE m)=0→zdx ⟨l,n,b,s⟩ m=⟨wrtL l n b (endE m),wrtN l n b (endE m),wrtB l n b (endE m),((wrtB l n b (endE m)).length:Int)⟩:=fun h=>by unfold zdx;rw [if_neg (fun k=>k h)];rfl
 have ht1: ¬ wrtC l n b (endE m)=0→zdx ⟨l,n,b,s⟩ m=⟨wrtL l n b (endE m),wrtN l n b (endE m),wrtB l n b (endE m),s⟩:=fun h=>by unfold zdx;rw [if_pos (show wsC ⟨l,n,b,s⟩ (endE m)≠0 from h)];rfl
 refine spcG zh mixed Tryz.func29 (by kernel_rfl) { cfgP with fz:=[14],keep:=some [0,1,3,4,5,6,7,9]} [zny,znx,zO,zN,zhM,zhL,wY,wX,uU,uT,YA,Yz,zgA,zgz,zpw,zpv,Yy,Yx,VQ,VP,zbe,zbd,zgt,zgs,zpu,zpt,Xi,Xh,zmz,zmy,zr1,zr0] (by kernel_rfl) ?_
 intro I X hI hX
 rcases hj with rfl|rfl|rfl|rfl|⟨i,rfl⟩|⟨i,rfl⟩
 all_goals
  refine orcL ?_;go_invoke;refine orcS (by kernel_rfl) ?_
  simp only [zq,Nat.reduceAdd];subst hI;simp only [nrmA,nrmB,nrlB,reduceCtorEq,HO.pack.injEq,HO.obj.injEq,HO.abs.injEq,Gh.cn.injEq]
  try rw [show(⟨6,m,0,[]⟩:Ent)=endE m from rfl]
  rcases kinds k with rfl|rfl|rfl|rfl|rfl|⟨k1,k2,k3,k4,k5⟩
  all_goals
   simp [hi0,hi1,hi2,hi3,hi4,hi5,GS.at,GS.put,GS.set, *] at hP hO
   obtain⟨⟨e,rfl,rfl,rfl,rfl⟩,rfl⟩:=hP
   try(obtain⟨rfl,rfl,rfl⟩:=hO)
   (repeat' (first|refine ja ?_ ?_|intro _))<;>first|omega|exact jb|exact jc ‹False›|skip
   all_goals first
    |exact hs
    |exact f0.1
    |exact f1.1
    |exact f2.1
    |exact f3.1
    |exact f0.2.1.1
    |exact(f0.2.1.2 _ ‹_›).1
    |exact(f0.2.1.2 _ ‹_›).2
    |exact f1.2.1.1
    |exact(f1.2.1.2 _ ‹_›).1
    |exact(f1.2.1.2 _ ‹_›).2
    |exact f2.2.1.1
    |exact(f2.2.1.2 _ ‹_›).1
    |exact(f2.2.1.2 _ ‹_›).2
    |exact f3.2.1.1
    |exact(f3.2.1.2 _ ‹_›).1
    |exact(f3.2.1.2 _ ‹_›).2
    |rfl
    |(rw [e];done)
    |(obtain⟨rfl,rfl,rfl,rfl⟩:=e;rfl)
    |(have e:=(ht0 ‹_›).symm.trans e;cases e;rfl)
    |(have e:=(ht1 ‹_›).symm.trans e;cases e;rfl)
    |(have e0:=zuj ⟨l,n,b,s⟩ m;rw [hO] at e0 ⊢;cases e0;rfl)
    |(unfold crsQ at e;cases e;rfl)
def zkl:Know Tryz.prog:=⟨29,zkm,ztn⟩
def zkk:Know Tryz.prog:=⟨29,fun I=>zy I (zkm I),zf ztn⟩
end Go.Proofs.YtkjepecoodjbmaaGreatDoor
namespace Go.Proofs.YtkjepecoodjbmaaGreatDoor
open Go Go.Sep Go.Ab
set_option maxRecDepth 100000
def begG:Str:=[71,69,84,32,47,32,72,84,84,80,47,49,46,49,13,10,72,111,115,116,58,32,97,13,10,13,10]
end Go.Proofs.YtkjepecoodjbmaaGreatDoor
namespace Go.Proofs.YtkjepecoodjbmaaGreatDoor
open Go Go.Sep Go.Ab
set_option maxRecDepth 100000
def Vp (I:Alg) (args:List D) (hp:List HO):Option CT:=match args,hp with
 |[.v (.one (.ptr 0 0))],[.pack [.obj 85 [(.ptr 1 0),(.row 7)],.obj 50 [(.ptr 2 0),(.ptr 3 0),(.ptr 4 0),(.ptr 5 0),(.ptr 6 0)],.pack [.obj 54 [(.ptr 1 0),(.ptr 2 0)],.pack [.obj 124 [(.row 1),(.p (.int .i64 n))],.row .upl 81 l],.pack [.obj 156 [(.row 1),(.p (.int .i64 s))],.row .byte 5 b]],.abs (.cn c0),.abs (.cn c1),.abs (.cn c2),.abs (.cn c3),.row .int 3 t]]=>(fun(l:List Upl) (n:Int) (b:Str) (s:Int) (c0 c1 c2 c3:Cn) (t:List Int)=>(some (.one ⟨I.hid (t.length≤1000000),(.ret (.v (.one (.row 1)))),[.pack [.obj 85 [(.ptr 1 0),(.row 7)],.obj 50 [(.ptr 2 0),(.ptr 3 0),(.ptr 4 0),(.ptr 5 0),(.ptr 6 0)],.pack [.obj 54 [(.ptr 1 0),(.ptr 2 0)],.pack [.obj 124 [(.row 1),(.p (.int .i64 n))],.row .upl 81 l],.pack [.obj 156 [(.row 1),(.p (.int .i64 s))],.row .byte 5 b]],.abs (.cn c0),.abs (.cn c1),.abs (.cn c2),.abs (.cn c3),.row .int 3 t],.row .int 3 t]⟩):Option CT)) l n b s c0 c1 c2 c3 t
 |_,_=>none
theorem zfR:zx Tryz.prog 31 (Vp alg):=by
 intro args hp r h;unfold Vp at h;split at h<;>cases h
 rename_i n l s b c0 c1 c2 c3 t
 revert l t;intro(l:List Upl) (t:List Int)
 simp only [CT.Good,zi];intro hneed
 refine spcG zh mixed Tryz.func31 (by kernel_rfl) { cfgP with keep:=some [0,2]} [] (by kernel_rfl) ?_
 intro I X hI hX
 refine orcL ?_;go_invoke;refine orcS (by kernel_rfl) ?_
 simp only [zq,Nat.reduceAdd];subst hI;simp only [nrmA,nrmB,nrlB,reduceCtorEq,HO.pack.injEq,HO.obj.injEq]
 (repeat' (first|refine ja ?_ ?_|intro _))<;>first|omega|exact jb|exact jc ‹False›|skip
def zoD:Know Tryz.prog:=⟨31,Vp,zfR⟩
def zoC:Know Tryz.prog:=⟨31,fun I=>zy I (Vp I),zf zfR⟩
def sumX:Int→List Stp→Int
 |n,[]=>n
 |n,x::l=>sumX (IntKind.i64.wrap (n+x.bytes.length)) l
def bytP:List Stp→Int
 |[]=>0
 |x::l=>x.bytes.length+bytP l
theorem zeU: ∀ l:List Stp,0≤bytP l
 |[]=>Int.le_refl _
 |x::l=>by have:=zeU l;simp only [bytP];omega
def StW (x:Stp):Prop:=x.bytes.length≤140737488355328
theorem zb7: ∀ (l:List Stp) (n:Int),0≤n→n+l.length * 140737488355328≤9000000000000000000→(∀ x ∈ l,StW x)→sumX n l=n+bytP l
 |[],n,_,_,_=>by simp [sumX,bytP]
 | x::l,n,h0,h,hw=>by
   have hx:=hw x List.mem_cons_self;unfold StW at hx;simp only [jh] at h
   rw [sumX,zai (k:=.i64) (by rw [YK,Tc,Td];omega),zb7 l _ (by omega) (by omega) fun y hy=>hw y (List.mem_cons_of_mem _ hy)]
   simp only [bytP];omega
def zgm (l:List Stp):Bool:=decide (100<l.length)||decide (12000<sumX 0 l)
def VG (I:Alg) (args:List D) (hp:List HO):Option CT:=match args,hp with
 |[.v (.one (.p (.list .stp l)))],[]=>(fun(l:List Stp)=>(some (.one ⟨I.hid (l.length≤140737488355328),(.ret (.v (.one (.p (.bool (I.hid (zgm l))))))),[]⟩):Option CT)) l
 |_,_=>none
theorem zgl:zx Tryz.prog 26 (VG alg):=by
 intro args hp r h;unfold VG at h;split at h<;>cases h
 rename_i l
 revert l;intro(l:List Stp)
 simp only [CT.Good,zi];intro hneed;generalize hr:zgm l=r
 refine spcG zh mixed Tryz.func26 (by kernel_rfl) { wrp:=true,keep:=some [0,2,3,4]} [] (by kernel_rfl) ?_
 intro I X hI hX
 refine orcL ?_;go_invoke;refine orcS (by kernel_rfl) ?_
 simp only [zq,Nat.reduceAdd]
 refine zB hI zh mixed [] hX [0,3,4] (fun(g:Nat × Int)=>match g with|(i,n)=>i≤l.length∧sumX n (l.drop i)=sumX 0 l) (fun(g:Nat × Int)=>match g with|(i,n)=>⟨[(0,.v (.one (.p (.list .stp l)))),(3,.v (.one (.p (.int .i64 n)))),(4,.v (.one (.p (.int .i64 i))))],[],26,none⟩) (fun(g:Nat × Int)=>match g with|(i,n)=>l.length - i) (0,0) (by kernel_rfl) (by kernel_rfl) ?_ ?_
 · exact⟨jM _,rfl⟩
 rintro⟨i,n⟩ ⟨h1,h2⟩ A hA;simp only at hA
 refine orcL ?_;go_invoke;refine orcS (by kernel_rfl) ?_
 simp only [zq,Nat.reduceAdd];subst hI;simp only [nrmA,nrmB]
 have hd:i<l.length→sumX n (l.drop i)=sumX (IntKind.i64.wrap (n+(l.getD i ⟨0,0,0,[]⟩).bytes.length)) (l.drop (i+1)):=fun h=>by
  rw [jE h,sumX];simp [h]
 have hend: ¬ i<l.length→n=sumX 0 l:=fun h=>by rw [← h2,jF (by omega)];rfl
 generalize l.getD i ⟨0,0,0,[]⟩=x at *
 have hrm:r=(decide (100<l.length)||decide (12000<sumX 0 l)):=hr.symm
 refine⟨fun c=>⟨by omega,by omega,?_⟩,fun c=>⟨fun c2=> ?_,fun c2=> ?_⟩⟩
 · rw [show IntKind.i64.wrap ((i:Int)+1)=((i+1:Nat):Int) from zai (k:=.i64) (by rw [YK,Tc,Td];omega)]
   exact hA (i+1,IntKind.i64.wrap (n+x.bytes.length)) ⟨by simp only;omega,by simp only;rw [← hd (by omega),h2]⟩ (by simp only;omega)
 · rw [hrm,decide_eq_true (by omega),Bool.true_or]
 · rw [hrm,hend (by omega),decide_eq_false (p:=100<l.length) (by omega),Bool.false_or]
def zba:Know Tryz.prog:=⟨26,VG,zgl⟩
def za9:Know Tryz.prog:=⟨26,fun I=>zy I (VG I),zf zgl⟩
theorem zmw {l:List Stp} (hw: ∀ x ∈ l,StW x) (h:zgm l=false):l.length≤100∧bytP l≤12000:=by
 unfold zgm at h;simp only [Bool.or_eq_false_iff,decide_eq_false_iff_not] at h
 have e:=zb7 l 0 (Int.le_refl _) (by omega) hw
 exact⟨by omega,by omega⟩
structure PsI (p:PS) (m:Int) (N:Nat) (k:Nat):Prop where
 g:GsI p.g m N
 t:p.t.length≤k
theorem ps_0:PsI ps0 25000 0 0:=⟨zbc gi_0 (by decide) (jL _),jL _⟩
theorem zrU {p:PS} {m:Int} {N k:Nat} (h:PsI p m N k) (hm:25000≤m) (x:Stp) (hb:N+x.bytes.length≤1000000):PsI (doP p x) (m+12 * x.bytes.length+1) (N+x.bytes.length) (k+1):=by
 refine⟨zxu h.g hm x hb,?_⟩;have:=h.t
 show(doT p x).length≤_
 unfold doT zfq
 repeat' split
 all_goals first|omega|(rw [jk,jr];omega)
theorem U3 {p:PS} {m:Int} {N k:Nat} (h:PsI p m N k) (hm:25000≤m) (x:Stp) (hb:N+x.bytes.length≤30000) (hc:m+12 * x.bytes.length≤199980) (hk:k≤1000000):PdN p.g p.t x:=⟨N,m,h.g,hb,hm,hc,Nat.le_trans h.t hk⟩
end Go.Proofs.YtkjepecoodjbmaaGreatDoor
namespace Go.Proofs.YtkjepecoodjbmaaGreatDoor
open Go Go.Sep Go.Ab
set_option maxRecDepth 100000
def begP:Str:=[80,79,83,84,32,47,102,105,108,101,115,32,72,84,84,80,47,49,46,49,13,10,72,111,115,116,58,32,97,13,10,84,117,115,45,82,101,115,117,109,97,98,108,101,58,32,49,46,48,46,48,13,10,85,112,108,111,97,100,45,76,101,110,103,116,104,58,32,48,13,10,13,10]
def stA:Stp:=⟨1,0,0,begP⟩
def stB:Stp:=⟨3,0,1,[]⟩
def psA:PS:=doP ps0 stA
def psB:PS:=doP psA stB
theorem zvx:(doO gs0 stA).c=0∧0<(doO gs0 stA).b.length∧(doO psA.g stB).c=0∧(doO psA.g stB).u=[80,79,83,84,32,47,116,97,107,101,47,49,32,72,84,84,80,47,49,46,49,13,10,72,111,115,116,58,32,105,110,108,97,110,100,13,10,67,111,110,116,101,110,116,45,76,101,110,103,116,104,58,32,48,13,10,13,10]∧(doO psB.g stB).c=19∧(doP psB stB).t.length=1:=by decide+kernel
theorem zqf (p:PS) (x:Stp):doP ⟨⟨⟨p.g.q.l,p.g.q.n,p.g.q.b,p.g.q.s⟩,p.g.c0,p.g.c1,p.g.c2,p.g.c3⟩,p.t⟩ x=doP p x∧doO ⟨⟨p.g.q.l,p.g.q.n,p.g.q.b,p.g.q.s⟩,p.g.c0,p.g.c1,p.g.c2,p.g.c3⟩ x=doO p.g x∧PdN ⟨⟨p.g.q.l,p.g.q.n,p.g.q.b,p.g.q.s⟩,p.g.c0,p.g.c1,p.g.c2,p.g.c3⟩ p.t x=PdN p.g p.t x:=⟨rfl,rfl,rfl⟩
def qC (I:Alg) (args:List D) (hp:List HO):Option CT:=match args,hp with
 |[],[]=>(fun(_:Unit)=>(some (.one ⟨I.hid (True),(.ret (.v (.one (.p (.bool true))))),[]⟩):Option CT)) ()
 |_,_=>none
set_option maxHeartbeats 4000000 in
theorem Si:zx Tryz.prog 25 (qC alg):=by
 intro args hp r h;unfold qC at h;split at h<;>cases h
 simp only [CT.Good,zi];intro _;obtain⟨h1,h2,h3,h4,h5,h6⟩:=zvx
 have i1:=zrU ps_0 (Int.le_refl _) stA (by decide)
 have i2:=zrU i1 (by decide) stB (by decide)
 have n1:=U3 ps_0 (by decide) stA (by decide) (by decide) (by decide)
 have n2:=U3 i1 (by decide) stB (by decide) (by decide) (by decide)
 have n3:=U3 i2 (by decide) stB (by decide) (by decide) (by decide)
 refine spcG zh mixed Tryz.func25 (by kernel_rfl) { cfgP with keep:=some [0,1,2,3,4]} [zd7,zd6,zkl,zkk,zoD,zoC] (by kernel_rfl) ?_
 intro I X hI hX
 refine orcL ?_;go_invoke;refine orcS (by kernel_rfl) ?_
 simp only [zq,Nat.reduceAdd];subst hI;simp only [nrmA,nrmB,nrlB,reduceCtorEq,Int.reduceToNat,UInt8.reduceOfNat,Int.reduceLE,and_self];simp only [show([80,79,83,84,32,47,102,105,108,101,115,32,72,84,84,80,47,49,46,49,13,10,72,111,115,116,58,32,97,13,10,84,117,115,45,82,101,115,117,109,97,98,108,101,58,32,49,46,48,46,48,13,10,85,112,108,111,97,100,45,76,101,110,103,116,104,58,32,48,13,10,13,10]:Str)=begP from rfl];rw [show(⟨1,0,0,begP⟩:Stp)=stA from rfl,show(⟨3,0,1,[]⟩:Stp)=stB from rfl];simp only [show doP ⟨⟨⟨[],0,[],0⟩,cn0,cn0,cn0,cn0⟩,[]⟩ stA=psA from rfl,show doO ⟨⟨[],0,[],0⟩,cn0,cn0,cn0,cn0⟩ stA=doO gs0 stA from rfl,zqf,show doP psA stB=psB from rfl]
 exact⟨by decide,n1,n2,n3,fun _=>⟨fun _=>⟨fun _=>⟨fun _=>⟨fun _=>⟨by omega,by omega⟩,h5⟩,h4⟩,h3⟩,by omega⟩,h1⟩
def Yn:Know Tryz.prog:=⟨25,qC,Si⟩
def Ym:Know Tryz.prog:=⟨25,fun I=>zy I (qC I),zf Si⟩
end Go.Proofs.YtkjepecoodjbmaaGreatDoor
namespace Go.Proofs.YtkjepecoodjbmaaGreatDoor
open Go Go.Sep Go.Ab
theorem zsb {α:Type} (d:α): ∀ {l:List α},l.length=2→l=[l.getD 0 d,l.getD 1 d]
 |[_,_],_=>rfl
def evX:Evt:=⟨0,⟨[],[],0,[],0⟩,[],⟨[],[],[],[]⟩,0⟩
theorem zvy:(zZ (zF cn0.q begG).out).length=2∧((zZ (zF cn0.q begG).out).getD 0 evX).kind=1∧((zZ (zF cn0.q begG).out).getD 1 evX).kind=3∧((zZ (zF cn0.q begG).out).getD 0 evX).head.target=[47]:=by decide+kernel
theorem zuV (q:Sto):fdK cn0=0∧fdO q cn0 begG=qP (sV 404)∧fdQ q cn0 begG=q:=by
 obtain⟨h1,h2,h3,h4⟩:=zvy;have h5:=zsb evX h1;generalize(zZ (zF cn0.q begG).out).getD 0 evX=a at *;generalize(zZ (zF cn0.q begG).out).getD 1 evX=b at *
 have hA: ∀ f x,ansG q a.head.method [47] f x=⟨sV 404,q⟩:=fun f x=>by
  unfold ansG
  rw [if_neg (show ¬ zec [47]=true by decide+kernel),if_pos (show [47]≠zu8 by decide)]
 have hE:fedE q cn0 begG=⟨q,a.head,[],false,false,qP (sV 404)⟩:=by
  unfold fedE;rw [h5]
  show evG (evG _ a) b=_
  simp only [evG,h2,h3,h4,hA]
  simp [h4,hA]
 refine⟨rfl,?_,?_⟩
 · rw [zwG,hE]
 · rw [zpV,hE]
theorem zuU:12≤(qP (sV 404)).length∧((qP (sV 404)).drop 9).take 3=[52,48,52]:=by decide+kernel
end Go.Proofs.YtkjepecoodjbmaaGreatDoor
namespace Go.Proofs.YtkjepecoodjbmaaGreatDoor
open Go Go.Sep Go.Ab
def stp0:Stp:=⟨0,0,0,[]⟩
structure LpI (l:List Stp) (i:Nat) (p:PS):Prop where
 le:i≤l.length
 ps:PsI p (25000+12 * bytP (l.take i)+i) (bytP (l.take i)).toNat i
 fu:Full p.g.q
theorem lp_0 (l:List Stp):LpI l 0 ps0:=⟨jM _,ps_0,zwy⟩
theorem zeV: ∀ a b:List Stp,bytP (a++b)=bytP a+bytP b
 |[],b=>by simp [bytP]
 |x::a,b=>by have:=zeV a b;simp only [List.cons_append,bytP];omega
theorem zhs (l:List Stp) (i:Nat):bytP (l.take i)≤bytP l:=by
 have h:=zeV (l.take i) (l.drop i);have:=zeU (l.drop i);rw [List.take_append_drop] at h;omega
theorem lp_s {l:List Stp} {i:Nat} {p:PS} (h:LpI l i p) (hi:i<l.length) (hl:l.length≤100∧bytP l≤12000):PdN p.g p.t (l.getD i stp0)∧LpI l (i+1) (doP p (l.getD i stp0)):=by
 have e:l.getD i stp0=l[i]:=by simp [hi]
 have e2:bytP (l.take (i+1))=bytP (l.take i)+l[i].bytes.length:=by rw [jB hi,zeV];simp [bytP]
 have h0:=zeU (l.take i);have h1:=zhs l (i+1);rw [e]
 refine⟨U3 h.ps (by omega) _ (by omega) (by omega) (by omega),hi,?_,?_⟩
 · have:=zrU h.ps (by omega) l[i] (by omega)
   rw [e2]
   rw [show(bytP (l.take i)+l[i].bytes.length).toNat=(bytP (l.take i)).toNat+l[i].bytes.length by omega]
   exact⟨zbc this.g (by omega) (jL _),this.t⟩
 · exact zu5 h.ps.g _ (by omega) (by omega) h.fu
structure EdI (p:PS):Prop where
 ps:PsI p 170000 12000 100
 fu:Full p.g.q
theorem zwl {l:List Stp} {p:PS} {i:Nat} (h:LpI l i p) (hi: ¬ i<l.length) (hl:l.length≤100∧bytP l≤12000):EdI p:=by
 have:=zhs l i;have h0:=h.le;have h1:=zeU (l.take i)
 exact⟨⟨zbc h.ps.g (by omega) (by omega),by have:=h.ps.t;omega⟩,h.fu⟩
theorem zoz {p:PS} {m m':Int} {N N' k k':Nat} (h:PsI p m N k) (h1:m≤m') (h2:N≤N') (h3:k≤k'):PsI p m' N' k':=⟨zbc h.g h1 h2,Nat.le_trans h.t h3⟩
def crS (k:Int):Stp:=⟨5,0,k,[]⟩
theorem zwP {p:PS} (h:Full p.g.q) (k:Int):doP p (crS k)=⟨⟨p.g.q,cn0,cn0,cn0,cn0⟩,p.t⟩:=by
 unfold doP doG doT crS
 simp [zkR h]
theorem zdm {p:PS} (h:EdI p) (k:Int):PdN p.g p.t (crS k)∧doP p (crS k)=⟨⟨p.g.q,cn0,cn0,cn0,cn0⟩,p.t⟩∧EdI (doP p (crS k)):=by
 have e:=zwP h.fu k
 refine⟨U3 h.ps (by decide) _ (show 12000+0≤30000 by decide) (show(170000:Int)+12 * 0≤199980 by decide) (by decide),e,?_⟩
 rw [e]
 exact⟨⟨⟨h.ps.g.q,uh zbY (by decide),uh zbY (by decide),uh zbY (by decide),uh zbY (by decide)⟩,h.ps.t⟩,h.fu⟩
def getS (k:Int):Stp:=⟨1,k,0,begG⟩
structure GtI (q:Sto) (k:Nat) (p:PS):Prop where
 le:k≤4
 q:p.g.q=q
 ps:PsI p (180000+400 * k) (12000+27 * k) (100+k)
 nw: ∀ j:Int,(k:Int)≤j→j<4→p.g.at j=cn0
theorem gt_0 {p:PS} (h:EdI p) (k:Int):GtI p.g.q 0 (doP p (crS k)):=by
 obtain⟨_,e,h1⟩:=zdm h k
 refine⟨jM _,by rw [e],zoz h1.ps (by decide) (by decide) (by decide),fun j _ _=> ?_⟩
 rw [e];unfold GS.at
 repeat' split
 all_goals rfl
theorem zw0 {g:GS} {j k:Int} {c:Cn} {q:Sto} (hj:j=0∨j=1∨j=2∨j=3) (h:k≠j):(g.put k c q).at j=g.at j:=by
 rcases hj with rfl|rfl|rfl|rfl<;>(unfold GS.at GS.put;simp [h])
theorem gt_s {q:Sto} {k:Nat} {p:PS} (h:GtI q k p) (hk:k<4):PdN p.g p.t (getS k)∧(doO p.g (getS k)).c=0∧(doO p.g (getS k)).b=qP (sV 404)∧GtI q (k+1) (doP p (getS k)):=by
 have hn:=h.nw k (Int.le_refl _) (by omega)
 have hg:=zuV p.g.q
 have hi:inG (k:Int)=true:=by unfold inG;rw [decide_eq_true (by omega),decide_eq_true (by omega)];rfl
 have e:doO p.g (getS k)=⟨0,qP (sV 404),[]⟩:=by
  unfold doO getS;simp only [if_true,hi,hn,hg]
 have e2:doP p (getS k)=⟨p.g.put k (fdC p.g.q cn0 begG) p.g.q,p.t⟩:=by
  unfold doP doG doT getS
  simp [hi,hn,hg.2.2]
 refine⟨U3 h.ps (by omega) _ (by show _+begG.length≤_;rw [show begG.length=27 from rfl];omega) (by show _+12 * (begG.length:Int)≤_;rw [show begG.length=27 from rfl];omega) (by omega),by rw [e],by rw [e],by omega,?_,?_,fun j h1 h2=> ?_⟩
 · rw [e2];exact h.q
 · have:=zrU h.ps (by omega) (getS k) (by show _+begG.length≤_;rw [show begG.length=27 from rfl];omega)
   exact zoz this (by show _+12 * (begG.length:Int)+1≤_;rw [show begG.length=27 from rfl];omega) (by show _+begG.length≤_;rw [show begG.length=27 from rfl];omega) (by omega)
 · have h3:=h.nw j (by omega) h2
   rw [e2]
   rw [show(⟨p.g.put k (fdC p.g.q cn0 begG) p.g.q,p.t⟩:PS).g=p.g.put k (fdC p.g.q cn0 begG) p.g.q from rfl,zw0 (by omega) (show(k:Int)≠j by omega)]
   exact h3
end Go.Proofs.YtkjepecoodjbmaaGreatDoor
namespace Go.Proofs.YtkjepecoodjbmaaGreatDoor
open Go Go.Sep Go.Ab
set_option maxRecDepth 100000
set_option maxHeartbeats 4000000 in
theorem pAgain_ (l:List Stp) (keep again:Int) (hneed:l.length≤140737488355328∧∀ x ∈ l,StW x):Spc Tryz.prog 7 [.v (.one (.p (.list .stp l))),.v (.one (.p (.int .i64 keep))),.v (.one (.p (.int .i64 again)))] [] (.ret (.v (.one (.p (.bool true))))) []:=by
 obtain⟨hz,hw⟩:=hneed
 refine spcG zh mixed Tryz.func7 (by kernel_rfl) { cfgP with keep:=some [0,1,2,6,7,8,9,10,11]} [WQ,WO,Qb,Qa,WL,WJ,zaG,zaF,zd7,zd6,zkl,zkk,zba,za9,Yn,Ym] (by kernel_rfl) ?_
 intro I X hI hX
 refine orcL ?_;go_invoke;refine orcS (by kernel_rfl) ?_
 simp only [zq,Nat.reduceAdd]
 (repeat' (first|refine ja ?_ ?_|intro _))
 all_goals try(subst hI;(simp only [nrmA,nrmB,nrlB,reduceCtorEq] at *);first|done|trivial|omega|exact hz)
 have hg:zgm l=false:=by
  subst hI;simp only [nrmA,nrmB,nrlB,reduceCtorEq] at *;assumption
 have hl:=zmw hw hg
 have hh: ∀ {α:Type} (y:α),I.hid y=y:=fun y=>by subst hI;rfl
 simp only [hh]
 refine zB hI zh mixed [WQ,WO,Qb,Qa,WL,WJ,zaG,zaF,zd7,zd6,zkl,zkk,zba,za9,Yn,Ym] hX [0,1,2,7,8] (fun(g:Nat × PS)=>match g with|(i,p)=>LpI l i p) (fun(g:Nat × PS)=>match g with|(i,p)=>⟨[(0,.v (.one (.p (.list .stp l)))),(1,.v (.one (.p (.int .i64 keep)))),(2,.v (.one (.p (.int .i64 again)))),(7,.v (.one (.ptr 0 0))),(8,.v (.one (.p (.int .i64 i))))],[.pack [.obj 85 [(.ptr 1 0),(.row 7)],.obj 50 [(.ptr 2 0),(.ptr 3 0),(.ptr 4 0),(.ptr 5 0),(.ptr 6 0)],.pack [.obj 54 [(.ptr 1 0),(.ptr 2 0)],.pack [.obj 124 [(.row 1),(.p (.int .i64 p.g.q.n))],.row .upl 81 p.g.q.l],.pack [.obj 156 [(.row 1),(.p (.int .i64 p.g.q.s))],.row .byte 5 p.g.q.b]],.abs (.cn p.g.c0),.abs (.cn p.g.c1),.abs (.cn p.g.c2),.abs (.cn p.g.c3),.row .int 3 p.t]],87,none⟩) (fun(g:Nat × PS)=>match g with|(i,p)=>l.length - i) (0,ps0) (by kernel_rfl) (by kernel_rfl) ?_ ?_
 · exact lp_0 l
 rintro⟨i,p⟩ h1 A hA;simp only at hA h1
 refine orcL ?_;go_invoke;refine orcS (by kernel_rfl) ?_
 simp only [zq,Nat.reduceAdd];simp only [hh,zqf]
 have e1:I.get l ⟨0,0,0,[]⟩ (i:Int)=l.getD i stp0:=by subst hI;first|rfl|simp [stp0]
 simp only [e1];have ex: ∀ x:Stp,(⟨x.kind,x.conn,x.n,x.bytes⟩:Stp)=x:=fun _=>rfl;simp only [ex,show(⟨5,0,keep,[]⟩:Stp)=crS keep from rfl,show(⟨5,0,again,[]⟩:Stp)=crS again from rfl];have hS:=fun h=>lp_s h1 h hl;have hE:=fun h=>zwl h1 h hl;have hil:=h1.le;generalize l.getD i stp0=x at *
 (repeat' (first|refine ja ?_ ?_|intro _))
 all_goals try(subst hI;(simp only [nrmA,nrmB,nrlB,reduceCtorEq] at *);first|done|omega|exact(hS (by omega)).1|exact hA (i+1,doP p x) (hS (by omega)).2 (by dsimp only;omega)|exact(zdm (hE (by omega)) _).1|exact(zdm (hE (by omega)) _).2.2.ps.g.q.1|exact(zdm (zdm (hE (by omega)) _).2.2 _).1)
 have hlt: ¬ i<l.length:=by
  subst hI;simp only [nrmA,nrmB,nrlB,reduceCtorEq] at *;omega
 have hE:=hE hlt;have ha:=(zdm hE keep).2.2;have hG:=gt_0 ha again;clear hA hS hE h1 ex e1;generalize doP p (crS keep)=pa at *;generalize doP pa (crS again)=pb at *;have hsl:=ha.ps.g.q.1;have hsc:=Yf hsl;have hb4:=zuU
 refine zB hI zh mixed [WQ,WO,Qb,Qa,WL,WJ,zaG,zaF,zd7,zd6,zkl,zkk,zba,za9,Yn,Ym] hX [7,9,10] (fun(g:Nat × PS)=>match g with|(k,p)=>GtI pa.g.q k p) (fun(g:Nat × PS)=>match g with|(k,p)=>⟨[(7,.v (.one (.ptr 0 0))),(9,.v (.one (.row 1))),(10,.v (.one (.p (.int .i64 k))))],[.pack [.obj 85 [(.ptr 1 0),(.row 7)],.obj 50 [(.ptr 2 0),(.ptr 3 0),(.ptr 4 0),(.ptr 5 0),(.ptr 6 0)],.pack [.obj 54 [(.ptr 1 0),(.ptr 2 0)],.pack [.obj 124 [(.row 1),(.p (.int .i64 p.g.q.n))],.row .upl 81 p.g.q.l],.pack [.obj 156 [(.row 1),(.p (.int .i64 p.g.q.s))],.row .byte 5 p.g.q.b]],.abs (.cn p.g.c0),.abs (.cn p.g.c1),.abs (.cn p.g.c2),.abs (.cn p.g.c3),.row .int 3 p.t],.row .upl 81 pa.g.q.l],87,none⟩) (fun(g:Nat × PS)=>match g with|(k,p)=>4 - k) (0,pb) (by kernel_rfl) (by kernel_rfl) ?_ ?_
 · exact hG
 rintro⟨k,p⟩ h1 A hA;simp only at hA h1
 refine orcL ?_;go_invoke;refine orcS (by kernel_rfl) ?_
 simp only [zq,Nat.reduceAdd];subst hI;simp only [nrmA,nrmB,nrlB,reduceCtorEq,Int.reduceToNat,UInt8.reduceOfNat,Int.reduceLE,and_self];simp only [show([71,69,84,32,47,32,72,84,84,80,47,49,46,49,13,10,72,111,115,116,58,32,97,13,10,13,10]:Str)=begG from rfl];simp only [zqf,show ∀ j:Int,(⟨1,j,0,begG⟩:Stp)=getS j from fun _=>rfl];have hS:=fun h=>gt_s h1 h;have hq:=h1.q;have hil:=h1.le
 refine⟨fun c=> ?_,fun _=>⟨h1.ps.g.q.1,⟨by omega,by rw [hq];omega⟩,by rw [hq]⟩⟩
 obtain⟨g1,g2,g3,g4⟩:=hS (by omega)
 rw [g2,g3]
 refine⟨by decide,g1,rfl,fun _=>⟨by omega,fun _=>⟨by omega,hb4.2,fun _=>⟨by omega,?_⟩⟩⟩⟩
 exact hA (k+1,doP p (getS k)) g4 (by dsimp only;omega)
end Go.Proofs.YtkjepecoodjbmaaGreatDoor
