/- Texts of this proof, one behind the other: GatE GatI GatH GatJ ShlA RqwA PrtA PrtB GatK PrtC PrtD PrtI PrtE ReqT ReqU ReqS SamF RplC ChkG ReqV Idx ReqG ReqW RplP ReqY PrtN PrtO. -/
import Derived.Shelf.Strings.Trim
import Derived.Shelf.Small.Utf8
import Derived.Shelf.Small.Strs
import Derived.Shelf.Small.Wraps
import Derived.Shelf.Strconv.Itoa0
import Derived.Shelf.Strconv.Itoa1
import Derived.Shelf.LaysM
import Derived.Shelf.Strconv.Itoa2
import Derived.Shelf.Strconv.Itoa3
import Derived.Shelf.Strings.Search1
import Derived.Shelf.Strings.Search2
import Derived.Shelf.Strings.Search3
import Derived.Shelf.Strings.Cut
import Derived.Shelf.Strings.Count
import Derived.Shelf.Strings.Shaped
import Derived.Shelf.Strings.Prefix
import Derived.Shelf.Strings.Split
import Derived.Shelf.Strings.Runes
import Derived.Shelf.Strings.IndexAny
import Derived.Shelf.Strings.AsciiSet
import Derived.Shelf.Strings.IndexAnyAll
import Derived.Shelf.Unicode.DecodeSlow
import Derived.Test.YtkjepecoodjbmaaGreatDoorProg
import Derived.Laws.Runes
import Derived.Lib.OthersKept
import Derived.Deep.QuietTactic
import Derived.BigQuiet
import Derived.Test.YtkjepecoodjbmaaGreatDoorMe
set_option linter.all false
namespace Go.Proofs.YtkjepecoodjbmaaGreatDoor
open Go Go.Sep Go.Ab
set_option maxRecDepth 100000
set_option maxHeartbeats 8000000 in
theorem zzD (j:Nat) (hj:j<4) (l:List Upl) (n:Int) (b:Str) (s:Int) (c d1 d2 d3:Cn) (x:Str) (hneed:FdN ⟨l,n,b,s⟩ c x):Spc Tryz.prog 14 [.v (.one (.ptr 0 0)),.v (.one (.p (.int .i64 j))),.v (.one (.p (.list .byte x)))] (.obj 50 [.ptr 1 0,.ptr 2 0,.ptr 3 0,.ptr 4 0,.ptr 5 0]:: .pack [.obj 54 [.ptr 1 0,.ptr 2 0],.pack [.obj 124 [.row 1,.p (.int .i64 n)],.row .upl 81 l],.pack [.obj 156 [.row 1,.p (.int .i64 s)],.row .byte 5 b]]::insC j c d1 d2 d3) (.ret (.tup [.one (.p (.list .byte ((fdO ⟨l,n,b,s⟩ c x)))),.one (.p (.int .i64 ((fdK c))))])) (.obj 50 [.ptr 1 0,.ptr 2 0,.ptr 3 0,.ptr 4 0,.ptr 5 0]:: .pack [.obj 54 [.ptr 1 0,.ptr 2 0],.pack [.obj 124 [.row 1,.p (.int .i64 ((fdQ ⟨l,n,b,s⟩ c x).n))],.row .upl 81 ((fdQ ⟨l,n,b,s⟩ c x).l)],.pack [.obj 156 [.row 1,.p (.int .i64 ((fdQ ⟨l,n,b,s⟩ c x).s))],.row .byte 5 ((fdQ ⟨l,n,b,s⟩ c x).b)]]::insC j ((fdC ⟨l,n,b,s⟩ c x)) d1 d2 d3):=by
 obtain⟨hJ,hN⟩:=zzP hneed;have hend:=fun l1 n1 b1 s1 c1 o i h=>zye (q:=⟨l,n,b,s⟩) (c0:=c) (x:=x) (l:=l1) (n:=n1) (b:=b1) (s:=s1) (c:=c1) (o:=o) (i:=i) h;have hA0:=zAK hJ (zT c.q x) (l:=l) (n:=n) (b:=b) (s:=s) rfl
 have hd4:c.q.pos=4→fdK c=18∧fdO ⟨l,n,b,s⟩ c x=[]∧fdQ ⟨l,n,b,s⟩ c x=⟨l,n,b,s⟩∧fdC ⟨l,n,b,s⟩ c x=c:=fun h=>by unfold fdK fdO fdQ fdC;rw [if_pos h,if_pos h,if_pos h,if_pos h];exact⟨rfl,rfl,rfl,rfl⟩
 have hd5: ¬ c.q.pos=4→fdK c=0:=fun h=>by unfold fdK;rw [if_neg h]
 generalize fdK c=rk at *;generalize fdO ⟨l,n,b,s⟩ c x=ro at *;generalize fdQ ⟨l,n,b,s⟩ c x=rq at *;generalize fdC ⟨l,n,b,s⟩ c x=rc at *;obtain⟨l',n',b',s'⟩:=rq;obtain⟨q,⟨m,t,mi,f,le⟩,cb,li,w⟩:=c;dsimp only at *;generalize hx0:(⟨⟨l,n,b,s⟩,⟨m,t,mi,f,le⟩,cb,li,w,[]⟩:GE)=x0 at *
 refine spH Tryz.func14 (by kernel_rfl) { cfgG with rl:=[0],nr:=[8],keep:=some [0,1,2,6,7,8,10,37,38,39]} [zbX,zbW,zbU,zbT,Rf,S9,SY,SX,SV,SS,SQ,SN] (by kernel_rfl) ?_
 intro I X hI hX;clear hneed;obtain⟨jj,hjj⟩: ∃ jj,jj=j:=⟨_,rfl⟩;obtain⟨ww,hww⟩: ∃ ww,ww=w:=⟨_,rfl⟩
 obtain rfl|rfl|rfl|rfl:j=0∨j=1∨j=2∨j=3:=by omega
 all_goals cases w
 all_goals
  refine orcL ?_;go_invoke;refine orcS (by kernel_rfl) ?_
  simp only [zi,Nat.reduceAdd]
  have hh: ∀ {α:Type} (y:α),I.hid y=y:=fun y=>by subst hI;rfl
  simp only [hh];generalize yO (zT q x).out=J at *
  (repeat' (first|refine ja ?_ ?_|intro _))
  all_goals try(subst hI;(simp only [nrmA,nrmB,nrlB,reduceCtorEq,insC,V0.agg.injEq,HO.pack.injEq,HO.obj.injEq,HO.abs.injEq,Gh.cn.injEq] at *);first|done|omega|exact hN|(obtain⟨r1,r2,r3,r4⟩:=hd4 (by omega);simp only [Sto.mk.injEq] at r3;obtain⟨r5,r6,r7,r8⟩:=r3;simp [r1,r2,r4,r5,r6,r7,r8];done))
  have hp: ¬ q.pos=4:=by
   subst hI;simp only [nrmA,nrmB,nrlB,reduceCtorEq] at *;omega
  refine lpH hI [zbX,zbW,zbU,zbT,Rf,S9,SY,SX,SV,SS,SQ,SN] hX [0,1,8,37,38,39] (fun(g:Nat × List Upl × Int × Str × Int × Cn × Str)=>match g with|(i,l1,n1,b1,s1,c,o)=>FdA x0 J i l1 n1 b1 s1 c o (zT q x)) (fun(g:Nat × List Upl × Int × Str × Int × Cn × Str)=>match g with|(i,l1,n1,b1,s1,c,o)=>⟨[(0,.v (.one (.ptr 0 0))),(1,.v (.one (.p (.int .i64 jj)))),(8,.v (.one (.row 6))),(37,.v (.one (.row 7))),(38,.v (.one (.p (.int .i64 ((I.len (α:=Evt) J)))))),(39,.v (.one (.p (.int .i64 i))))],(.obj 50 [.ptr 1 0,.ptr 2 0,.ptr 3 0,.ptr 4 0,.ptr 5 0]:: .pack [.obj 54 [.ptr 1 0,.ptr 2 0],.pack [.obj 124 [.row 1,.p (.int .i64 n1)],.row .upl 81 l1],.pack [.obj 156 [.row 1,.p (.int .i64 s1)],.row .byte 5 b1]]::(insC jj c d1 d2 d3++[.row .byte 5 o,.row .evt 34 J])),56,none⟩) (fun(g:Nat × List Upl × Int × Str × Int × Cn × Str)=>match g with|(i,l1,n1,b1,s1,c,o)=>J.length - i) (0,l,n,b,s,⟨zT q x,⟨m,t,mi,f,le⟩,cb,li,ww⟩,[]) (by kernel_rfl) (by subst hjj hww;kernel_rfl) ?_ ?_
  · subst hww;exact hA0
  subst hjj hww;rintro⟨i,l1,n1,b1,s1,c,o⟩ h1 A hA;simp only at hA h1;have hok:=zwH hJ h1;have hol:=h1.ol;have hil:=h1.le;have hln:=hJ.ln;have hS:=fun h=>zAJ hJ h1 h ⟨0,⟨[],[],0,[],0⟩,[],⟨[],[],[],[]⟩,0⟩;have hend:=hend _ _ _ _ _ _ _ h1
  refine orcL ?_;go_invoke;refine orcS (by kernel_rfl) ?_
  simp only [zi,Nat.reduceAdd]
  have e1:I.get J ⟨0,⟨[],[],0,[],0⟩,[],⟨[],[],[],[]⟩,0⟩ (i:Int)=J.getD i ⟨0,⟨[],[],0,[],0⟩,[],⟨[],[],[],[]⟩,0⟩:=by subst hI;first|rfl|simp
  simp only [e1];generalize J.getD i ⟨0,⟨[],[],0,[],0⟩,[],⟨[],[],[],[]⟩,0⟩=E at *;have e0:(⟨E.kind,⟨E.head.method,E.head.target,E.head.minor,E.head.fields,E.head.length⟩,E.bytes,⟨E.part.name,E.part.file,E.part.type,E.part.bytes⟩,E.code⟩:Evt)=E:=rfl;simp only [e0,hh];generalize hr:evG ⟨⟨l1,n1,b1,s1⟩,c.h,c.body,c.live,c.own,[]⟩ E=r at *;have hd5:=hd5 hp;subst hI;simp only [nrmA,nrmB,nrlB,reduceCtorEq,V0.agg.injEq,HO.pack.injEq,HO.obj.injEq,HO.abs.injEq,Gh.cn.injEq]
  (repeat' (first|refine ja ?_ ?_|intro _))<;>first|omega|exact jb|exact jc ‹False›|skip
  all_goals first
   |omega
   |exact hok.1
   |exact hok.2.2.2.1.1
   |(exact(hok.2.2.2.1.2 _ ‹_›).1)
   |(exact(hok.2.2.2.1.2 _ ‹_›).2)
   |exact(hS (by omega)).1.1
   |exact(hS (by omega)).1.2
   |(exact(hS (by omega)).1.2 ‹_›)
   |(have:=((hS (by omega)).2 _ rfl).1;omega)
   |exact hA (i+1,r.q.l,r.q.n,r.q.b,r.q.s,⟨c.q,r.h,r.b,r.i,r.w⟩,o++r.o) ((hS (by omega)).2 _ rfl).2 (by dsimp only;omega)
   |(obtain⟨r3,r4,r5⟩:=hend (by omega) hp;simp only [Sto.mk.injEq] at r3;obtain⟨r6,r7,r8,r9⟩:=r3;simp [insC,r4,r5,r6,r7,r8,r9,hd5];done)
def uS (j:Nat) (I:Alg) (args:List D) (hp:List HO):Option CT:=match args,hp with
 | [.v (.one (.ptr 0 0)),.v (.one (.p (.int .i64 k))),.v (.one (.p (.list .byte x)))],[.obj 50 [.ptr 1 0,.ptr 2 0,.ptr 3 0,.ptr 4 0,.ptr 5 0],.pack [.obj 54 [.ptr 1 0,.ptr 2 0],.pack [.obj 124 [.row 1,.p (.int .i64 n)],.row .upl 81 l],.pack [.obj 156 [.row 1,.p (.int .i64 s)],.row .byte 5 b]],.abs (.cn c0),.abs (.cn c1),.abs (.cn c2),.abs (.cn c3)]=>(match isJ k j with
   |true=>(fun(l:List Upl) (b:Str) (x:Str)=>(selC j c0 c1 c2 c3 fun c d1 d2 d3=>some (.one ⟨I.hid (FdN ⟨l,n,b,s⟩ c x),(.ret (.tup [.one (.p (.list .byte (I.hid (fdO ⟨l,n,b,s⟩ c x)))),.one (.p (.int .i64 (I.hid (fdK c))))])),(.obj 50 [.ptr 1 0,.ptr 2 0,.ptr 3 0,.ptr 4 0,.ptr 5 0]:: .pack [.obj 54 [.ptr 1 0,.ptr 2 0],.pack [.obj 124 [.row 1,.p (.int .i64 (I.hid ((fdQ ⟨l,n,b,s⟩ c x).n)))],.row .upl 81 (I.hid ((fdQ ⟨l,n,b,s⟩ c x).l))],.pack [.obj 156 [.row 1,.p (.int .i64 (I.hid ((fdQ ⟨l,n,b,s⟩ c x).s)))],.row .byte 5 (I.hid ((fdQ ⟨l,n,b,s⟩ c x).b))]]::insC j (I.hid (fdC ⟨l,n,b,s⟩ c x)) d1 d2 d3)⟩):Option CT)) l b x
   |false=>none)
 |_,_=>none
theorem qU (j:Nat) (hj:j<4):zu Tryz.prog 14 (uS j alg):=by
 intro args hp r h;unfold uS at h
 split at h
 · split at h
   · rename_i hk
     first|(cases zrH hk)|(cases jI hk)
     obtain rfl|rfl|rfl|rfl:j=0∨j=1∨j=2∨j=3:=by omega
     all_goals(cases h;exact fun hn=>zzD _ (by decide) _ _ _ _ _ _ _ _ _ hn)
   · cases h
 · cases h
def zh4:Know Tryz.prog:=⟨14,uS 0,qU 0 (by decide)⟩
def zh3:Know Tryz.prog:=⟨14,fun I=>zx I (uS 0 I),zf (qU 0 (by decide))⟩
def zh2:Know Tryz.prog:=⟨14,uS 1,qU 1 (by decide)⟩
def zh1:Know Tryz.prog:=⟨14,fun I=>zx I (uS 1 I),zf (qU 1 (by decide))⟩
def zh0:Know Tryz.prog:=⟨14,uS 2,qU 2 (by decide)⟩
def zhZ:Know Tryz.prog:=⟨14,fun I=>zx I (uS 2 I),zf (qU 2 (by decide))⟩
def zhY:Know Tryz.prog:=⟨14,uS 3,qU 3 (by decide)⟩
def zhX:Know Tryz.prog:=⟨14,fun I=>zx I (uS 3 I),zf (qU 3 (by decide))⟩
end Go.Proofs.YtkjepecoodjbmaaGreatDoor
namespace Go.Proofs.YtkjepecoodjbmaaGreatDoor
open Go Go.Sep Go.Ab
set_option maxRecDepth 100000
def oldC (c:Cn):Cn:= { c with own:=if zu7 c then false else c.own}
def gonP (j:Nat):List Ab.C:=match j with
 |0=>[.ptr 1 0,.ptr 6 0,.ptr 3 0,.ptr 4 0,.ptr 5 0]
 |1=>[.ptr 1 0,.ptr 2 0,.ptr 6 0,.ptr 4 0,.ptr 5 0]
 |2=>[.ptr 1 0,.ptr 2 0,.ptr 3 0,.ptr 6 0,.ptr 5 0]
 |_=>[.ptr 1 0,.ptr 2 0,.ptr 3 0,.ptr 4 0,.ptr 6 0]
set_option maxHeartbeats 8000000 in
theorem zzC (j:Nat) (hj:j<4) (l:List Upl) (n:Int) (b:Str) (s:Int) (c d1 d2 d3:Cn) (hneed:zL l n∧n≤200000∧b.length≤100000∧FOk c.h.fields∧c.body.length≤100000):Spc Tryz.prog 20 [.v (.one (.ptr 0 0)),.v (.one (.p (.int .i64 j)))] (.obj 50 [.ptr 1 0,.ptr 2 0,.ptr 3 0,.ptr 4 0,.ptr 5 0]:: .pack [.obj 54 [.ptr 1 0,.ptr 2 0],.pack [.obj 124 [.row 1,.p (.int .i64 n)],.row .upl 81 l],.pack [.obj 156 [.row 1,.p (.int .i64 s)],.row .byte 5 b]]::insC j c d1 d2 d3) (.ret (.v (.one (.p (.int .i64 0))))) (.obj 50 (gonP j):: .pack [.obj 54 [.ptr 1 0,.ptr 2 0],.pack [.obj 124 [.row 1,.p (.int .i64 ((Y6 ⟨l,n,b,s⟩ c).n))],.row .upl 81 ((Y6 ⟨l,n,b,s⟩ c).l)],.pack [.obj 156 [.row 1,.p (.int .i64 ((Y6 ⟨l,n,b,s⟩ c).s))],.row .byte 5 ((Y6 ⟨l,n,b,s⟩ c).b)]]::(insC j ((oldC c)) d1 d2 d3++[.abs (.cn cn0)])):=by
 obtain⟨hs,hn,hb,hf,hbo⟩:=hneed;generalize hq:Y6 ⟨l,n,b,s⟩ c=rq;generalize hc:oldC c=rc;obtain⟨l',n',b',s'⟩:=rq;obtain⟨q,⟨m,t,mi,f,le⟩,cb,li,w⟩:=c;unfold Y6 zu7 at hq;unfold oldC zu7 at hc;dsimp only at *
 rw [show decide (cb≠[])=decide (0<(cb.length:Int)) by cases cb<;>simp] at hq hc
 generalize hg:(li&&(decide (m=zb3)&&(decide (0<(cb.length:Int))&&Lib.hasPrefix t vH)))=g at hq hc
 refine spH Tryz.func20 (by kernel_rfl) { cfgG with fz:=[49],keep:=some [0,1,4,5]} [xO,xN,zpC,zpB,XK,XJ] (by kernel_rfl) ?_
 intro I X hI hX
 obtain rfl|rfl|rfl|rfl:j=0∨j=1∨j=2∨j=3:=by omega
 all_goals cases w
 all_goals
  refine orcL ?_;go_invoke;refine orcS (by kernel_rfl) ?_
  simp only [zi,Nat.reduceAdd]
  have hh: ∀ {α:Type} (y:α),I.hid y=y:=fun y=>by subst hI;rfl
  simp only [hh];rw [show([80,65,84,67,72]:Str)=zb3 from rfl,show([47,102,105,108,101,115,47]:Str)=vH from rfl];generalize yG ⟨l,n,b,s⟩ m t f cb=x at *;obtain⟨x1,x2,⟨x3,x4,x5,x6⟩⟩:=x;generalize Lib.hasPrefix t vH=hp at *;subst hI;dsimp only at *;simp only [nrmA,nrmB,nrlB,reduceCtorEq,insC,gonP,List.cons_append,List.nil_append,V0.agg.injEq,HO.pack.injEq,HO.obj.injEq,HO.abs.injEq,Gh.cn.injEq,decide_eq_true_eq];cases g
  all_goals
   simp only [jd,if_false,if_true,Sto.mk.injEq] at hq hc;obtain⟨rfl,rfl,rfl,rfl⟩:=hq;subst hc
   (repeat' (first|refine ja ?_ ?_|intro _))<;>first|omega|exact jb|exact jc ‹False›|skip
   all_goals first
    |omega
    |with_reducible rfl
    |with_reducible assumption
    |exact hf.1
    |(exact(hf.2 _ ‹_›).1)
    |(exact(hf.2 _ ‹_›).2)
    |rfl
    |(exfalso;simp [*] at hg;done)
    |(exfalso;have hq0:0<cb.length:=(by omega);have hq1:(0<(cb.length:Int))=True:=eq_true (by omega);simp only [*,decide_true,Bool.and_true,je] at hg;done)
    |(exfalso;simp [*] at hg;omega)
def uQ (j:Nat) (I:Alg) (args:List D) (hp:List HO):Option CT:=match args,hp with
 | [.v (.one (.ptr 0 0)),.v (.one (.p (.int .i64 k)))],[.obj 50 [.ptr 1 0,.ptr 2 0,.ptr 3 0,.ptr 4 0,.ptr 5 0],.pack [.obj 54 [.ptr 1 0,.ptr 2 0],.pack [.obj 124 [.row 1,.p (.int .i64 n)],.row .upl 81 l],.pack [.obj 156 [.row 1,.p (.int .i64 s)],.row .byte 5 b]],.abs (.cn c0),.abs (.cn c1),.abs (.cn c2),.abs (.cn c3)]=>(match isJ k j with
   |true=>(fun(l:List Upl) (b:Str)=>(selC j c0 c1 c2 c3 fun c d1 d2 d3=>some (.one ⟨I.hid (zL l n∧n≤200000∧b.length≤100000∧FOk c.h.fields∧c.body.length≤100000),(.ret (.v (.one (.p (.int .i64 0))))),(.obj 50 (gonP j):: .pack [.obj 54 [.ptr 1 0,.ptr 2 0],.pack [.obj 124 [.row 1,.p (.int .i64 (I.hid ((Y6 ⟨l,n,b,s⟩ c).n)))],.row .upl 81 (I.hid ((Y6 ⟨l,n,b,s⟩ c).l))],.pack [.obj 156 [.row 1,.p (.int .i64 (I.hid ((Y6 ⟨l,n,b,s⟩ c).s)))],.row .byte 5 (I.hid ((Y6 ⟨l,n,b,s⟩ c).b))]]::(insC j (I.hid (oldC c)) d1 d2 d3++[.abs (.cn cn0)]))⟩):Option CT)) l b
   |false=>none)
 |_,_=>none
theorem qR (j:Nat) (hj:j<4):zu Tryz.prog 20 (uQ j alg):=by
 intro args hp r h;unfold uQ at h
 split at h
 · split at h
   · rename_i hk
     first|(cases zrH hk)|(cases jI hk)
     obtain rfl|rfl|rfl|rfl:j=0∨j=1∨j=2∨j=3:=by omega
     all_goals(cases h;exact fun hn=>zzC _ (by decide) _ _ _ _ _ _ _ _ hn)
   · cases h
 · cases h
def zhV:Know Tryz.prog:=⟨20,uQ 0,qR 0 (by decide)⟩
def zhU:Know Tryz.prog:=⟨20,fun I=>zx I (uQ 0 I),zf (qR 0 (by decide))⟩
def zhT:Know Tryz.prog:=⟨20,uQ 1,qR 1 (by decide)⟩
def zhS:Know Tryz.prog:=⟨20,fun I=>zx I (uQ 1 I),zf (qR 1 (by decide))⟩
def zhR:Know Tryz.prog:=⟨20,uQ 2,qR 2 (by decide)⟩
def zhQ:Know Tryz.prog:=⟨20,fun I=>zx I (uQ 2 I),zf (qR 2 (by decide))⟩
def zhP:Know Tryz.prog:=⟨20,uQ 3,qR 3 (by decide)⟩
def zhO:Know Tryz.prog:=⟨20,fun I=>zx I (uQ 3 I),zf (qR 3 (by decide))⟩
end Go.Proofs.YtkjepecoodjbmaaGreatDoor
namespace Go.Proofs.YtkjepecoodjbmaaGreatDoor
open Go Go.Sep Go.Ab
set_option maxRecDepth 100000
def X8 (I:Alg):KU
 |[.v (.one (.ptr 0 0))],[.obj 50 [.ptr 1 0,.p (.val (.pointer none)),.p (.val (.pointer none)),.p (.val (.pointer none)),.p (.val (.pointer none))],.pack [.obj 54 [.ptr 1 0,.ptr 2 0],.pack [.obj 124 [.row 1,.p (.int .i64 n)],.row .upl 81 l],.pack [.obj 156 [.row 1,.p (.int .i64 s)],.row .byte 5 b]]]=>(fun(l:List Upl) (b:Str)=>(some (.one ⟨I.hid (True),(.ret (.tup [])),[.obj 50 [.ptr 1 0,.ptr 2 0,.ptr 3 0,.ptr 4 0,.ptr 5 0],.pack [.obj 54 [.ptr 1 0,.ptr 2 0],.pack [.obj 124 [.row 1,.p (.int .i64 n)],.row .upl 81 l],.pack [.obj 156 [.row 1,.p (.int .i64 s)],.row .byte 5 b]],.abs (.cn cn0),.abs (.cn cn0),.abs (.cn cn0),.abs (.cn cn0)]⟩):Option CT)) l b
 |_,_=>none
theorem zd9:zu Tryz.prog 41 (X8 alg):=by
 intro args hp r h;unfold X8 at h;split at h<;>cases h
 rename_i n l s b
 revert l;intro(l:List Upl)
 simp only [CT.Good,zh];intro _
 refine spH Tryz.func41 (by kernel_rfl) { cfgG with keep:=some [0,2,3]} [XK,XJ] (by kernel_rfl) ?_
 intro I X hI hX
 refine orcL ?_;go_invoke;refine orcS (by kernel_rfl) ?_
 simp only [zi,Nat.reduceAdd]
 refine lpH hI [XK,XJ] hX [0,3] (fun i:Nat=>i≤4) (fun i:Nat=>match i with
  |0=>⟨[(0,.v (.one (.ptr 0 0))),(3,.v (.one (.p (.int .i64 0))))],[.obj 50 [.ptr 1 0,.p (.val (.pointer none)),.p (.val (.pointer none)),.p (.val (.pointer none)),.p (.val (.pointer none))],.pack [.obj 54 [.ptr 1 0,.ptr 2 0],.pack [.obj 124 [.row 1,.p (.int .i64 n)],.row .upl 81 l],.pack [.obj 156 [.row 1,.p (.int .i64 s)],.row .byte 5 b]]],15,none⟩
  |1=>⟨[(0,.v (.one (.ptr 0 0))),(3,.v (.one (.p (.int .i64 1))))],[.obj 50 [.ptr 1 0,.ptr 2 0,.p (.val (.pointer none)),.p (.val (.pointer none)),.p (.val (.pointer none))],.pack [.obj 54 [.ptr 1 0,.ptr 2 0],.pack [.obj 124 [.row 1,.p (.int .i64 n)],.row .upl 81 l],.pack [.obj 156 [.row 1,.p (.int .i64 s)],.row .byte 5 b]],.abs (.cn cn0)],15,none⟩
  |2=>⟨[(0,.v (.one (.ptr 0 0))),(3,.v (.one (.p (.int .i64 2))))],[.obj 50 [.ptr 1 0,.ptr 2 0,.ptr 3 0,.p (.val (.pointer none)),.p (.val (.pointer none))],.pack [.obj 54 [.ptr 1 0,.ptr 2 0],.pack [.obj 124 [.row 1,.p (.int .i64 n)],.row .upl 81 l],.pack [.obj 156 [.row 1,.p (.int .i64 s)],.row .byte 5 b]],.abs (.cn cn0),.abs (.cn cn0)],15,none⟩
  |3=>⟨[(0,.v (.one (.ptr 0 0))),(3,.v (.one (.p (.int .i64 3))))],[.obj 50 [.ptr 1 0,.ptr 2 0,.ptr 3 0,.ptr 4 0,.p (.val (.pointer none))],.pack [.obj 54 [.ptr 1 0,.ptr 2 0],.pack [.obj 124 [.row 1,.p (.int .i64 n)],.row .upl 81 l],.pack [.obj 156 [.row 1,.p (.int .i64 s)],.row .byte 5 b]],.abs (.cn cn0),.abs (.cn cn0),.abs (.cn cn0)],15,none⟩
  |_=>⟨[(0,.v (.one (.ptr 0 0))),(3,.v (.one (.p (.int .i64 4))))],[.obj 50 [.ptr 1 0,.ptr 2 0,.ptr 3 0,.ptr 4 0,.ptr 5 0],.pack [.obj 54 [.ptr 1 0,.ptr 2 0],.pack [.obj 124 [.row 1,.p (.int .i64 n)],.row .upl 81 l],.pack [.obj 156 [.row 1,.p (.int .i64 s)],.row .byte 5 b]],.abs (.cn cn0),.abs (.cn cn0),.abs (.cn cn0),.abs (.cn cn0)],15,none⟩) (fun i:Nat=>4 - i) 0 (by kernel_rfl) (by kernel_rfl) ?_ ?_
 · exact jM _
 rintro i h1 A hA
 obtain rfl|rfl|rfl|rfl|rfl:i=0∨i=1∨i=2∨i=3∨i=4:=by omega
 all_goals
  refine orcL ?_;go_invoke;refine orcS (by kernel_rfl) ?_
  simp only [zi,Nat.reduceAdd];subst hI;refine⟨fun c=> ?_,fun c=> ?_⟩
  all_goals first
   |exact absurd c (by decide)
   |exact⟨jb,by show IntKind.i64.min≤_∧_;decide,hA 1 (by decide) (by decide),jb⟩
   |exact⟨jb,by show IntKind.i64.min≤_∧_;decide,hA 2 (by decide) (by decide),jb⟩
   |exact⟨jb,by show IntKind.i64.min≤_∧_;decide,hA 3 (by decide) (by decide),jb⟩
   |exact⟨jb,by show IntKind.i64.min≤_∧_;decide,hA 4 (by decide) (by decide),jb⟩
   |exact⟨jb,jb⟩
def X7:Know Tryz.prog:=⟨41,X8,zd9⟩
def X6:Know Tryz.prog:=⟨41,fun I=>zx I (X8 I),zf zd9⟩
end Go.Proofs.YtkjepecoodjbmaaGreatDoor
namespace Go.Proofs.YtkjepecoodjbmaaGreatDoor
open Go Go.Sep Go.Ab
set_option maxRecDepth 100000
theorem outK {k:Int} (h:k<0∨4≤k):(∃ j:Nat,k=Int.negSucc j)∨(∃ j:Nat,k=Int.ofNat (j+4)):=by
 rcases k with j|j
 · refine .inr ⟨j - 4,?_⟩
   have:(Int.ofNat j)=(j:Int):=rfl;rw [this] at h
   rw [show j - 4+4=j by omega]
 · exact .inl ⟨j,rfl⟩
def UJ (I:Alg):KU
 |[.v (.one (.ptr 0 0)),.v (.one (.p (.int .i64 k))),.v (.one (.p (.list .byte x)))],[.obj 50 [.ptr 1 0,.ptr 2 0,.ptr 3 0,.ptr 4 0,.ptr 5 0],.pack [.obj 54 [.ptr 1 0,.ptr 2 0],.pack [.obj 124 [.row 1,.p (.int .i64 n)],.row .upl 81 l],.pack [.obj 156 [.row 1,.p (.int .i64 s)],.row .byte 5 b]],.abs (.cn c0),.abs (.cn c1),.abs (.cn c2),.abs (.cn c3)]=>(fun(l:List Upl) (b x:Str)=>(some (.one ⟨I.hid (k<0∨4≤k),(.ret (.tup [.one (.p (.list .byte (I.hid ([])))),.one (.p (.int .i64 1))])),[.obj 50 [.ptr 1 0,.ptr 2 0,.ptr 3 0,.ptr 4 0,.ptr 5 0],.pack [.obj 54 [.ptr 1 0,.ptr 2 0],.pack [.obj 124 [.row 1,.p (.int .i64 n)],.row .upl 81 l],.pack [.obj 156 [.row 1,.p (.int .i64 s)],.row .byte 5 b]],.abs (.cn c0),.abs (.cn c1),.abs (.cn c2),.abs (.cn c3)]⟩):Option CT)) l b x
 |_,_=>none
theorem zh5:zu Tryz.prog 14 (UJ alg):=by
 intro args hp r h;unfold UJ at h;split at h<;>cases h
 rename_i k x n l s b c0 c1 c2 c3
 revert l;intro(l:List Upl)
 simp only [CT.Good,zh];intro hneed;have hk:=outK hneed
 refine spH Tryz.func14 (by kernel_rfl) { cfgG with rl:=[0],keep:=some [0,1,2,6,7,8,10,37,38,39]} [zbX,zbW,zbU,zbT,Rf,S9,SY,SX,SV,SS,SQ,SN,zh4,zh3,zh2,zh1,zh0,zhZ,zhY,zhX] (by kernel_rfl) ?_
 intro I X hI hX
 rcases hk with⟨j,rfl⟩|⟨j,rfl⟩
 all_goals
  refine orcL ?_;go_invoke;refine orcS (by kernel_rfl) ?_
  simp only [zi,Nat.reduceAdd];subst hI;simp only [nrmA,nrmB,nrlB,reduceCtorEq]
  (repeat' (first|refine ja ?_ ?_|intro _))<;>first|omega|exact jb|exact jc ‹False›|skip
def zrW:Know Tryz.prog:=⟨14,UJ,zh5⟩
def zrV:Know Tryz.prog:=⟨14,fun I=>zx I (UJ I),zf zh5⟩
def UI (I:Alg):KU
 |[.v (.one (.ptr 0 0)),.v (.one (.p (.int .i64 k)))],[.obj 50 [.ptr 1 0,.ptr 2 0,.ptr 3 0,.ptr 4 0,.ptr 5 0],.pack [.obj 54 [.ptr 1 0,.ptr 2 0],.pack [.obj 124 [.row 1,.p (.int .i64 n)],.row .upl 81 l],.pack [.obj 156 [.row 1,.p (.int .i64 s)],.row .byte 5 b]],.abs (.cn c0),.abs (.cn c1),.abs (.cn c2),.abs (.cn c3)]=>(fun(l:List Upl) (b:Str)=>(some (.one ⟨I.hid (k<0∨4≤k),(.ret (.v (.one (.p (.int .i64 1))))),[.obj 50 [.ptr 1 0,.ptr 2 0,.ptr 3 0,.ptr 4 0,.ptr 5 0],.pack [.obj 54 [.ptr 1 0,.ptr 2 0],.pack [.obj 124 [.row 1,.p (.int .i64 n)],.row .upl 81 l],.pack [.obj 156 [.row 1,.p (.int .i64 s)],.row .byte 5 b]],.abs (.cn c0),.abs (.cn c1),.abs (.cn c2),.abs (.cn c3)]⟩):Option CT)) l b
 |_,_=>none
theorem zhW:zu Tryz.prog 20 (UI alg):=by
 intro args hp r h;unfold UI at h;split at h<;>cases h
 rename_i k n l s b c0 c1 c2 c3
 revert l;intro(l:List Upl)
 simp only [CT.Good,zh];intro hneed;have hk:=outK hneed
 refine spH Tryz.func20 (by kernel_rfl) { cfgG with keep:=some [0,1,4,5]} [xO,xN,zpC,zpB,XK,XJ,zhV,zhU,zhT,zhS,zhR,zhQ,zhP,zhO] (by kernel_rfl) ?_
 intro I X hI hX
 rcases hk with⟨j,rfl⟩|⟨j,rfl⟩
 all_goals
  refine orcL ?_;go_invoke;refine orcS (by kernel_rfl) ?_
  simp only [zi,Nat.reduceAdd];subst hI;simp only [nrmA,nrmB,nrlB,reduceCtorEq]
  (repeat' (first|refine ja ?_ ?_|intro _))<;>first|omega|exact jb|exact jc ‹False›|skip
def zrU:Know Tryz.prog:=⟨20,UI,zhW⟩
def zrT:Know Tryz.prog:=⟨20,fun I=>zx I (UI I),zf zhW⟩
def zfM (I:Alg):KU
 |[.v (.one (.ptr 0 0))],[.pack [.obj 54 [.ptr 1 0,.ptr 2 0],.pack [.obj 124 [.row 1,.p (.int .i64 n)],.row .upl 81 l],.pack [.obj 156 [.row 1,.p (.int .i64 s)],.row .byte 5 b]]]=>(fun(l:List Upl) (b:Str)=>(some (.one ⟨I.hid (True),(.ret (.v (.one (.ptr 1 0)))),[.pack [.obj 54 [.ptr 1 0,.ptr 2 0],.pack [.obj 124 [.row 1,.p (.int .i64 n)],.row .upl 81 l],.pack [.obj 156 [.row 1,.p (.int .i64 s)],.row .byte 5 b]],.obj 50 [.ptr 0 0,.ptr 2 0,.ptr 3 0,.ptr 4 0,.ptr 5 0],.abs (.cn cn0),.abs (.cn cn0),.abs (.cn cn0),.abs (.cn cn0)]⟩):Option CT)) l b
 |_,_=>none
theorem zrS:zu Tryz.prog 11 (zfM alg):=by
 intro args hp r h;unfold zfM at h;split at h<;>cases h
 rename_i n l s b
 revert l;intro(l:List Upl)
 simp only [CT.Good,zh];intro _
 refine spH Tryz.func11 (by kernel_rfl) { cfgG with keep:=some [0,2,3]} [X7,X6] (by kernel_rfl) ?_
 intro I X hI hX
 refine orcL ?_;go_invoke;refine orcS (by kernel_rfl) ?_
 simp only [zi,Nat.reduceAdd];subst hI;simp only [nrmA,nrmB,nrlB,reduceCtorEq,HO.pack.injEq,HO.obj.injEq]
def zx0:Know Tryz.prog:=⟨11,zfM,zrS⟩
def zxZ:Know Tryz.prog:=⟨11,fun I=>zx I (zfM I),zf zrS⟩
end Go.Proofs.YtkjepecoodjbmaaGreatDoor
namespace Go.Proofs
open Go.Shelf
def Tryz.lays150_ren:Go.Shelf.Ren:=⟨fun|150=>143|153=>194|152=>232|226=>233|227=>234|228=>235|137=>231|119=>262|224=>263|225=>264|217=>261|266=>282|n=>n,fun|9=>9|4=>4|3=>3|5=>5|21=>21|117=>275|116=>274|0=>0|46=>117|124=>295|n=>n,fun|n=>n⟩
theorem Tryz.lays150:Go.Proofs.Lays.n150 Tryz.prog Tryz.lays150_ren:= {
 mixed:=by kernel_rfl
 f119:=Tryz.func262.trans (congrArg some (by kernel_rfl))
 f137:=Tryz.func231.trans (congrArg some (by kernel_rfl))
 f150:=Tryz.func143.trans (congrArg some (by kernel_rfl))
 f152:=Tryz.func232.trans (congrArg some (by kernel_rfl))
 f153:=Tryz.func194.trans (congrArg some (by kernel_rfl))
 f217:=Tryz.func261.trans (congrArg some (by kernel_rfl))
 f224:=Tryz.func263.trans (congrArg some (by kernel_rfl))
 f225:=Tryz.func264.trans (congrArg some (by kernel_rfl))
 f226:=Tryz.func233.trans (congrArg some (by kernel_rfl))
 f227:=Tryz.func234.trans (congrArg some (by kernel_rfl))
 f228:=Tryz.func235.trans (congrArg some (by kernel_rfl))
 f266:=Tryz.func282.trans (congrArg some (by kernel_rfl))
 t0:=Tryz.underlying0
 a0:=Tryz.isAgg0
 z0:=Tryz.sizeOf0
 v0:=Tryz.zeroValue0
 t3:=Tryz.underlying3
 a3:=Tryz.isAgg3
 z3:=Tryz.sizeOf3
 v3:=Tryz.zeroValue3
 t4:=Tryz.underlying4
 a4:=Tryz.isAgg4
 z4:=Tryz.sizeOf4
 v4:=Tryz.zeroValue4
 t5:=Tryz.underlying5
 a5:=Tryz.isAgg5
 z5:=Tryz.sizeOf5
 v5:=Tryz.zeroValue5
 t9:=Tryz.underlying9
 a9:=Tryz.isAgg9
 z9:=Tryz.sizeOf9
 v9:=Tryz.zeroValue9
 t21:=Tryz.underlying21
 a21:=Tryz.isAgg21
 z21:=Tryz.sizeOf21
 v21:=Tryz.zeroValue21
 t46:=Tryz.underlying117
 a46:=Tryz.isAgg117
 z46:=Tryz.sizeOf117
 v46:=Tryz.zeroValue117
 t116:=Tryz.underlying274
 a116:=Tryz.isAgg274
 z116:=Tryz.sizeOf274
 t117:=Tryz.underlying275
 a117:=Tryz.isAgg275
 z117:=Tryz.sizeOf275
 v117:=Tryz.zeroValue275
 t124:=Tryz.underlying295
 a124:=Tryz.isAgg295
 z124:=Tryz.sizeOf295
 v124:=Tryz.zeroValue295}
open Go.RowKit Go.Lib in
theorem Tryz.strings_ContainsAny (hv116: ∀ w,(zeroValue 274).run Tryz.prog w=.ok (.agg (Array.replicate 256 (.bool false))) w) (s chars:ByteArray) (w:World) (hs:s.size<4294967281) (hcs:chars.size<4294967281) (has: ∀ (j:Nat) b,s.data.toList[j]? =some b→b.toNat<128) (hac: ∀ (j:Nat) b,chars.data.toList[j]? =some b→b.toNat<128):
 Calls Tryz.prog 143 #[.string s,.string chars] w fun e w'=>e=.returned (.bool (Lib.containsAny s.data.toList chars.data.toList))∧Below w.heap.size w w':=Any.strings_ContainsAny Tryz.lays150 hv116 (by kernel_rfl) s chars w hs hcs has hac
end Go.Proofs
namespace Go.Proofs.YtkjepecoodjbmaaGreatDoor
open Go Go.Sep Go.Ab
set_option maxRecDepth 100000
theorem zAg (w:World):(zeroValue 273).run Tryz.prog w=.ok (.agg (Array.replicate 256 (.bool false))) w:=by
 kernel_rfl
theorem zwS {s:Str} (h: ∀ x ∈ s,x.toNat<128): ∀ (j:Nat) (b:UInt8),(Sep.S s).data.toList[j]? =some b→b.toNat<128:=fun j b hj=>h b (List.mem_of_getElem? hj)
def ul (I:Alg):KU
 |[.v (.one (.p (.str s))),.v (.one (.p (.str p)))],[]=>(fun(s p:Str)=>(some (.one ⟨I.hid (s.length≤1000000∧p=[32,9]∧∀ x ∈ s,x.toNat<128),(.ret (.v (.one (.p (.bool (I.hid (Lib.containsAny s p))))))),[]⟩):Option CT)) s p
 |_,_=>none
theorem Xi:zu Tryz.prog 143 (ul alg):=by
 intro args hp r h;unfold ul at h;split at h<;>cases h
 rename_i s p;simp only [CT.Good,zh];intro hneed;obtain⟨g1,g3,g4⟩:=hneed;subst g3
 refine Spc.of_below ⟨_,Tryz.func143,by kernel_rfl,by kernel_rfl⟩ fun S bs w vs _ hM=> ?_
 obtain⟨v,r,rfl⟩: ∃ v r,vs=v::r:=by cases vs with|nil=>exact hM.elim|cons v r=>exact⟨v,r,rfl⟩
 obtain⟨h1,hM⟩:=hM
 obtain⟨v2,r2,rfl⟩: ∃ v r2,r=v::r2:=by cases r with|nil=>exact hM.elim|cons v r=>exact⟨v,r,rfl⟩
 obtain⟨h2,hM⟩:=hM
 obtain rfl:r2=[]:=by cases r2 with|nil=>rfl|cons v r=>exact hM.elim
 cases h1 with
 | str _ hl1=>
   cases h2 with
   | str _ hl2=>
     refine⟨.bool (Lib.containsAny s [32,9]),.bool _,(Tryz.strings_ContainsAny zAg (Sep.S s) (Sep.S [32,9]) w (by show s.length<_;omega) (by decide) (zwS g4) (zwS (by decide))).mono fun e w' h=> ?_⟩
     exact⟨h.1,h.2⟩
def Xh:Know Tryz.prog:=⟨143,ul,Xi⟩
def Xg:Know Tryz.prog:=⟨143,fun I=>zx I (ul I),zf Xi⟩
def ZV (I:Alg):KU
 |[.v (.agg [.p (.str m),.p (.str t),.p (.int .i64 mi),.p (.list .fld fs),.p (.int .i64 le)]),.v (.one (.p (.list .byte b)))],[]=>(fun(m t:Str) (fs:List Fld) (b:Str)=>(some (.one ⟨I.hid ((m.length≤1000000∧t.length≤1000000)∧(fs.length≤1000∧∀ f ∈ fs,f.name.length≤1000000∧f.value.length≤1000000)∧b.length≤1000000∧(∀ x ∈ t,x.toNat<128)),(.ret (.tup [.one (.p (.list .byte (I.hid (rqwT m t fs b)))),.one (.p (.int .i64 (I.hid (rqwC m t fs b))))])),[]⟩):Option CT)) m t fs b
 |_,_=>none
theorem zbS:zu Tryz.prog 104 (ZV alg):=by
 intro args hp r h;unfold ZV at h;split at h<;>cases h
 rename_i m t mi fs le b
 revert fs;intro(fs:List Fld)
 simp only [CT.Good,zh];intro hneed;obtain⟨⟨hm1,ht1⟩,⟨hfl,hf⟩,hb,hasc⟩:=hneed;generalize hc:rqwC m t fs b=c;generalize ht:rqwT m t fs b=T;have hbl:=xq (b.length:Int);have hx0:=Zt fs qB;have hx1:=Zt fs Vt
 refine spH Tryz.func104 (by kernel_rfl) { rl:=[0],keep:=some [0,1,2,4,5,6,8,9,11,12,13,79,80,81]} [rF,rE,wU,wS,zeQ,zeP,Vo,Vm,Xf,Xe,Zj,Zi,xO,xN,Xh,Xg] (by kernel_rfl) ?_
 intro I X hI hX
 refine orcL ?_;go_invoke;refine orcS (by kernel_rfl) ?_
 simp only [zi,Nat.reduceAdd];rw [show([99,111,110,116,101,110,116,45,108,101,110,103,116,104]:Str)=qB from rfl,show([116,114,97,110,115,102,101,114,45,101,110,99,111,100,105,110,103]:Str)=Vt from rfl,show([104,111,115,116]:Str)=ZF from rfl]
 have hk1:qB.length≤1000000:=by decide
 have hk2:Vt.length≤1000000:=by decide
 have hk3:ZF.length≤1000000:=by decide
 (repeat' (first|refine ja ?_ ?_|intro _))
 all_goals try(subst hI;(simp only [nrmA,nrmB,nrlB,reduceCtorEq] at *);first|done|trivial|omega|exact⟨ht1,rfl,hasc⟩|exact hasc _ ‹_›|exact⟨hfl,by assumption,hf⟩|(simp only [jk,jh,ji];omega)|(unfold rqwT at ht;unfold rqwC rqHd at ht hc;((repeat(first|rewrite [if_pos (by first|omega|assumption|(simp only [*,or_self,or_true,true_or,or_false,false_or,jf,jg,jd,je,and_self,and_true,true_and];done)|(simp only [*];omega)|(simp [*];done)|(simp [*];omega))] at hc|rewrite [if_neg (by first|omega|assumption|(simp only [*,or_self,or_true,true_or,or_false,false_or,jf,jg,jd,je,and_self,and_true,true_and];done)|(simp only [*];omega)|(simp [*];done)|(simp [*];omega))] at hc)));subst hc;((repeat(first|rewrite [if_pos (by first|omega|assumption|(simp only [*,or_self,or_true,true_or,or_false,false_or,jf,jg,jd,je,and_self,and_true,true_and];done)|(simp only [*];omega)|(simp [*];done)|(simp [*];omega))] at ht|rewrite [if_neg (by first|omega|assumption|(simp only [*,or_self,or_true,true_or,or_false,false_or,jf,jg,jd,je,and_self,and_true,true_and];done)|(simp only [*];omega)|(simp [*];done)|(simp [*];omega))] at ht)));subst ht;exact⟨rfl,rfl⟩))
 have hok:wZ m=true∧Lib.hasPrefix t [47]=true∧Lib.containsAny t [32,9]=false∧yN t=true∧(rqHd m t).length≤200∧b.length≤4000∧fs.length≤15∧(valsF fs qB).length+(valsF fs Vt).length=0∧(oneF (valsF fs ZF)).2=0:=by
  subst hI;unfold rqHd;simp only [nrmA,nrmB,nrlB,reduceCtorEq] at *
  exact⟨by simpa using ‹wZ m=_›,by simpa using ‹Lib.hasPrefix t [47]=_›,by simpa using ‹Lib.containsAny t [32,9]=_›,by simpa using ‹yN t=_›,by omega,by omega,by omega,by omega,by assumption⟩
 obtain⟨k1,k2,k3,k4,k5,k6,k7,k8,k9⟩:=hok
 have hc2:c=badF fs:=by
  rw [← hc,rqwC,if_neg (by rw [k1];simp),if_neg (by rw [k2];simp),if_neg (by rw [k3];simp),if_neg (by rw [k4];simp),if_neg (by omega),if_neg (by omega),if_neg (by omega),if_neg (by omega),if_neg (fun h=>h k9)]
 have ht2:badF fs=0→T=rqHd m t++[13,10]++xE fs++YE b.length++b:=fun h=>by
  rw [← ht,rqwT,hc,hc2,if_pos h]
 have ht3:badF fs≠0→T=[]:=fun h=>by rw [← ht,rqwT,hc,hc2,if_neg h]
 refine lpH hI [rF,rE,wU,wS,zeQ,zeP,Vo,Vm,Xf,Xe,Zj,Zi,xO,xN,Xh,Xg] hX [1,2,5,9,79,80,81] (fun(g:Nat × Str)=>match g with|(i,o)=>i≤fs.length∧o=rqHd m t++[13,10]++xE (fs.take i)∧badF fs=badF (fs.drop i)) (fun(g:Nat × Str)=>match g with|(i,o)=>⟨[(1,.v (.one (.p (.list .byte b)))),(2,.v (.one (.ptr 0 0))),(5,.v (.one (.p (.int .i64 0)))),(9,.v (.one (.row 1))),(79,.v (.one (.p (.list .fld fs)))),(80,.v (.one (.p (.int .i64 ((I.len (α:=Fld) fs)))))),(81,.v (.one (.p (.int .i64 i))))],[.pack [.obj 30 [.p (.str m),.p (.str t),.p (.int .i64 mi),.p (.list .fld fs),.p (.int .i64 le)]],.row .byte 5 o],108,none⟩) (fun(g:Nat × Str)=>match g with|(i,o)=>fs.length - i) (0,I.app (I.app (I.app (I.app m [32]) t) [32,72,84,84,80,47,49,46,49]) [13,10]) (by kernel_rfl) (by kernel_rfl) ?_ ?_
 · refine⟨jM _,?_,rfl⟩
   subst hI;simp only [Xm,zh,rqHd,List.take_zero,xE,List.append_nil]
 rintro⟨i,o⟩ ⟨h1,h2,h3⟩ A hA;simp only at hA h1 h2 h3
 refine orcL ?_;go_invoke;refine orcS (by kernel_rfl) ?_
 simp only [zi,Nat.reduceAdd];subst hI;simp only [nrmA,nrmB,nrlB,reduceCtorEq]
 have hx:i<fs.length→(fs.getD i ⟨[],[]⟩) ∈ fs:=fun h=>by rw [show fs.getD i ⟨[],[]⟩=fs[i] by simp [h]];exact List.getElem_mem h
 have hd:i<fs.length→_:=fun h=>zi3 (fs:=fs) (i:=i) h;have hk:i<fs.length→_:=fun h=>zet (fs:=fs) (i:=i) h
 have hol:(xE (fs.take i)).length≤202 * 16:=by
  have:=Xa (fs.take i);rw [jv] at this;omega
 have hol2:o.length≤4000:=by rw [h2,jk,jk,jh,jh,ji];omega
 have hend: ¬ i<fs.length→badF fs=0∧xE (fs.take i)=xE fs:=fun h=>by
  rw [h3,jF (by omega),jq (by omega)];exact⟨rfl,rfl⟩
 have hfi:=fun h=>hf _ (hx h);have htl:=fun f=>zby f;generalize fs.getD i ⟨[],[]⟩=x at *;have e0:(⟨x.name,x.value⟩:Fld)=x:=rfl;rw [e0];have htl:=htl x
 refine⟨fun c1=>⟨⟨by omega,by omega⟩,⟨by omega,by omega⟩,hfi (by omega),fun c2=> ?_,fun c2=>⟨?_,?_,by omega,?_⟩⟩,fun c1=> ?_⟩
 · have hd:=hd (by omega)
   rw [if_neg c2] at hd
   exact⟨(ht3 (by rw [h3,hd];exact c2)).symm,by rw [hc2,h3,hd]⟩
 · simp only [jh,ji];omega
 · simp only [jk,jh,ji];omega
 · have hd:=hd (by omega)
   rw [if_pos c2] at hd
   exact hA (i+1,o++((textF x).1++[13,10])) ⟨by simp only;omega,by simp only;rw [hk (by omega),h2];simp only [jo],by simp only;rw [h3,hd]⟩ (by simp only;omega)
 · obtain⟨e1,e2⟩:=hend (by omega)
   simp only [jk,jh,ji]
   refine⟨by omega,by omega,by omega,by omega,by omega,?_,by rw [hc2,e1]⟩
   rw [ht2 e1,h2,e2];unfold YE;simp only [jo]
def zjG:Know Tryz.prog:=⟨104,ZV,zbS⟩
def zjF:Know Tryz.prog:=⟨104,fun I=>zx I (ZV I),zf zbS⟩
end Go.Proofs.YtkjepecoodjbmaaGreatDoor
namespace Go.Proofs.YtkjepecoodjbmaaGreatDoor
open Go Go.Sep Go.Ab
set_option maxRecDepth 100000
def X5 (I:Alg):KU
 |[.v (.one (.ptr 0 0))],[.obj 50 [.ptr 1 0,.ptr 2 0,.ptr 3 0,.ptr 4 0,.ptr 5 0],.pack [.obj 54 [.ptr 1 0,.ptr 2 0],.pack [.obj 124 [.row 1,.p (.int .i64 n)],.row .upl 81 l],.pack [.obj 156 [.row 1,.p (.int .i64 s)],.row .byte 5 b]],.abs (.cn c0),.abs (.cn c1),.abs (.cn c2),.abs (.cn c3)]=>(fun(l:List Upl) (b:Str)=>(some (.one ⟨I.hid (True),(.ret (.tup [])),[.obj 50 [.ptr 1 0,.ptr 6 0,.ptr 7 0,.ptr 8 0,.ptr 9 0],.pack [.obj 54 [.ptr 1 0,.ptr 2 0],.pack [.obj 124 [.row 1,.p (.int .i64 n)],.row .upl 81 l],.pack [.obj 156 [.row 1,.p (.int .i64 s)],.row .byte 5 b]],.abs (.cn c0),.abs (.cn c1),.abs (.cn c2),.abs (.cn c3),.abs (.cn cn0),.abs (.cn cn0),.abs (.cn cn0),.abs (.cn cn0)]⟩):Option CT)) l b
 |_,_=>none
theorem zd8:zu Tryz.prog 41 (X5 alg):=by
 intro args hp r h;unfold X5 at h;split at h<;>cases h
 rename_i n l s b c0 c1 c2 c3
 revert l;intro(l:List Upl)
 simp only [CT.Good,zh];intro _
 refine spH Tryz.func41 (by kernel_rfl) { cfgG with keep:=some [0,2,3]} [XK,XJ,X7,X6] (by kernel_rfl) ?_
 intro I X hI hX
 refine orcL ?_;go_invoke;refine orcS (by kernel_rfl) ?_
 simp only [zi,Nat.reduceAdd]
 refine lpH hI [XK,XJ,X7,X6] hX [0,3] (fun i:Nat=>i≤4) (fun i:Nat=>match i with
  |0=>⟨[(0,.v (.one (.ptr 0 0))),(3,.v (.one (.p (.int .i64 0))))],[.obj 50 [.ptr 1 0,.ptr 2 0,.ptr 3 0,.ptr 4 0,.ptr 5 0],.pack [.obj 54 [.ptr 1 0,.ptr 2 0],.pack [.obj 124 [.row 1,.p (.int .i64 n)],.row .upl 81 l],.pack [.obj 156 [.row 1,.p (.int .i64 s)],.row .byte 5 b]],.abs (.cn c0),.abs (.cn c1),.abs (.cn c2),.abs (.cn c3)],15,none⟩
  |1=>⟨[(0,.v (.one (.ptr 0 0))),(3,.v (.one (.p (.int .i64 1))))],[.obj 50 [.ptr 1 0,.ptr 6 0,.ptr 3 0,.ptr 4 0,.ptr 5 0],.pack [.obj 54 [.ptr 1 0,.ptr 2 0],.pack [.obj 124 [.row 1,.p (.int .i64 n)],.row .upl 81 l],.pack [.obj 156 [.row 1,.p (.int .i64 s)],.row .byte 5 b]],.abs (.cn c0),.abs (.cn c1),.abs (.cn c2),.abs (.cn c3),.abs (.cn cn0)],15,none⟩
  |2=>⟨[(0,.v (.one (.ptr 0 0))),(3,.v (.one (.p (.int .i64 2))))],[.obj 50 [.ptr 1 0,.ptr 6 0,.ptr 7 0,.ptr 4 0,.ptr 5 0],.pack [.obj 54 [.ptr 1 0,.ptr 2 0],.pack [.obj 124 [.row 1,.p (.int .i64 n)],.row .upl 81 l],.pack [.obj 156 [.row 1,.p (.int .i64 s)],.row .byte 5 b]],.abs (.cn c0),.abs (.cn c1),.abs (.cn c2),.abs (.cn c3),.abs (.cn cn0),.abs (.cn cn0)],15,none⟩
  |3=>⟨[(0,.v (.one (.ptr 0 0))),(3,.v (.one (.p (.int .i64 3))))],[.obj 50 [.ptr 1 0,.ptr 6 0,.ptr 7 0,.ptr 8 0,.ptr 5 0],.pack [.obj 54 [.ptr 1 0,.ptr 2 0],.pack [.obj 124 [.row 1,.p (.int .i64 n)],.row .upl 81 l],.pack [.obj 156 [.row 1,.p (.int .i64 s)],.row .byte 5 b]],.abs (.cn c0),.abs (.cn c1),.abs (.cn c2),.abs (.cn c3),.abs (.cn cn0),.abs (.cn cn0),.abs (.cn cn0)],15,none⟩
  |_=>⟨[(0,.v (.one (.ptr 0 0))),(3,.v (.one (.p (.int .i64 4))))],[.obj 50 [.ptr 1 0,.ptr 6 0,.ptr 7 0,.ptr 8 0,.ptr 9 0],.pack [.obj 54 [.ptr 1 0,.ptr 2 0],.pack [.obj 124 [.row 1,.p (.int .i64 n)],.row .upl 81 l],.pack [.obj 156 [.row 1,.p (.int .i64 s)],.row .byte 5 b]],.abs (.cn c0),.abs (.cn c1),.abs (.cn c2),.abs (.cn c3),.abs (.cn cn0),.abs (.cn cn0),.abs (.cn cn0),.abs (.cn cn0)],15,none⟩) (fun i:Nat=>4 - i) 0 (by kernel_rfl) (by kernel_rfl) ?_ ?_
 · exact jM _
 rintro i h1 A hA
 obtain rfl|rfl|rfl|rfl|rfl:i=0∨i=1∨i=2∨i=3∨i=4:=by omega
 all_goals
  refine orcL ?_;go_invoke;refine orcS (by kernel_rfl) ?_
  simp only [zi,Nat.reduceAdd];subst hI;refine⟨fun c=> ?_,fun c=> ?_⟩
  all_goals first
   |exact absurd c (by decide)
   |exact⟨jb,by show IntKind.i64.min≤_∧_;decide,hA 1 (by decide) (by decide),jb⟩
   |exact⟨jb,by show IntKind.i64.min≤_∧_;decide,hA 2 (by decide) (by decide),jb⟩
   |exact⟨jb,by show IntKind.i64.min≤_∧_;decide,hA 3 (by decide) (by decide),jb⟩
   |exact⟨jb,by show IntKind.i64.min≤_∧_;decide,hA 4 (by decide) (by decide),jb⟩
   |exact⟨jb,jb⟩
def zoE:Know Tryz.prog:=⟨41,X5,zd8⟩
def zoD:Know Tryz.prog:=⟨41,fun I=>zx I (X5 I),zf zd8⟩
def cfgP:Cfg:= { sl:=cfgG.sl++[⟨85,1,.int,some 3⟩,⟨54,1000001,.byte,none⟩]}
def zfr (I:Alg):KU
 |[],[]=>some (.one ⟨I.hid (True),(.ret (.v (.one (.ptr 0 0)))),[.pack [.obj 85 [.ptr 1 0,.row 7],.obj 50 [.ptr 2 0,.ptr 3 0,.ptr 4 0,.ptr 5 0,.ptr 6 0],.pack [.obj 54 [.ptr 1 0,.ptr 2 0],.pack [.obj 124 [.row 1,.p (.int .i64 0)],.row .upl 81 (I.hid ([]))],.pack [.obj 156 [.row 1,.p (.int .i64 0)],.row .byte 5 (I.hid ([]))]],.abs (.cn cn0),.abs (.cn cn0),.abs (.cn cn0),.abs (.cn cn0),.row .int 3 (I.hid ([]))]]⟩)
 |_,_=>none
theorem zqZ:zu Tryz.prog 27 (zfr alg):=by
 intro args hp r h;unfold zfr at h;split at h<;>cases h
 simp only [CT.Good,zh];intro _
 refine spH Tryz.func27 (by kernel_rfl) { cfgP with keep:=some [0]} [zpJ,zpI,zx0,zxZ] (by kernel_rfl) ?_
 intro I X hI hX
 refine orcL ?_;go_invoke;refine orcS (by kernel_rfl) ?_
 simp only [zi,Nat.reduceAdd];subst hI;simp only [nrmA,nrmB,nrlB,reduceCtorEq,HO.pack.injEq,HO.obj.injEq]
def zfq:Know Tryz.prog:=⟨27,zfr,zqZ⟩
def zfp:Know Tryz.prog:=⟨27,fun I=>zx I (zfr I),zf zqZ⟩
theorem zxd {q:Sto} {id:Int} (h: ¬ wsC q (begE id)=0) (t:List Int):uU q id=wsS q (begE id)∧QE q id=⟨wsC q (begE id),[],[]⟩∧zbO q id t=t:=by
 unfold QE zbO uU;rw [if_pos h,if_pos h,if_pos h];exact⟨rfl,rfl,rfl⟩
theorem ztX {q:Sto} {id:Int} (h:wsC q (begE id)=0) (t:List Int):uU q id=syS (wsS q (begE id))∧QE q id=⟨rqwC YV (sJ id) (ZR (getU (wsS q (begE id)).l id).note) (getU (wsS q (begE id)).l id).bytes,[],rqwT YV (sJ id) (ZR (getU (wsS q (begE id)).l id).note) (getU (wsS q (begE id)).l id).bytes⟩∧zbO q id t=t++[id]:=by
 have e:uU q id=syS (wsS q (begE id)):=by unfold uU;rw [if_neg (fun k=>k h)]
 unfold QE zbO zbN;rw [e,if_neg (fun k=>k h),if_neg (fun k=>k h)];exact⟨rfl,rfl,rfl⟩
theorem zva {l:List Upl} {n:Int} (h:zL l n) (id:Int):(getU l id).note.length≤100∧(getU l id).bytes.length≤2000:=by
 unfold getU
 split
 · rename_i hk
   have:=h.each _ (vk hk);exact⟨this.nl,this.bl⟩
 · exact⟨jM _,jM _⟩
theorem zrM: ∀ f ∈ [zfK],f.name.length≤1000000∧f.value.length≤1000000:=by decide
theorem zxc {x:Str} (h:x.length≤100): ∀ f ∈ [zfK]++[⟨zc3,x⟩],f.name.length≤1000000∧f.value.length≤1000000:=fun f hf=>by
 rcases List.mem_append.1 hf with k|k
 · exact zrM f k
 · rw [List.mem_singleton.1 k];exact⟨by show zc3.length≤_;decide,by show x.length≤_;omega⟩
theorem zk0: ∀ f n,∀ x ∈ txtN 10 f n,x.toNat<128
 |0,n=>fun x h=>by cases h
 | f +1,n=>fun x h=>by
   have hd: ∀ d,d<10→(dgN d).toNat<128:=fun d h=>(by decide+kernel: ∀ d:Fin 10,(dgN d.1).toNat<128) ⟨d,h⟩
   by_cases hn:n<10
   · rw [ZL hn] at h
     rw [List.mem_singleton.1 h];exact hd n hn
   · rw [YI hn] at h
     rcases List.mem_append.1 h with h|h
     · exact zk0 f _ x h
     · rw [List.mem_singleton.1 h];exact hd _ (Nat.mod_lt _ (by decide))
theorem ztJ (id:Int): ∀ x ∈ sJ id,x.toNat<128:=fun x h=>by
 rcases List.mem_append.1 h with h|h
 · exact(by decide: ∀ x ∈ ([47,116,97,107,101,47]:Str),x.toNat<128) x h
 · exact zk0 9 id.toNat x h
def zaC (I:Alg):KU
 |[.v (.one (.ptr 0 0)),.v (.one (.p (.int .i64 id)))],[.pack [.obj 85 [.ptr 1 0,.row 7],.obj 50 [.ptr 2 0,.ptr 3 0,.ptr 4 0,.ptr 5 0,.ptr 6 0],.pack [.obj 54 [.ptr 1 0,.ptr 2 0],.pack [.obj 124 [.row 1,.p (.int .i64 n)],.row .upl 81 l],.pack [.obj 156 [.row 1,.p (.int .i64 s)],.row .byte 5 b]],.abs (.cn c0),.abs (.cn c1),.abs (.cn c2),.abs (.cn c3),.row .int 3 t]]=>(fun(l:List Upl) (b:Str) (t:List Int)=>(some (.one ⟨I.hid (zL l n∧n≤200000∧b.length≤100000∧t.length≤1000000),(.ret (.v (.agg [.p (.int .i64 (I.hid ((QE ⟨l,n,b,s⟩ id).c))),.p (.list .byte (I.hid ([]))),.p (.list .byte (I.hid ((QE ⟨l,n,b,s⟩ id).u)))]))),[.pack [.obj 85 [.ptr 1 0,.row 7],.obj 50 [.ptr 2 0,.ptr 3 0,.ptr 4 0,.ptr 5 0,.ptr 6 0],.pack [.obj 54 [.ptr 1 0,.ptr 2 0],.pack [.obj 124 [.row 1,.p (.int .i64 (I.hid ((uU ⟨l,n,b,s⟩ id).n)))],.row .upl 81 (I.hid ((uU ⟨l,n,b,s⟩ id).l))],.pack [.obj 156 [.row 1,.p (.int .i64 (I.hid ((uU ⟨l,n,b,s⟩ id).s)))],.row .byte 5 (I.hid ((uU ⟨l,n,b,s⟩ id).b))]],.abs (.cn c0),.abs (.cn c1),.abs (.cn c2),.abs (.cn c3),.row .int 3 (I.hid (zbO ⟨l,n,b,s⟩ id t))]]⟩):Option CT)) l b t
 |_,_=>none
set_option maxHeartbeats 4000000 in
theorem zma:zu Tryz.prog 60 (zaC alg):=by
 intro args hp r h;unfold zaC at h;split at h<;>cases h
 rename_i id n l s b c0 c1 c2 c3 t
 revert l t;intro(l:List Upl) (t:List Int)
 simp only [CT.Good,zh];intro hneed;obtain⟨hs,hn,hb,ht⟩:=hneed;have h0:=fun h=>zxd (q:=⟨l,n,b,s⟩) (id:=id) h t;have h1:=fun h=>ztX (q:=⟨l,n,b,s⟩) (id:=id) h t
 have hid:wsC ⟨l,n,b,s⟩ (begE id)=0→0≤id∧id≤n:=fun h=>by
  obtain⟨k,_⟩:=VJ h;have:=hs.ids _ (at_mem k)
  have e:=uJ (l:=l) (id:=id) (by simpa using k)
  omega
 have hw:=zbk hs b (begE id);have hg:=zva hw id;generalize uU ⟨l,n,b,s⟩ id=Q at *;generalize QE ⟨l,n,b,s⟩ id=O at *;generalize zbO ⟨l,n,b,s⟩ id t=L at *;unfold wsC wsS syS at *
 refine spH Tryz.func60 (by kernel_rfl) { cfgP with fz:=[104],keep:=some [0,1,4,5,6,8,9,10]} [uM,uK,Ze,Zd,zjn,zjm,zN,zM,Zj,Zi,zjG,zjF] (by kernel_rfl) ?_
 intro I X hI hX
 refine orcL ?_;go_invoke;refine orcS (by kernel_rfl) ?_
 simp only [zi,Nat.reduceAdd];subst hI;simp only [nrmA,nrmB,nrlB,reduceCtorEq,HO.pack.injEq,HO.obj.injEq];rw [show(⟨5,id,0,[]⟩:Ent)=begE id from rfl];dsimp only at *;have hd:=xq id;generalize wrtC l n b (begE id)=C at *;generalize wrtL l n b (begE id)=l' at *;generalize wrtN l n b (begE id)=n' at *;generalize wrtB l n b (begE id)=b' at *;generalize getU l' id=u at *
 by_cases hC:C=0
 · have h1:=h1 hC
   have hid:=hid hC;obtain⟨e1,e2,e3⟩:=h1;subst e1 e2 e3;have hF0:=zrM;have hF1:=zxc hg.1;have hta:=ztJ id;unfold ZR sJ zfK zc3 YV at *;dsimp only
   (repeat' (first|refine ja ?_ ?_|intro _))<;>first|omega|exact jb|exact jc ‹False›|skip
   all_goals first
    |omega
    |exact hw
    |(simp only [jk,jh,ji];omega)
    |exact hta _ ‹_›
    |exact(hF1 _ ‹_›).1
    |exact(hF1 _ ‹_›).2
    |exact(hF0 _ ‹_›).1
    |exact(hF0 _ ‹_›).2
    |(rw [if_neg ‹¬ u.note=[]›];done)
    |(rw [if_neg ‹¬ u.note=[]›];rfl)
    |(rw [if_pos ‹u.note=[]›];done)
    |(rw [if_pos ‹u.note=[]›];rfl)
    |rfl
 · have h0:=h0 hC
   obtain⟨e1,e2,e3⟩:=h0;subst e1 e2 e3;dsimp only
   (repeat' (first|refine ja ?_ ?_|intro _))<;>first|omega|exact jb|exact jc ‹False›|skip
   all_goals rfl
def zuJ:Know Tryz.prog:=⟨60,zaC,zma⟩
def zuI:Know Tryz.prog:=⟨60,fun I=>zx I (zaC I),zf zma⟩
end Go.Proofs.YtkjepecoodjbmaaGreatDoor
namespace Go.Proofs.YtkjepecoodjbmaaGreatDoor
open Go Go.Sep Go.Ab
set_option maxRecDepth 100000
def PdN (g:GS) (t:List Int) (x:Stp):Prop:=∃ (N:Nat) (m:Int),GsI g m N∧N+x.bytes.length≤30000∧25000≤m∧m+12 * x.bytes.length≤199980∧t.length≤1000000
theorem kinds (k:Int):k=1∨k=2∨k=3∨k=4∨k=5∨(k≠1∧k≠2∧k≠3∧k≠4∧k≠5):=by omega
theorem zAM (j:Int):j=0∨j=1∨j=2∨j=3∨(∃ i:Nat,j=Int.negSucc i)∨(∃ i:Nat,j=Int.ofNat (i+4)):=by
 rcases Classical.em (j<0∨4≤j) with h|h
 · exact .inr (.inr (.inr (.inr (outK h))))
 · omega
theorem zxe (q:Sto) (id:Int):(QE q id).b=[]:=by unfold QE;split<;>rfl
def zmh (I:Alg):KU
 |[.v (.one (.ptr 0 0)),.v (.agg [.p (.int .i64 k),.p (.int .i64 j),.p (.int .i64 m),.p (.list .byte x)])],[.pack [.obj 85 [.ptr 1 0,.row 7],.obj 50 [.ptr 2 0,.ptr 3 0,.ptr 4 0,.ptr 5 0,.ptr 6 0],.pack [.obj 54 [.ptr 1 0,.ptr 2 0],.pack [.obj 124 [.row 1,.p (.int .i64 n)],.row .upl 81 l],.pack [.obj 156 [.row 1,.p (.int .i64 s)],.row .byte 5 b]],.abs (.cn c0),.abs (.cn c1),.abs (.cn c2),.abs (.cn c3),.row .int 3 t]]=>(fun(l:List Upl) (b:Str) (t:List Int) (x:Str)=>(some (.one ⟨I.hid (PdN ⟨⟨l,n,b,s⟩,c0,c1,c2,c3⟩ t ⟨k,j,m,x⟩),(.ret (.v (.agg [.p (.int .i64 (I.hid ((doO ⟨⟨l,n,b,s⟩,c0,c1,c2,c3⟩ ⟨k,j,m,x⟩).c))),.p (.list .byte (I.hid ((doO ⟨⟨l,n,b,s⟩,c0,c1,c2,c3⟩ ⟨k,j,m,x⟩).b))),.p (.list .byte (I.hid ((doO ⟨⟨l,n,b,s⟩,c0,c1,c2,c3⟩ ⟨k,j,m,x⟩).u)))]))),[.pack [.obj 85 [.ptr 1 0,.row 7],.obj 50 [.ptr 2 0,.ptr 3 0,.ptr 4 0,.ptr 5 0,.ptr 6 0],.pack [.obj 54 [.ptr 1 0,.ptr 2 0],.pack [.obj 124 [.row 1,.p (.int .i64 (I.hid ((doP ⟨⟨⟨l,n,b,s⟩,c0,c1,c2,c3⟩,t⟩ ⟨k,j,m,x⟩).g.q.n)))],.row .upl 81 (I.hid ((doP ⟨⟨⟨l,n,b,s⟩,c0,c1,c2,c3⟩,t⟩ ⟨k,j,m,x⟩).g.q.l))],.pack [.obj 156 [.row 1,.p (.int .i64 (I.hid ((doP ⟨⟨⟨l,n,b,s⟩,c0,c1,c2,c3⟩,t⟩ ⟨k,j,m,x⟩).g.q.s)))],.row .byte 5 (I.hid ((doP ⟨⟨⟨l,n,b,s⟩,c0,c1,c2,c3⟩,t⟩ ⟨k,j,m,x⟩).g.q.b))]],.abs (.cn (I.hid ((doP ⟨⟨⟨l,n,b,s⟩,c0,c1,c2,c3⟩,t⟩ ⟨k,j,m,x⟩).g.c0))),.abs (.cn (I.hid ((doP ⟨⟨⟨l,n,b,s⟩,c0,c1,c2,c3⟩,t⟩ ⟨k,j,m,x⟩).g.c1))),.abs (.cn (I.hid ((doP ⟨⟨⟨l,n,b,s⟩,c0,c1,c2,c3⟩,t⟩ ⟨k,j,m,x⟩).g.c2))),.abs (.cn (I.hid ((doP ⟨⟨⟨l,n,b,s⟩,c0,c1,c2,c3⟩,t⟩ ⟨k,j,m,x⟩).g.c3))),.row .int 3 (I.hid ((doP ⟨⟨⟨l,n,b,s⟩,c0,c1,c2,c3⟩,t⟩ ⟨k,j,m,x⟩).t))]]⟩):Option CT)) l b t x
 |_,_=>none
set_option maxHeartbeats 8000000 in
theorem zwe:zu Tryz.prog 29 (zmh alg):=by
 intro args hp r h;unfold zmh at h;split at h<;>cases h
 rename_i k j m x n l s b c0 c1 c2 c3 t
 revert l t;intro(l:List Upl) (t:List Int)
 simp only [CT.Good,zh];intro hneed;obtain⟨N,M,hg,hx,hM0,hM,ht⟩:=hneed;have hs:=hg.q.1;have hb:=hg.q.2.1;have hn:n≤M:=hg.q.2.2.1;have hs0:0≤s:=hg.q.2.2.2.1;have hs1:s≤b.length:=hg.q.2.2.2.2
 have hF: ∀ {c:Cn},CnI c N→FdN ⟨l,n,b,s⟩ c x∧FOk c.h.fields∧c.body.length≤100000:=fun h=>⟨⟨N,M,hg.q,h,hx,hM⟩,h.2.1,by have:=h.2.2.1;dsimp only at hx;omega⟩
 have f0:=hF hg.c0;have f1:=hF hg.c1;have f2:=hF hg.c2;have f3:=hF hg.c3;dsimp only at hs hb hx hM f0 f1 f2 f3;clear hF;generalize hO:doO ⟨⟨l,n,b,s⟩,c0,c1,c2,c3⟩ ⟨k,j,m,x⟩=O;generalize hP:doP ⟨⟨⟨l,n,b,s⟩,c0,c1,c2,c3⟩,t⟩ ⟨k,j,m,x⟩=P;obtain⟨oc,ob,ou⟩:=O;obtain⟨⟨⟨l',n',b',s'⟩,d0,d1,d2,d3⟩,t'⟩:=P;unfold doP doG doT at hP;unfold doO at hO;have hj:=zAM j;have hi0:inG 0=true:=rfl;have hi1:inG 1=true:=rfl;have hi2:inG 2=true:=rfl;have hi3:inG 3=true:=rfl;have hi4: ∀ i:Nat,inG (Int.negSucc i)=false:=fun i=>rfl
 have hi5: ∀ i:Nat,inG (Int.ofNat (i+4))=false:=fun i=>by unfold inG;rw [decide_eq_false (show ¬ Int.ofNat (i+4)<4 by rw [Int.ofNat_eq_natCast];omega),Bool.and_false]
 clear hM0
 have ht0:wrtC l n b (endE m)=0→zbw ⟨l,n,b,s⟩ m=⟨wrtL l n b (endE m),wrtN l n b (endE m),wrtB l n b (endE m),((wrtB l n b (endE m)).length:Int)⟩:=fun h=>by unfold zbw;rw [if_neg (fun k=>k h)];rfl
 have ht1: ¬ wrtC l n b (endE m)=0→zbw ⟨l,n,b,s⟩ m=⟨wrtL l n b (endE m),wrtN l n b (endE m),wrtB l n b (endE m),s⟩:=fun h=>by unfold zbw;rw [if_pos (show wsC ⟨l,n,b,s⟩ (endE m)≠0 from h)];rfl
 refine spH Tryz.func29 (by kernel_rfl) { cfgP with fz:=[14],keep:=some [0,1,3,4,5,6,7,9]} [zpL,zpK,zN,zM,zjl,zjk,zh4,zh3,zh2,zh1,zh0,zhZ,zhY,zhX,zrW,zrV,zhV,zhU,zhT,zhS,zhR,zhQ,zhP,zhO,zrU,zrT,X7,X6,zoE,zoD,zuJ,zuI] (by kernel_rfl) ?_
 intro I X hI hX
 rcases hj with rfl|rfl|rfl|rfl|⟨i,rfl⟩|⟨i,rfl⟩
 all_goals
  refine orcL ?_;go_invoke;refine orcS (by kernel_rfl) ?_
  simp only [zi,Nat.reduceAdd];subst hI;simp only [nrmA,nrmB,nrlB,reduceCtorEq,HO.pack.injEq,HO.obj.injEq,HO.abs.injEq,Gh.cn.injEq]
  try rw [show(⟨6,m,0,[]⟩:Ent)=endE m from rfl]
  rcases kinds k with rfl|rfl|rfl|rfl|rfl|⟨k1,k2,k3,k4,k5⟩
  all_goals
   simp [hi0,hi1,hi2,hi3,hi4,hi5,GS.at,GS.put,GS.set, *] at hP hO
   obtain⟨⟨e,rfl,rfl,rfl,rfl⟩,rfl⟩:=hP
   try(obtain⟨rfl,rfl,rfl⟩:=hO)
   (repeat' (first|refine ja ?_ ?_|intro _))<;>first|omega|exact jb|exact jc ‹False›|skip
   all_goals first
    |exact hs
    |exact f0.1
    |exact f1.1
    |exact f2.1
    |exact f3.1
    |exact f0.2.1.1
    |exact(f0.2.1.2 _ ‹_›).1
    |exact(f0.2.1.2 _ ‹_›).2
    |exact f1.2.1.1
    |exact(f1.2.1.2 _ ‹_›).1
    |exact(f1.2.1.2 _ ‹_›).2
    |exact f2.2.1.1
    |exact(f2.2.1.2 _ ‹_›).1
    |exact(f2.2.1.2 _ ‹_›).2
    |exact f3.2.1.1
    |exact(f3.2.1.2 _ ‹_›).1
    |exact(f3.2.1.2 _ ‹_›).2
    |rfl
    |(rw [e];done)
    |(obtain⟨rfl,rfl,rfl,rfl⟩:=e;rfl)
    |(have e:=(ht0 ‹_›).symm.trans e;cases e;rfl)
    |(have e:=(ht1 ‹_›).symm.trans e;cases e;rfl)
    |(have e0:=zxe ⟨l,n,b,s⟩ m;rw [hO] at e0 ⊢;cases e0;rfl)
    |(unfold crsQ at e;cases e;rfl)
def zmg:Know Tryz.prog:=⟨29,zmh,zwe⟩
def zmf:Know Tryz.prog:=⟨29,fun I=>zx I (zmh I),zf zwe⟩
end Go.Proofs.YtkjepecoodjbmaaGreatDoor
namespace Go.Proofs.YtkjepecoodjbmaaGreatDoor
open Go Go.Sep Go.Ab
set_option maxRecDepth 100000
end Go.Proofs.YtkjepecoodjbmaaGreatDoor
namespace Go.Proofs.YtkjepecoodjbmaaGreatDoor
open Go Go.Sep Go.Ab
set_option maxRecDepth 100000
def Uf (I:Alg):KU
 |[.v (.one (.ptr 0 0))],[.pack [.obj 85 [.ptr 1 0,.row 7],.obj 50 [.ptr 2 0,.ptr 3 0,.ptr 4 0,.ptr 5 0,.ptr 6 0],.pack [.obj 54 [.ptr 1 0,.ptr 2 0],.pack [.obj 124 [.row 1,.p (.int .i64 n)],.row .upl 81 l],.pack [.obj 156 [.row 1,.p (.int .i64 s)],.row .byte 5 b]],.abs (.cn c0),.abs (.cn c1),.abs (.cn c2),.abs (.cn c3),.row .int 3 t]]=>(fun(l:List Upl) (b:Str) (t:List Int)=>(some (.one ⟨I.hid (t.length≤1000000),(.ret (.v (.one (.row 1)))),[.pack [.obj 85 [.ptr 1 0,.row 7],.obj 50 [.ptr 2 0,.ptr 3 0,.ptr 4 0,.ptr 5 0,.ptr 6 0],.pack [.obj 54 [.ptr 1 0,.ptr 2 0],.pack [.obj 124 [.row 1,.p (.int .i64 n)],.row .upl 81 l],.pack [.obj 156 [.row 1,.p (.int .i64 s)],.row .byte 5 b]],.abs (.cn c0),.abs (.cn c1),.abs (.cn c2),.abs (.cn c3),.row .int 3 t],.row .int 3 t]⟩):Option CT)) l b t
 |_,_=>none
theorem zhb:zu Tryz.prog 31 (Uf alg):=by
 intro args hp r h;unfold Uf at h;split at h<;>cases h
 rename_i n l s b c0 c1 c2 c3 t
 revert l t;intro(l:List Upl) (t:List Int)
 simp only [CT.Good,zh];intro hneed
 refine spH Tryz.func31 (by kernel_rfl) { cfgP with keep:=some [0,2]} [] (by kernel_rfl) ?_
 intro I X hI hX
 refine orcL ?_;go_invoke;refine orcS (by kernel_rfl) ?_
 simp only [zi,Nat.reduceAdd];subst hI;simp only [nrmA,nrmB,nrlB,reduceCtorEq,HO.pack.injEq,HO.obj.injEq]
 (repeat' (first|refine ja ?_ ?_|intro _))<;>first|omega|exact jb|exact jc ‹False›|skip
def Ue:Know Tryz.prog:=⟨31,Uf,zhb⟩
def Ud:Know Tryz.prog:=⟨31,fun I=>zx I (Uf I),zf zhb⟩
def sumX:Int→List Stp→Int
 |n,[]=>n
 |n,x::l=>sumX (IntKind.i64.wrap (n+x.bytes.length)) l
def bytP:List Stp→Int
 |[]=>0
 |x::l=>x.bytes.length+bytP l
theorem zkC: ∀ l:List Stp,0≤bytP l
 |[]=>Int.le_refl _
 |x::l=>by have:=zkC l;simp only [bytP];omega
def StW (x:Stp):Prop:=x.bytes.length≤140737488355328
theorem zdm: ∀ (l:List Stp) (n:Int),0≤n→n+l.length * 140737488355328≤9000000000000000000→(∀ x ∈ l,StW x)→sumX n l=n+bytP l
 |[],n,_,_,_=>by simp [sumX,bytP]
 | x::l,n,h0,h,hw=>by
   have hx:=hw x List.mem_cons_self;unfold StW at hx;simp only [jh] at h
   rw [sumX,zbl (k:=.i64) (by rw [Xl,SI,SK];omega),zdm l _ (by omega) (by omega) fun y hy=>hw y (List.mem_cons_of_mem _ hy)]
   simp only [bytP];omega
def zhJ (l:List Stp):Bool:=decide (100<l.length)||decide (12000<sumX 0 l)
def UD (I:Alg):KU
 |[.v (.one (.p (.list .stp l)))],[]=>(fun(l:List Stp)=>(some (.one ⟨I.hid (l.length≤140737488355328),(.ret (.v (.one (.p (.bool (I.hid (zhJ l))))))),[]⟩):Option CT)) l
 |_,_=>none
theorem zhI:zu Tryz.prog 26 (UD alg):=by
 intro args hp r h;unfold UD at h;split at h<;>cases h
 rename_i l
 revert l;intro(l:List Stp)
 simp only [CT.Good,zh];intro hneed;generalize hr:zhJ l=r
 refine spH Tryz.func26 (by kernel_rfl) { wrp:=true,keep:=some [0,2,3,4]} [] (by kernel_rfl) ?_
 intro I X hI hX
 refine orcL ?_;go_invoke;refine orcS (by kernel_rfl) ?_
 simp only [zi,Nat.reduceAdd]
 refine lpH hI [] hX [0,3,4] (fun(g:Nat × Int)=>match g with|(i,n)=>i≤l.length∧sumX n (l.drop i)=sumX 0 l) (fun(g:Nat × Int)=>match g with|(i,n)=>⟨[(0,.v (.one (.p (.list .stp l)))),(3,.v (.one (.p (.int .i64 n)))),(4,.v (.one (.p (.int .i64 i))))],[],26,none⟩) (fun(g:Nat × Int)=>match g with|(i,n)=>l.length - i) (0,0) (by kernel_rfl) (by kernel_rfl) ?_ ?_
 · exact⟨jM _,rfl⟩
 rintro⟨i,n⟩ ⟨h1,h2⟩ A hA;simp only at hA
 refine orcL ?_;go_invoke;refine orcS (by kernel_rfl) ?_
 simp only [zi,Nat.reduceAdd];subst hI;simp only [nrmA,nrmB]
 have hd:i<l.length→sumX n (l.drop i)=sumX (IntKind.i64.wrap (n+(l.getD i ⟨0,0,0,[]⟩).bytes.length)) (l.drop (i+1)):=fun h=>by
  rw [jE h,sumX];simp [h]
 have hend: ¬ i<l.length→n=sumX 0 l:=fun h=>by rw [← h2,jF (by omega)];rfl
 generalize l.getD i ⟨0,0,0,[]⟩=x at *
 have hrm:r=(decide (100<l.length)||decide (12000<sumX 0 l)):=hr.symm
 refine⟨fun c=>⟨by omega,by omega,?_⟩,fun c=>⟨fun c2=> ?_,fun c2=> ?_⟩⟩
 · rw [show IntKind.i64.wrap ((i:Int)+1)=((i+1:Nat):Int) from zbl (k:=.i64) (by rw [Xl,SI,SK];omega)]
   exact hA (i+1,IntKind.i64.wrap (n+x.bytes.length)) ⟨by simp only;omega,by simp only;rw [← hd (by omega),h2]⟩ (by simp only;omega)
 · rw [hrm,decide_eq_true (by omega),Bool.true_or]
 · rw [hrm,hend (by omega),decide_eq_false (p:=100<l.length) (by omega),Bool.false_or]
def zcv:Know Tryz.prog:=⟨26,UD,zhI⟩
def zcu:Know Tryz.prog:=⟨26,fun I=>zx I (UD I),zf zhI⟩
theorem zoB {l:List Stp} (hw: ∀ x ∈ l,StW x) (h:zhJ l=false):l.length≤100∧bytP l≤12000:=by
 unfold zhJ at h;simp only [Bool.or_eq_false_iff,decide_eq_false_iff_not] at h
 have e:=zdm l 0 (Int.le_refl _) (by omega) hw
 exact⟨by omega,by omega⟩
structure PsI (p:PS) (m:Int) (N:Nat) (k:Nat):Prop where
 g:GsI p.g m N
 t:p.t.length≤k
theorem ps_0:PsI ps0 25000 0 0:=⟨zj9 gi_0 (by decide) (jL _),jL _⟩
theorem zxo {p:PS} {m:Int} {N k:Nat} (h:PsI p m N k) (hm:25000≤m) (x:Stp) (hb:N+x.bytes.length≤1000000):PsI (doP p x) (m+12 * x.bytes.length+1) (N+x.bytes.length) (k+1):=by
 refine⟨zAH h.g hm x hb,?_⟩;have:=h.t
 show(doT p x).length≤_
 unfold doT zbO
 repeat' split
 all_goals first|omega|(rw [jk,jr];omega)
theorem zfh {p:PS} {m:Int} {N k:Nat} (h:PsI p m N k) (hm:25000≤m) (x:Stp) (hb:N+x.bytes.length≤30000) (hc:m+12 * x.bytes.length≤199980) (hk:k≤1000000):PdN p.g p.t x:=⟨N,m,h.g,hb,hm,hc,Nat.le_trans h.t hk⟩
end Go.Proofs.YtkjepecoodjbmaaGreatDoor
namespace Go.Proofs.YtkjepecoodjbmaaGreatDoor
open Go Go.Sep Go.Ab
set_option maxRecDepth 100000
def begP:Str:=[80,79,83,84,32,47,102,105,108,101,115,32,72,84,84,80,47,49,46,49,13,10,72,111,115,116,58,32,97,13,10,84,117,115,45,82,101,115,117,109,97,98,108,101,58,32,49,46,48,46,48,13,10,85,112,108,111,97,100,45,76,101,110,103,116,104,58,32,48,13,10,13,10]
def stA:Stp:=⟨1,0,0,begP⟩
def stB:Stp:=⟨3,0,1,[]⟩
def psA:PS:=doP ps0 stA
def psB:PS:=doP psA stB
theorem zyw:(doO gs0 stA).c=0∧0<(doO gs0 stA).b.length∧(doO psA.g stB).c=0∧(doO psA.g stB).u=[80,79,83,84,32,47,116,97,107,101,47,49,32,72,84,84,80,47,49,46,49,13,10,72,111,115,116,58,32,105,110,108,97,110,100,13,10,67,111,110,116,101,110,116,45,76,101,110,103,116,104,58,32,48,13,10,13,10]∧(doO psB.g stB).c=19∧(doP psB stB).t.length=1:=by decide+kernel
theorem zwM (p:PS) (x:Stp):doP ⟨⟨⟨p.g.q.l,p.g.q.n,p.g.q.b,p.g.q.s⟩,p.g.c0,p.g.c1,p.g.c2,p.g.c3⟩,p.t⟩ x=doP p x∧doO ⟨⟨p.g.q.l,p.g.q.n,p.g.q.b,p.g.q.s⟩,p.g.c0,p.g.c1,p.g.c2,p.g.c3⟩ x=doO p.g x∧PdN ⟨⟨p.g.q.l,p.g.q.n,p.g.q.b,p.g.q.s⟩,p.g.c0,p.g.c1,p.g.c2,p.g.c3⟩ p.t x=PdN p.g p.t x:=⟨rfl,rfl,rfl⟩
def qL (I:Alg):KU
 |[],[]=>some (.one ⟨I.hid (True),(.ret (.v (.one (.p (.bool true))))),[]⟩)
 |_,_=>none
set_option maxHeartbeats 4000000 in
theorem Qe:zu Tryz.prog 25 (qL alg):=by
 intro args hp r h;unfold qL at h;split at h<;>cases h
 simp only [CT.Good,zh];intro _;obtain⟨h1,h2,h3,h4,h5,h6⟩:=zyw
 have i1:=zxo ps_0 (Int.le_refl _) stA (by decide)
 have i2:=zxo i1 (by decide) stB (by decide)
 have n1:=zfh ps_0 (by decide) stA (by decide) (by decide) (by decide)
 have n2:=zfh i1 (by decide) stB (by decide) (by decide) (by decide)
 have n3:=zfh i2 (by decide) stB (by decide) (by decide) (by decide)
 refine spH Tryz.func25 (by kernel_rfl) { cfgP with keep:=some [0,1,2,3,4]} [zfq,zfp,zmg,zmf,Ue,Ud] (by kernel_rfl) ?_
 intro I X hI hX
 refine orcL ?_;go_invoke;refine orcS (by kernel_rfl) ?_
 simp only [zi,Nat.reduceAdd];subst hI;simp only [nrmA,nrmB,nrlB,reduceCtorEq,Int.reduceToNat,UInt8.reduceOfNat,Int.reduceLE,and_self];simp only [show([80,79,83,84,32,47,102,105,108,101,115,32,72,84,84,80,47,49,46,49,13,10,72,111,115,116,58,32,97,13,10,84,117,115,45,82,101,115,117,109,97,98,108,101,58,32,49,46,48,46,48,13,10,85,112,108,111,97,100,45,76,101,110,103,116,104,58,32,48,13,10,13,10]:Str)=begP from rfl];rw [show(⟨1,0,0,begP⟩:Stp)=stA from rfl,show(⟨3,0,1,[]⟩:Stp)=stB from rfl];simp only [show doP ⟨⟨⟨[],0,[],0⟩,cn0,cn0,cn0,cn0⟩,[]⟩ stA=psA from rfl,show doO ⟨⟨[],0,[],0⟩,cn0,cn0,cn0,cn0⟩ stA=doO gs0 stA from rfl,zwM,show doP psA stB=psB from rfl]
 exact⟨by decide,n1,n2,n3,fun _=>⟨fun _=>⟨fun _=>⟨fun _=>⟨fun _=>⟨by omega,by omega⟩,h5⟩,h4⟩,h3⟩,by omega⟩,h1⟩
def YX:Know Tryz.prog:=⟨25,qL,Qe⟩
def YW:Know Tryz.prog:=⟨25,fun I=>zx I (qL I),zf Qe⟩
end Go.Proofs.YtkjepecoodjbmaaGreatDoor
namespace Go.Proofs.YtkjepecoodjbmaaGreatDoor
open Go Go.Sep Go.Ab
end Go.Proofs.YtkjepecoodjbmaaGreatDoor
namespace Go.Proofs.YtkjepecoodjbmaaGreatDoor
open Go Go.Sep Go.Ab
def stp0:Stp:=⟨0,0,0,[]⟩
structure LpI (l:List Stp) (i:Nat) (p:PS):Prop where
 le:i≤l.length
 ps:PsI p (25000+12 * bytP (l.take i)+i) (bytP (l.take i)).toNat i
 fu:Full p.g.q
theorem lp_0 (l:List Stp):LpI l 0 ps0:=⟨jM _,ps_0,zzE⟩
theorem zge: ∀ a b:List Stp,bytP (a++b)=bytP a+bytP b
 |[],b=>by simp [bytP]
 |x::a,b=>by have:=zge a b;simp only [List.cons_append,bytP];omega
theorem ziZ (l:List Stp) (i:Nat):bytP (l.take i)≤bytP l:=by
 have h:=zge (l.take i) (l.drop i);have:=zkC (l.drop i);rw [List.take_append_drop] at h;omega
theorem lp_s {l:List Stp} {i:Nat} {p:PS} (h:LpI l i p) (hi:i<l.length) (hl:l.length≤100∧bytP l≤12000):PdN p.g p.t (l.getD i stp0)∧LpI l (i+1) (doP p (l.getD i stp0)):=by
 have e:l.getD i stp0=l[i]:=by simp [hi]
 have e2:bytP (l.take (i+1))=bytP (l.take i)+l[i].bytes.length:=by rw [jB hi,zge];simp [bytP]
 have h0:=zkC (l.take i);have h1:=ziZ l (i+1);rw [e]
 refine⟨zfh h.ps (by omega) _ (by omega) (by omega) (by omega),hi,?_,?_⟩
 · have:=zxo h.ps (by omega) l[i] (by omega)
   rw [e2]
   rw [show(bytP (l.take i)+l[i].bytes.length).toNat=(bytP (l.take i)).toNat+l[i].bytes.length by omega]
   exact⟨zj9 this.g (by omega) (jL _),this.t⟩
 · exact zx4 h.ps.g _ (by omega) (by omega) h.fu
end Go.Proofs.YtkjepecoodjbmaaGreatDoor
namespace Go.Proofs.YtkjepecoodjbmaaGreatDoor
open Go Go.Sep Go.Ab
set_option maxRecDepth 100000
def spl:List Str→Str→Str→List Str
 |l,w,[]=>l++[w]
 |l,w,c::r=>if c=32 then spl (l++[w]) [] r else spl l (w++[c]) r
theorem zpN: ∀ (r:Str) (l:List Str) (w:Str),spl l w r=l++(match zD r with|[]=>[w]|x::xs=>(w++x)::xs)
 |[],l,w=>by simp [spl,zD]
 | c ::r,l,w=>by
   have hn:=Xz r;rw [spl]
   split
   · rename_i h
     rw [zpN r,zD,if_pos h]
     cases hs:zD r with
     |nil=>exact absurd hs hn
     |cons x xs=>simp
   · rename_i h
     rw [zpN r,zD,if_neg h]
     cases hs:zD r with
     |nil=>exact absurd hs hn
     |cons x xs=>simp
theorem zyP (s:Str):spl [] [] s=zD s:=by
 rw [zpN]
 cases hs:zD s with
 |nil=>exact absurd hs (Xz s)
 |cons x xs=>simp
theorem zjo: ∀ (r:Str) (l:List Str) (w:Str),(spl l w r).length≤l.length+1+r.length∧((∀ x ∈ l,x.length≤1000000)→w.length+r.length≤1000000→∀ x ∈ spl l w r,x.length≤1000000)
 | [],l,w=>⟨by simp [spl],fun h k x hx=>by
  rcases List.mem_append.1 hx with hx|hx
  · exact h x hx
  · rw [List.mem_singleton.1 hx];simpa using k⟩
 | c ::r,l,w=>by
   rw [spl]
   split
   · obtain⟨h1,h2⟩:=zjo r (l++[w]) []
     rw [jk,jr] at h1
     refine⟨by rw [jh];omega,fun h k=>h2 (fun x hx=> ?_) (by rw [jh] at k;simp;omega)⟩
     rcases List.mem_append.1 hx with hx|hx
     · exact h x hx
     · rw [List.mem_singleton.1 hx];omega
   · obtain⟨h1,h2⟩:=zjo r l (w++[c])
     refine⟨by rw [jh];omega,fun h k=>h2 h (by rw [jk];rw [jh] at k;simp;omega)⟩
def firM (s:Str):Hd × Int:=
 match zD s with
 | [a,b,c]=>
   if wZ a=false then(hd0,6)
   else if b.head?≠some 47∨b.contains 9=true then(hd0,5)
   else if c=qf then(⟨a,b,1,[],0⟩,0)
   else if c=UB then(⟨a,b,0,[],0⟩,0)
   else(hd0,11)
 |_=>(hd0,5)
theorem zvr (s:Str):(firM s).2=(begM s).1∧((begM s).1=0→(firM s).1=(begM s).2):=by
 unfold firM begM
 rcases zD s with _|⟨a,_|⟨b,_|⟨c,_|⟨d,e⟩⟩⟩⟩
 · exact⟨rfl,fun h=>absurd h (by simp)⟩
 · exact⟨rfl,fun h=>absurd h (by simp)⟩
 · exact⟨rfl,fun h=>absurd h (by simp)⟩
 · simp only
   by_cases h1:wZ a=false
   · rw [if_pos h1,if_pos h1];exact⟨rfl,fun h=>absurd h (by decide)⟩
   rw [if_neg h1,if_neg h1]
   by_cases h2:b.head?≠some 47∨b.contains 9=true
   · rw [if_pos h2,if_pos h2];exact⟨rfl,fun h=>absurd h (by decide)⟩
   rw [if_neg h2,if_neg h2]
   by_cases h3:c=qf
   · rw [if_pos h3,if_pos h3];exact⟨rfl,fun _=>rfl⟩
   rw [if_neg h3,if_neg h3]
   by_cases h4:c=UB
   · rw [if_pos h4,if_pos h4];exact⟨rfl,fun _=>rfl⟩
   rw [if_neg h4,if_neg h4]
   exact⟨rfl,fun h=>absurd h (by simp)⟩
 · exact⟨rfl,fun h=>absurd h (by simp)⟩
def qW (I:Alg):KU
 |[.v (.one (.p (.str s)))],[]=>(fun(s:Str)=>(some (.one ⟨I.hid (s.length≤1000000),(.ret (.tup [.agg [.p (.str (I.hid ((firM s).1.method))),.p (.str (I.hid ((firM s).1.target))),.p (.int .i64 (I.hid ((firM s).1.minor))),.nilS,.p (.int .i64 (I.hid ((firM s).1.length)))],.one (.p (.int .i64 (I.hid ((firM s).2))))])),[]⟩):Option CT)) s
 |_,_=>none
theorem Qu:zu Tryz.prog 37 (qW alg):=by
 intro args hp r h;unfold qW at h;split at h<;>cases h
 rename_i s;simp only [CT.Good,zh];intro hneed;generalize hr:firM s=r
 refine spH Tryz.func37 (by kernel_rfl) { nr:=[4],raw:=true,keep:=some [0,2,3,4,5,6,7]} [YK,YJ,vS,vP] (by kernel_rfl) ?_
 intro I X hI hX
 refine orcL ?_;go_invoke;refine orcS (by kernel_rfl) ?_
 simp only [zi,Nat.reduceAdd]
 refine lpH hI [YK,YJ,vS,vP] hX [0,2,3,4,5,6] (fun(g:Nat × List Str × Str)=>match g with|(i,l,w)=>i≤s.length∧l.length≤i∧(∀ x ∈ l,x.length≤1000000)∧w.length≤i∧spl l w (s.drop i)=zD s) (fun(g:Nat × List Str × Str)=>match g with|(i,l,w)=>⟨[(0,.v (.one (.p (.str s)))),(2,.v (.one (.ptr 0 0))),(3,.v (.one (.p (.int .i64 0)))),(4,.v (.one (.row 1))),(5,.v (.one (.p (.str w)))),(6,.v (.one (.p (.int .i64 i))))],[.pack [.obj 30 [.p (.str ([])),.p (.str ([])),.p (.int .i64 0),.nilS,.p (.int .i64 0)]],.row .str 9 l],82,none⟩) (fun(g:Nat × List Str × Str)=>match g with|(i,l,w)=>s.length - i) (0,[],[]) (by kernel_rfl) (by kernel_rfl) ?_ ?_
 · exact⟨jM _,jM _,(fun x h=>by cases h),jM _,zyP s⟩
 rintro⟨i,l,w⟩ ⟨h1,h2,h3,h4,h5⟩ A hA;simp only at hA h1 h2 h3 h4 h5;have hsl:=zjo s [] [];rw [zyP] at hsl
 refine orcL ?_;go_invoke;refine orcS (by kernel_rfl) ?_
 simp only [zi,Nat.reduceAdd];subst hI;simp only [nrmA,nrmB,nrlB,reduceCtorEq]
 by_cases hlt:i<s.length
 · have hd:s.drop i=s.getD i 0::s.drop (i+1):=by rw [jE hlt];simp [hlt]
   have htk:(s.drop i).take ((i:Int)+1 - i).toNat=[s.getD i 0]:=by rw [hd,show((i:Int)+1 - i).toNat=1 by omega];rfl
   have htk2:(s.drop i).take (((i:Int)+1).toNat - i)=[s.getD i 0]:=by rw [hd,show((i:Int)+1).toNat - i=1 by omega];rfl
   rw [hd] at h5;rw [htk2];generalize s.getD i 0=c at *;rw [spl] at h5
   have hu:(c.toNat:Int)=32↔c=32:=⟨fun h=>UInt8.toNat_inj.1 (by rw [show(32:UInt8).toNat=32 from rfl];omega),fun h=>by rw [h];rfl⟩
   have hg1:c=32→_:=fun h=>hA (i+1,l++[w],[]) ⟨by simp only;omega,by simp;omega,by
    intro x hx
    rcases List.mem_append.1 hx with hx|hx
    · exact h3 x hx
    · rw [List.mem_singleton.1 hx];omega,jM _,by simp only;rw [if_pos h] at h5;exact h5⟩ (by simp only;omega)
   have hg2: ¬ c=32→_:=fun h=>hA (i+1,l,w++[c]) ⟨by simp only;omega,by simp only;omega,h3,by simp;omega,by simp only;rw [if_neg h] at h5;exact h5⟩ (by simp only;omega)
   (repeat' (first|refine ja ?_ ?_|intro _))<;>first|omega|exact jb|exact jc ‹False›|skip
   all_goals first
    |omega
    |(simp only [jh,ji];omega)
    |exact hg1 (hu.1 ‹_›)
    |exact hg2 (fun h=>‹¬ (c.toNat:Int)=32› (hu.2 h))
 · rw [jF (by omega),spl] at h5
   have hlw:l.length+[w].length≤100000000:=by simp;omega
   have hv: ∀ x ∈ zD s,x.length≤1000000:=hsl.2 (fun x h=>by cases h) (by simpa using hneed)
   rw [h5];unfold firM at hr;clear hsl h5 hA;generalize zD s=V at *
   rcases V with _|⟨a,_|⟨b,_|⟨c,_|⟨d,e⟩⟩⟩⟩
   all_goals simp only [jh,ji,List.getD_cons_zero,List.getD_cons_succ,List.mem_cons,List.not_mem_nil,or_false,forall_eq_or_imp,forall_eq] at hr hv ⊢
   · (repeat' (first|refine ja ?_ ?_|intro _))<;>first|omega|exact jb|exact jc ‹False›|skip
     all_goals first|omega|exact hlw|(subst hr;rfl)|trace_state
   · (repeat' (first|refine ja ?_ ?_|intro _))<;>first|omega|exact jb|exact jc ‹False›|skip
     all_goals first|omega|exact hlw|(subst hr;rfl)|trace_state
   · (repeat' (first|refine ja ?_ ?_|intro _))<;>first|omega|exact jb|exact jc ‹False›|skip
     all_goals first|omega|exact hlw|(subst hr;rfl)|trace_state
   · obtain ⟨v1,v2,v3⟩:=hv
     rw [show([a,b,c].getD (Int.toNat 1) []:Str)=b from rfl,show([a,b,c].getD (Int.toNat 2) []:Str)=c from rfl]
     have hr :(if wZ a=false then(hd0,(6:Int)) else if((b.length:Nat):Int)=0 then(hd0,5) else if((b.getD 0 0).toNat:Int)≠47 then(hd0,5) else if 0≤xK [9] b 0 then(hd0,5) else if c=[72,84,84,80,47,49,46,49] then(⟨a,b,1,[],0⟩,0) else if c=[72,84,84,80,47,49,46,48] then(⟨a,b,0,[],0⟩,0) else(hd0,11))=r:=by
      rw [← hr]
      by_cases ht:wZ a=false
      · rw [if_pos ht,if_pos ht]
      rw [if_neg ht,if_neg ht]
      have h9:0≤xK [9] b 0↔b.contains 9=true:=by
       rw [vT,Lib.contains_iff_indexByte];have:=yF b 9
       split
       · rename_i h;rw [h];simp
       · rw [decide_eq_true_iff];omega
      rcases b with _|⟨x,b⟩
      · rw [if_pos (show(([]:Str).length:Int)=0 from rfl),if_pos (.inl (by simp))]
      · rw [if_neg (by rw [jh];omega)]
        have hx:(((x::b).getD 0 0).toNat:Int)≠47↔(x::b).head?≠some 47:=by
         simp only [List.getD_cons_zero,List.head?_cons,ne_eq,jw];rw [not_congr]
         exact⟨fun h=>UInt8.toNat_inj.1 (by rw [show(47:UInt8).toNat=47 from rfl];omega),fun h=>by rw [h];rfl⟩
        by_cases h1:(x::b).head?≠some 47
        · rw [if_pos (hx.2 h1),if_pos (.inl h1)]
        · rw [if_neg (fun h=>h1 (hx.1 h))]
          by_cases h2:0≤xK [9] (x::b) 0
          · rw [if_pos h2,if_pos (.inr (h9.1 h2))]
          · rw [if_neg h2,if_neg (show ¬ ((x::b).head?≠some 47∨(x::b).contains 9=true) from fun h=>h.elim h1 (fun h=>h2 (h9.2 h)))]
            rfl
     (repeat' (first|refine ja ?_ ?_|intro _))<;>first|omega|exact jb|exact jc ‹False›|skip
     all_goals first|omega|exact hlw|((repeat(first|rewrite [if_pos (by first|omega|assumption|(simp only [*,or_self,or_true,true_or,or_false,false_or,jf,jg,jd,je,and_self,and_true,true_and];done)|(simp only [*];omega)|(simp [*];done)|(simp [*];omega))] at hr|rewrite [if_neg (by first|omega|assumption|(simp only [*,or_self,or_true,true_or,or_false,false_or,jf,jg,jd,je,and_self,and_true,true_and];done)|(simp only [*];omega)|(simp [*];done)|(simp [*];omega))] at hr));subst hr;rfl)|trace_state
   · (repeat' (first|refine ja ?_ ?_|intro _))<;>first|omega|exact jb|exact jc ‹False›|skip
     all_goals first|omega|exact hlw|(subst hr;rfl)|trace_state
def Xc:Know Tryz.prog:=⟨37,qW,Qu⟩
def Xb:Know Tryz.prog:=⟨37,fun I=>zx I (qW I),zf Qu⟩
end Go.Proofs.YtkjepecoodjbmaaGreatDoor
namespace Go.Proofs.YtkjepecoodjbmaaGreatDoor
open Go Go.Sep Go.Ab
set_option maxRecDepth 100000
def Yc (mi:Int) (f:List Fld):Int × Int:=if zj5 mi f=true then(0,13) else lenM mi f
theorem zuV (h:Hd):lenH h=Yc h.minor h.fields:=rfl
def Yb (I:Alg):KU
 |[.v (.agg [.p (.str m),.p (.str t),.p (.int .i64 mi),.p (.list .fld f),.p (.int .i64 le)])],[]=>(fun(m t:Str) (f:List Fld)=>(some (.one ⟨I.hid (FsOk f),(.ret (.tup [.one (.p (.int .i64 (I.hid ((Yc mi f).1)))),.one (.p (.int .i64 (I.hid ((Yc mi f).2))))])),[]⟩):Option CT)) m t f
 |_,_=>none
theorem zcn:zu Tryz.prog 39 (Yb alg):=by
 intro args hp r h;unfold Yb at h;split at h<;>cases h
 rename_i m t mi f le
 revert f;intro(f:List Fld)
 simp only [CT.Good,zh];intro hneed;obtain⟨hf1,hf2⟩:=hneed;generalize hr:Yc mi f=r;obtain⟨rn,rc⟩:=r
 refine spH Tryz.func39 (by kernel_rfl) { keep:=some [0,1,2,3,5,6,7,8,9,10,11]} [XB,XA,WU,WT,zmk,zmj,zb8,zb7] (by kernel_rfl) ?_
 intro I X hI hX
 refine orcL ?_;go_invoke;refine orcS (by kernel_rfl) ?_
 simp only [zi,Nat.reduceAdd]
 have hh: ∀ {α:Type} (x:α),I.hid x=x:=by subst hI;intros;rfl
 have hln: ∀ (l:List Str),I.len l=(l.length:Int):=by subst hI;intros;rfl
 simp only [hh,hln];unfold Yc zj5 lenM at hr;rw [show Vt=[116,114,97,110,115,102,101,114,45,101,110,99,111,100,105,110,103] from rfl,show qB=[99,111,110,116,101,110,116,45,108,101,110,103,116,104] from rfl,show ZF=[104,111,115,116] from rfl] at hr;have hL1:=Zt f [99,111,110,116,101,110,116,45,108,101,110,103,116,104];have hT1:=Zt f [116,114,97,110,115,102,101,114,45,101,110,99,111,100,105,110,103]
 have hT2: ∀ x ∈ valsF f [116,114,97,110,115,102,101,114,45,101,110,99,111,100,105,110,103],x.length≤1000000:=by
  intro x hx;unfold valsF at hx;rw [List.mem_map] at hx;obtain⟨y,hy,rfl⟩:=hx;exact(hf2 y (List.mem_filter.1 hy).1).2
 generalize valsF f [99,111,110,116,101,110,116,45,108,101,110,103,116,104]=L at *;generalize valsF f [116,114,97,110,115,102,101,114,45,101,110,99,111,100,105,110,103]=T at *;generalize(oneF (valsF f [104,111,115,116])).2=hc at *
 have keyL: ∀ (st:St),(if(sizM (L.getD 0 []) 0 L).2≠0 then(0,(sizM (L.getD 0 []) 0 L).2) else if 4000<(sizM (L.getD 0 []) 0 L).1 then(0,4) else((sizM (L.getD 0 []) 0 L).1,0))=(rn,rc)→cutM { keep:=some [0,1,2,3,5,6,7,8,9,10,11]} 0 [2,3,6,8,9] st=some ⟨[(2,.v (.one (.p (.int .i64 0)))),(3,.v (.one (.p (.int .i64 0)))),(6,.v (.one (.row 0))),(8,.v (.one (.p (.int .i64 0)))),(9,.v (.one (.p (.int .i64 0))))],[.row .str 9 L],84,none⟩→Ok Tryz.prog X (fun o h=>o=(.ret (.tup [.one (.p (.int .i64 rn)),.one (.p (.int .i64 rc))]))∧h=[]) (leaf I tab { keep:=some [0,1,2,3,5,6,7,8,9,10,11]} [⟨vI Tryz.f39,finK I tab { keep:=some [0,1,2,3,5,6,7,8,9,10,11]} 0 Tryz.f39⟩] 0 [1,1,1,1,1,1,0,1,0] st):=by
  intro st hm hst
  refine lpH hI [XB,XA,WU,WT,zmk,zmj,zb8,zb7] hX [2,3,6,8,9] (fun(g:Nat × Int)=>match g with|(i,n)=>i≤L.length∧(if(sizM (L.getD 0 []) n (L.drop i)).2≠0 then(0,(sizM (L.getD 0 []) n (L.drop i)).2) else if 4000<(sizM (L.getD 0 []) n (L.drop i)).1 then(0,4) else((sizM (L.getD 0 []) n (L.drop i)).1,0))=(rn,rc)) (fun(g:Nat × Int)=>match g with|(i,n)=>⟨[(2,.v (.one (.p (.int .i64 0)))),(3,.v (.one (.p (.int .i64 0)))),(6,.v (.one (.row 0))),(8,.v (.one (.p (.int .i64 n)))),(9,.v (.one (.p (.int .i64 i))))],[.row .str 9 L],84,none⟩) (fun(g:Nat × Int)=>match g with|(i,n)=>L.length - i) (0,0) (by kernel_rfl) hst ?_ ?_
  · exact⟨jM _,hm⟩
  clear hm hst hr;rintro⟨i,n⟩ ⟨h1,hm⟩ A hA;simp only at hA
  refine orcL ?_;go_invoke;refine orcS (by kernel_rfl) ?_
  simp only [zi,Nat.reduceAdd];subst hI;simp only [nrmA,nrmB]
  by_cases hi:i<L.length
  · rw [zgJ _ _ _ _ hi] at hm
    have hn:=vN (L.getD i []);have hgo:=hA (i+1,(numA (L.getD i []) 10 9).1);generalize L.getD i []=x at *;generalize L.getD 0 []=y at *;generalize numA x 10 9=na at *;obtain⟨na,nb⟩:=na;simp only at hm hgo hn
    cases nb with
    | false=>
      rw [if_pos rfl] at hm;simp only [ne_eq,Int.reduceEq,jg,if_true,Prod.mk.injEq] at hm;obtain⟨rfl,rfl⟩:=hm
      (repeat' (first|refine ja ?_ ?_|intro _))<;>first|omega|exact jb|exact jc ‹False›|skip
      all_goals first|omega|rfl|contradiction|(simp_all;done)|trace_state
    | true=>
      simp only [je,if_false] at hm
      by_cases hxy:x=y
      · simp only [if_neg (fun h:x≠y=>h hxy)] at hm
        have hg:=hgo ⟨by omega,hm⟩ (by omega)
        (repeat' (first|refine ja ?_ ?_|intro _))<;>first|omega|exact jb|exact jc ‹False›|skip
        all_goals first|omega|exact hg|contradiction|(exfalso;exact ‹¬ x=y› hxy)|trace_state
      · simp only [if_pos (show x≠y from hxy),ne_eq,Int.reduceEq,jg,if_true,Prod.mk.injEq] at hm
        obtain⟨rfl,rfl⟩:=hm
        (repeat' (first|refine ja ?_ ?_|intro _))<;>first|omega|exact jb|exact jc ‹False›|skip
        all_goals first|omega|rfl|contradiction|(exfalso;exact hxy ‹x=y›)|trace_state
  · rw [zlw _ _ _ _ hi] at hm
    simp only [ne_eq,jf,if_false] at hm
    by_cases h4:4000<n
    · rw [if_pos h4] at hm
      simp only [Prod.mk.injEq] at hm;obtain⟨rfl,rfl⟩:=hm
      (repeat' (first|refine ja ?_ ?_|intro _))<;>first|omega|exact jb|exact jc ‹False›|skip
      all_goals first|omega|rfl|trace_state
    · rw [if_neg h4] at hm
      simp only [Prod.mk.injEq] at hm;obtain⟨rfl,rfl⟩:=hm
      (repeat' (first|refine ja ?_ ?_|intro _))<;>first|omega|exact jb|exact jc ‹False›|skip
      all_goals first|omega|rfl|trace_state
 subst hI;have hT0:T.length=0↔T=[]:=List.length_eq_zero_iff;have hLz:L.length=0↔L=[]:=List.length_eq_zero_iff
 have hg0:0<T.length→(T.getD 0 []).length≤1000000:=fun h=>hT2 _ (by rw [show T.getD 0 []=T[0] by simp [h]];exact List.getElem_mem h)
 have hr:(if hc=9∨hc=10∧mi=1 then((0:Int),(13:Int)) else if 0<(T.length:Int) then(if 0<(L.length:Int)∨mi=0 then(0,12) else if ¬ (T.length:Int)=1 then(0,11) else if ¬ lowS (T.getD 0 [])=[99,104,117,110,107,101,100] then(0,11) else(-1,0)) else(if(sizM (L.getD 0 []) 0 L).2≠0 then(0,(sizM (L.getD 0 []) 0 L).2) else if 4000<(sizM (L.getD 0 []) 0 L).1 then(0,4) else((sizM (L.getD 0 []) 0 L).1,0)))=(rn,rc):=by
  have e1:((decide (hc=9)||(decide (hc=10)&&decide (mi=1)))=true)=(hc=9∨hc=10∧mi=1):=by simp
  have e2:(T≠[])=(0<(T.length:Int)):=by rw [eq_iff_iff];exact⟨fun h=>Int.natCast_pos.2 (Nat.pos_of_ne_zero fun k=>h (hT0.1 k)),fun h k=>by rw [k] at h;simp at h⟩
  have e3:(L≠[])=(0<(L.length:Int)):=by rw [eq_iff_iff];exact⟨fun h=>Int.natCast_pos.2 (Nat.pos_of_ne_zero fun k=>h (hLz.1 k)),fun h k=>by rw [k] at h;simp at h⟩
  simp only [e1,e2,e3] at hr;rw [← hr]
  by_cases c2:0<(T.length:Int)
  · have e4:(1<T.length∨lowS (T.getD 0 [])≠Tn)=(¬ (T.length:Int)=1∨¬ lowS (T.getD 0 [])=[99,104,117,110,107,101,100]):=by
     rw [eq_iff_iff]
     exact⟨fun h=>h.imp_left fun k=>by omega,fun h=>h.imp_left fun k=>by omega⟩
    simp only [e4]
    by_cases c4:(T.length:Int)=1
    · by_cases c5:lowS (T.getD 0 [])=[99,104,117,110,107,101,100]<;>simp [c4,c5]
    · simp [c4]
  · rw [if_neg c2,if_neg c2]
 simp only [nrmA,nrmB];clear hT0 hLz hT2
 (repeat' (first|refine ja ?_ ?_|intro _))<;>first|omega|exact jb|exact jc ‹False›|skip
 all_goals first
  |omega
  |((with_reducible show Ok _ _ _ _);refine keyL _ ?_ (by kernel_rfl);((repeat(first|rewrite [if_pos (by first|omega|assumption|(simp only [*,or_self,or_true,true_or,or_false,false_or,jf,jg,jd,je,and_self,and_true,true_and];done)|(simp only [*];omega)|(simp [*];done)|(simp [*];omega))] at hr|rewrite [if_neg (by first|omega|assumption|(simp only [*,or_self,or_true,true_or,or_false,false_or,jf,jg,jd,je,and_self,and_true,true_and];done)|(simp only [*];omega)|(simp [*];done)|(simp [*];omega))] at hr));exact hr))
  |exact⟨hf1,by decide,hf2⟩
  |exact hf1
  |(exact(hf2 _ ‹_›).1)
  |(exact(hf2 _ ‹_›).2)
  |decide
  |exact hg0 (by omega)
  |((repeat(first|rewrite [if_pos (by first|omega|assumption|(simp only [*,or_self,or_true,true_or,or_false,false_or,jf,jg,jd,je,and_self,and_true,true_and];done)|(simp only [*];omega)|(simp [*];done)|(simp [*];omega))] at hr|rewrite [if_neg (by first|omega|assumption|(simp only [*,or_self,or_true,true_or,or_false,false_or,jf,jg,jd,je,and_self,and_true,true_and];done)|(simp only [*];omega)|(simp [*];done)|(simp [*];omega))] at hr));simp only [Prod.mk.injEq] at hr;obtain⟨rfl,rfl⟩:=hr;rfl)
def Vh:Know Tryz.prog:=⟨39,Yb,zcn⟩
def Vg:Know Tryz.prog:=⟨39,fun I=>zx I (Yb I),zf zcn⟩
end Go.Proofs.YtkjepecoodjbmaaGreatDoor
namespace Go.Proofs.YtkjepecoodjbmaaGreatDoor
open Go Go.Sep Go.Ab
set_option maxRecDepth 100000
def bodE (b:Str):List Evt:=if b=[] then [] else [evB b]
def preG (x:List Evt) (p:List Evt × Bool):List Evt × Bool:=(x++p.1,p.2)
def reqG:Nat→Option Hd→Str→List Evt × Bool
 |0,_,_=>([],false)
 | f+1,none,r=>match vF ln0 r with
   |.more _=>([],decide (r≠[]))
   |.bad e _=>([evF e],false)
   |.line t rest=>if t=[] then reqG f none rest else if(begM t).1≠0 then([evF (begM t).1],false) else reqG f (some (begM t).2) rest
 | f + 1,some h,r=>match vF ln0 r with
   |.more _=>([],true)
   |.bad e _=>([evF e],false)
   | .line t rest=>
     if t=[] then
      (if(lenH h).2≠0 then([evF (lenH h).2],false)
      else preG [evH { h with length:=(lenH h).1}]
       (if 0≤(lenH h).1 then
        (if(lenH h).1≤rest.length then preG (bodE (rest.take (lenH h).1.toNat)++[evE]) (reqG f none (rest.drop (lenH h).1.toNat)) else(bodE rest,true))
       else match yP rest with
        |.more o _=>(bodE o,true)
        |.bad o e _=>(bodE o++[evF e],false)
        |.over o rest2=>preG (bodE o++[evE]) (reqG f none rest2)))
     else if h.fields.length=16 then([evF 8],false)
     else if(yj t).2≠0 then([evF (yj t).2],false)
     else reqG f (some { h with fields:=h.fields++[(yj t).1]}) rest
theorem zl6 (a b:List Evt) (g:List Evt × Bool):preG a (preG b g)=preG (a++b) g:=by simp [preG]
end Go.Proofs.YtkjepecoodjbmaaGreatDoor
namespace Go.Proofs.YtkjepecoodjbmaaGreatDoor
open Go Go.Sep Go.Ab
set_option maxRecDepth 100000
end Go.Proofs.YtkjepecoodjbmaaGreatDoor
namespace Go.Proofs.YtkjepecoodjbmaaGreatDoor
open Go Go.Sep Go.Ab
set_option maxRecDepth 100000
theorem zrv {b:Str} {i:Nat} (h:i<b.length):xH (b.take i) (b.drop i)=
  if b.getD i 0=13 then(if i+1<b.length then(if b.getD (i+1) 0=10 then(b.take i,(i:Int)+2,true,0) else([],(i:Int)+2,false,2)) else([],0,false,0))
  else if b.getD i 0=10 then([],(i:Int)+1,false,2) else if zjv (b.getD i 0)=false then([],(i:Int)+1,false,3) else if i=200 then([],(i:Int)+1,false,4)
  else xH (b.take (i+1)) (b.drop (i+1)):=by
 have e1:b.getD i 0=b[i]:=by simp [h]
 have hl:(b.take i).length=i:=by rw [jv];omega
 rw [e1,jE h,jB h,xH.eq_def];simp only [hl]
 split
 · by_cases h2:i+1<b.length
   · have e2:b.getD (i+1) 0=b[i+1]:=by simp [h2]
     rw [if_pos h2,e2,jE h2]
   · rw [if_neg h2,jF (by omega)]
 · rfl
def Us (I:Alg):KU
 |[.v (.one (.p (.list .byte b)))],[]=>(fun(b:Str)=>(some (.one ⟨I.hid (b.length≤1000000),(.ret (.tup [.one (.p (.str (I.hid ((zA b).1)))),.one (.p (.int .i64 (I.hid ((zA b).2.1)))),.one (.p (.bool (I.hid ((zA b).2.2.1)))),.one (.p (.int .i64 (I.hid ((zA b).2.2.2))))])),[]⟩):Option CT)) b
 |_,_=>none
theorem zhq:zu Tryz.prog 36 (Us alg):=by
 intro args hp r h;unfold Us at h;split at h<;>cases h
 rename_i b;simp only [CT.Good,zh];intro hneed;generalize hr:zA b=r;obtain⟨s,n,ok,c⟩:=r
 refine spH Tryz.func36 (by kernel_rfl) { keep:=some [0,2,3,4,5,6,7]} [Ux,Uw] (by kernel_rfl) ?_
 intro I X hI hX
 refine orcL ?_;go_invoke;refine orcS (by kernel_rfl) ?_
 simp only [zi,Nat.reduceAdd]
 refine lpH hI [Ux,Uw] hX [0,6] (fun(i:Nat)=>i≤b.length∧i≤200∧xH (b.take i) (b.drop i)=(s,n,ok,c)) (fun(i:Nat)=>⟨[(0,.v (.one (.p (.list .byte b)))),(6,.v (.one (.p (.int .i64 i))))],[],52,none⟩) (fun(i:Nat)=>b.length - i) 0 (by kernel_rfl) (by kernel_rfl) ?_ ?_
 · exact⟨jM _,jM _,hr⟩
 rintro i ⟨h1,h2,h3⟩ A hA
 refine orcL ?_;go_invoke;refine orcS (by kernel_rfl) ?_
 simp only [zi,Nat.reduceAdd];subst hI;simp only [nrmA,nrmB,nrlB,reduceCtorEq];have hx:i<b.length→_:=fun h=>zrv (b:=b) (i:=i) h
 have hend: ¬ i<b.length→(s,n,ok,c)=([],0,false,0):=fun h=>by rw [← h3,jF (by omega)];rfl
 unfold zjv at hx;rw [h3] at hx
 have hn1:((i:Int)+1).toNat=i+1:=by omega
 rw [hn1];generalize b.getD i 0=x at *;generalize b.getD (i+1) 0=y at *
 have h13:(x.toNat:Int)=13↔x=13:=⟨fun h=>UInt8.toNat_inj.1 (Int.ofNat_inj.1 h),fun h=>by subst h;rfl⟩
 have h10:(x.toNat:Int)=10↔x=10:=⟨fun h=>UInt8.toNat_inj.1 (Int.ofNat_inj.1 h),fun h=>by subst h;rfl⟩
 have hy10:(y.toNat:Int)=10↔y=10:=⟨fun h=>UInt8.toNat_inj.1 (Int.ofNat_inj.1 h),fun h=>by subst h;rfl⟩
 simp only [h13,h10,hy10]
 (repeat' (first|refine ja ?_ ?_|intro _))<;>first|omega|exact jb|exact jc ‹False›|skip
 all_goals first
  |(have hx:=hx (by omega);((repeat(first|rewrite [if_pos (by first|omega|assumption|(simp only [*,or_self,or_true,true_or,or_false,false_or,jf,jg,jd,je,and_self,and_true,true_and];done)|(simp only [*];omega)|(simp [*];done)|(simp [*];omega))] at hx|rewrite [if_neg (by first|omega|assumption|(simp only [*,or_self,or_true,true_or,or_false,false_or,jf,jg,jd,je,and_self,and_true,true_and];done)|(simp only [*];omega)|(simp [*];done)|(simp [*];omega))] at hx)));cases hx;first|rfl|done|exact⟨rfl,rfl,rfl,rfl⟩|(simp;done)|(simp;omega))
  |(have hx:=hx (by omega);((repeat(first|rewrite [if_pos (by first|omega|assumption|(simp only [*,or_self,or_true,true_or,or_false,false_or,jf,jg,jd,je,and_self,and_true,true_and];done)|(simp only [*];omega)|(simp [*];done)|(simp [*];omega))] at hx|rewrite [if_neg (by first|omega|assumption|(simp only [*,or_self,or_true,true_or,or_false,false_or,jf,jg,jd,je,and_self,and_true,true_and];done)|(simp only [*];omega)|(simp [*];done)|(simp [*];omega))] at hx)));exact hA (i+1) ⟨by omega,by omega,hx.symm⟩ (by omega))
  |(have hend:=hend (by omega);cases hend;first|rfl|exact⟨rfl,rfl,rfl,rfl⟩)
def ZE:Know Tryz.prog:=⟨36,Us,zhq⟩
def ZC:Know Tryz.prog:=⟨36,fun I=>zx I (Us I),zf zhq⟩
end Go.Proofs.YtkjepecoodjbmaaGreatDoor
namespace Go.Proofs.YtkjepecoodjbmaaGreatDoor
open Go Go.Sep Go.Ab
set_option maxRecDepth 100000
theorem zyR {R Q:Prop} (h1:R→Q) (h2:R):Q:=h1 h2
theorem ChR.zuD (o:Str) (b:Str) (x:ChR):outR (x.pre o)=o++outR x∧WV b (x.pre o)=WV b x∧isR (x.pre o)=isR x∧RD (x.pre o)=RD x:=by
 cases x<;>exact⟨rfl,rfl,rfl,rfl⟩
def zf8 (I:Alg):KU
 |[.v (.one (.p (.list .byte b)))],[]=>(fun(b:Str)=>(some (.one ⟨I.hid (b.length≤1000000),(.ret (.tup [.one (.row 0),.one (.p (.int .i64 (I.hid (WV b (yP b))))),.one (.p (.bool (I.hid (isR (yP b))))),.one (.p (.int .i64 (I.hid (RD (yP b)))))])),[.row .byte 5 (I.hid (outR (yP b)))]⟩):Option CT)) b
 |_,_=>none
set_option maxHeartbeats 8000000 in
theorem zsY:zu Tryz.prog 40 (zf8 alg):=by
 intro args hp r h;unfold zf8 at h;split at h<;>cases h
 rename_i b;simp only [CT.Good,zh];intro hneed;generalize hR:yP b=R;generalize ho:outR R=ro;generalize hu:WV b R=ru;generalize hs:isR R=rs;generalize hc:RD R=rc
 refine spH Tryz.func40 (by kernel_rfl) { nr:=[6],keep:=some [0,2,3,4,5,6,7,8,9,10,11,12,13,14,15,16,17,18,19,21]} [Xr,Xq,vS,vP,Zl,Zk,rH,rG,ZE,ZC] (by kernel_rfl) ?_
 intro I X hI hX
 refine orcL ?_;go_invoke;refine orcS (by kernel_rfl) ?_
 simp only [zi,Nat.reduceAdd]
 refine lpH hI [Xr,Xq,vS,vP,Zl,Zk,rH,rG,ZE,ZC] hX [0,6,7] (fun(g:Nat × Str)=>match g with|(i,o)=>i≤b.length∧o.length≤4000∧∃ f,(b.drop i).length<f∧(zde f o.length (b.drop i)).pre o=R) (fun(g:Nat × Str)=>match g with|(i,o)=>⟨[(0,.v (.one (.p (.list .byte b)))),(6,.v (.one (.row 0))),(7,.v (.one (.p (.int .i64 i))))],[.row .byte 5 o],166,none⟩) (fun(g:Nat × Str)=>match g with|(i,o)=>b.length - i) (0,[]) (by kernel_rfl) (by kernel_rfl) ?_ ?_
 · exact⟨jM _,jM _,b.length+1,Nat.lt_succ_self _,by rw [ChR.pre_nil];exact hR⟩
 rintro⟨i,o⟩ ⟨h1,h2,f,h3,h4⟩ A hA;simp only at hA h1 h2 h3 h4
 refine orcL ?_;go_invoke;refine orcS (by kernel_rfl) ?_
 simp only [zi,Nat.reduceAdd]
 have hh: ∀ {α:Type} (x:α),I.hid x=x:=by subst hI;intros;rfl
 have hcut: ∀ j:Nat,I.cut b (j:Int) (I.len b)=b.drop j:=fun j=>by
  subst hI;rw [xU,zU,jJ,jJ]
  exact jq (by rw [jC];exact jL _)
 have hadd: ∀ j k:Nat,I.add (j:Int) (k:Int)=((j+k:Nat):Int):=fun j k=>by subst hI;rw [vg];omega
 have hcut0:I.cut b (Int.ofNat i) (I.len b)=b.drop i:=hcut i;simp only [hcut0,hcut,hh];obtain⟨n,hn,hn1,hn2,hn3,hn4⟩:=vK (b.drop i)
 obtain⟨f,rfl⟩: ∃ f',f=f'+1:=⟨f - 1,by omega⟩
 rw [zde] at h4;rw [jC] at h3 hn1;simp only [hn,hadd,jJ,List.drop_drop] at h4 ⊢;have hll:=ZB (b.drop i);rw [jC] at hll;generalize zA (b.drop i)=x at *;obtain⟨t,n',ok,e⟩:=x;simp only at *;subst hn
 have hfc:xK [59] t 0=Lib.indexByte t 59:=by
  rw [vT]
  split
  · rename_i h;rw [h]
  · omega
 have hix:=yF t 59;rw [hfc];have hcl:=(za9 t 59).1;have hm0:=qG t;have hsz:numA (Lib.trimS (cutB t 59).1 [32,9]) 16 6=xW t:=rfl
 obtain⟨m,okm,hz⟩: ∃ (m:Nat) (okm:Bool),xW t=((m:Int),okm):=⟨(xW t).1.toNat,(xW t).2,Prod.ext (by simp only;omega) rfl⟩
 rw [hz] at hsz hm0 h4
 have hc1:0≤Lib.indexByte t 59→I.cut t 0 (Lib.indexByte t 59)=(cutB t 59).1:=fun h=>by
  subst hI;rw [cutB,if_pos h,xU];simp
 have hc2: ¬ 0≤Lib.indexByte t 59→(cutB t 59).1=t:=fun h=>by rw [cutB,if_neg h]
 have hcut4:I.cut b ((i+n:Nat):Int) ((i+n+m:Nat):Int)=(b.drop (i+n)).take m:=by
  subst hI;rw [xU,jJ,jJ,Nat.add_sub_cancel_left]
 obtain⟨n2,gn,gn1,gn2,gn3,gn4⟩:=vK (b.drop (i+n+m));have gll:=ZB (b.drop (i+n+m));rw [jC] at gll gn1;simp only [jJ,List.drop_drop] at h4;unfold endR at h4;obtain⟨t2,n2',ok2,e3,hx2⟩: ∃ t2 n2' ok2 e3,zA (b.drop (i+n+m))=(t2,n2',ok2,e3):=⟨_,_,_,_,rfl⟩;rw [hx2] at gn gn2 gn3 gn4 gll h4;simp only at gn gn2 gn3 gn4 gll h4;subst gn;simp only [jJ,List.drop_drop] at h4
 have e1t:0≤Lib.indexByte t 59→I.ile 0 (Lib.indexByte t 59)=true:=fun h=>by subst hI;exact decide_eq_true h
 have e1f: ¬ 0≤Lib.indexByte t 59→I.ile 0 (Lib.indexByte t 59)=false:=fun h=>by subst hI;exact decide_eq_false h
 have hm1:m≤16777215:=by have:=zlv t;rw [hz] at this;simp only at this;omega
 apply zyR
 · intro key
   by_cases hk:0≤Lib.indexByte t 59
   all_goals first
    | (have e1:=e1t hk
       have e2:=hc1 hk
       simp only [e1,e2,hsz,hadd,hcut,hcut4,hx2,je,false_implies,and_true,true_implies])
    | (have e1:=e1f hk
       have e2:=hc2 hk;rw [e2] at hsz
       simp only [e1,hsz,hadd,hcut,hcut4,hx2,jd,false_implies,true_and,true_implies])
   all_goals(repeat' (first|refine ja ?_ ?_|intro _))
   all_goals first
    | (clear key;subst hI;(simp only [nrmA,nrmB,nrlB,reduceCtorEq] at *);first
      |done
      |omega
      |(simp only [jv,jC,jh,ji];omega)
      |((repeat(first|rewrite [if_pos (by first|omega|assumption|(simp only [*,or_self,or_true,true_or,or_false,false_or,jf,jg,jd,je,and_self,and_true,true_and];done)|(simp only [*];omega)|(simp [*];done)|(simp [*];omega))] at h4|rewrite [if_neg (by first|omega|assumption|(simp only [*,or_self,or_true,true_or,or_false,false_or,jf,jg,jd,je,and_self,and_true,true_and];done)|(simp only [*];omega)|(simp [*];done)|(simp [*];omega))] at h4));subst h4;simp only [ChR.pre,outR,WV,isR,RD,List.append_nil] at ho hu hs hc;subst ho;subst hu;subst hs;subst hc;first|done|rfl|(simp;done)|(simp;omega)|(simp only [jC];omega))
      | ((repeat(first|rewrite [if_pos (by first|omega|assumption|(simp only [*,or_self,or_true,true_or,or_false,false_or,jf,jg,jd,je,and_self,and_true,true_and];done)|(simp only [*];omega)|(simp [*];done)|(simp [*];omega))] at h4|rewrite [if_neg (by first|omega|assumption|(simp only [*,or_self,or_true,true_or,or_false,false_or,jf,jg,jd,je,and_self,and_true,true_and];done)|(simp only [*];omega)|(simp [*];done)|(simp [*];omega))] at h4));subst h4;simp only [ChR.pre,outR,WV,isR,RD,List.append_nil] at ho hu hs hc;subst ho;subst hu;subst hs;subst hc;first
          |(have hn0:=hn3 ‹ok=false› ‹e=0›;simp only [jC,true_and,and_true];omega)
          |(have hn0:=gn3 ‹ok2=false› ‹e3=0›;simp only [jC,true_and,and_true];omega))
      | ((repeat(first|rewrite [if_pos (by first|omega|assumption|(simp only [*,or_self,or_true,true_or,or_false,false_or,jf,jg,jd,je,and_self,and_true,true_and];done)|(simp only [*];omega)|(simp [*];done)|(simp [*];omega))] at h4|rewrite [if_neg (by first|omega|assumption|(simp only [*,or_self,or_true,true_or,or_false,false_or,jf,jg,jd,je,and_self,and_true,true_and];done)|(simp only [*];omega)|(simp [*];done)|(simp [*];omega))] at h4))
         rw [ChR.zqS] at h4
         have hl:(o++(b.drop (i+n)).take m).length=o.length+m:=by rw [jk,jv,jC];omega
         exact hA (i+n+m+n2,o++(b.drop (i+n)).take m) ⟨by simp only;omega,by simp only;omega,f,by simp only;rw [jC];omega,by simp only [hl];exact h4⟩ (by simp only;omega)))
    |skip
   all_goals
    refine lpH hI [Xr,Xq,vS,vP,Zl,Zk,rH,rG,ZE,ZC] hX [0,6,7,15] (fun(g:Nat × Nat)=>match g with|(j,c)=>j≤b.length∧c≤16∧∃ f,(b.drop j).length<f∧(zbz f c (b.drop j)).pre o=R) (fun(g:Nat × Nat)=>match g with|(j,c)=>⟨[(0,.v (.one (.p (.list .byte b)))),(6,.v (.one (.row 0))),(7,.v (.one (.p (.int .i64 j)))),(15,.v (.one (.p (.int .i64 c))))],[.row .byte 5 o],166,none⟩) (fun(g:Nat × Nat)=>match g with|(j,c)=>b.length - j) (i+n,0) (by kernel_rfl) (by kernel_rfl) ?_ ?_
    · clear key
      subst hI;simp only [nrmA,nrmB] at *;have hnp:=hn2 (.inl ‹ok=true›)
      refine⟨by omega,by decide,f,by rw [jC];omega,?_⟩
      (repeat(first|rewrite [if_pos (by first|omega|assumption|(simp only [*,or_self,or_true,true_or,or_false,false_or,jf,jg,jd,je,and_self,and_true,true_and];done)|(simp only [*];omega)|(simp [*];done)|(simp [*];omega))] at h4|rewrite [if_neg (by first|omega|assumption|(simp only [*,or_self,or_true,true_or,or_false,false_or,jf,jg,jd,je,and_self,and_true,true_and];done)|(simp only [*];omega)|(simp [*];done)|(simp [*];omega))] at h4))
      exact h4
    exact key
 rintro⟨j,c⟩ ⟨g1,g2,f2,g3,g4⟩ B hB;simp only at hB g1 g2 g3 g4;have hcutj:I.cut b (Int.ofNat j) (I.len b)=b.drop j:=hcut j;clear hA
 refine orcL ?_;go_invoke;refine orcS (by kernel_rfl) ?_
 simp only [zi,Nat.reduceAdd];simp only [hcutj,hcut,hh];obtain⟨q,qn,q1,q2,q3,q4⟩:=vK (b.drop j)
 obtain⟨f2,rfl⟩: ∃ f',f2=f'+1:=⟨f2 - 1,by omega⟩
 rw [zbz] at g4;have qll:=ZB (b.drop j);rw [jC] at g3 q1 qll;simp only [qn,hadd,jJ,List.drop_drop] at g4 ⊢;generalize zA (b.drop j)=x at *;obtain⟨t',n',ok',e'⟩:=x;simp only at *;subst qn
 (repeat' (first|refine ja ?_ ?_|intro _))
 all_goals subst hI
 all_goals(simp only [nrmA,nrmB,nrlB,reduceCtorEq] at *)
 all_goals first
  |done
  |omega
  |(simp only [jv,jC,jh,ji];omega)
  |((repeat(first|rewrite [if_pos (by first|omega|assumption|(simp only [*,or_self,or_true,true_or,or_false,false_or,jf,jg,jd,je,and_self,and_true,true_and];done)|(simp only [*];omega)|(simp [*];done)|(simp [*];omega))] at g4|rewrite [if_neg (by first|omega|assumption|(simp only [*,or_self,or_true,true_or,or_false,false_or,jf,jg,jd,je,and_self,and_true,true_and];done)|(simp only [*];omega)|(simp [*];done)|(simp [*];omega))] at g4));subst g4;simp only [ChR.pre,outR,WV,isR,RD,List.append_nil] at ho hu hs hc;subst ho;subst hu;subst hs;subst hc;first|done|rfl|(simp;done)|(simp;omega)|(simp only [jC];omega)|(have hn0:=q3 ‹ok'=false› ‹e'=0›;simp only [jC,true_and,and_true];omega))
  | ((repeat(first|rewrite [if_pos (by first|omega|assumption|(simp only [*,or_self,or_true,true_or,or_false,false_or,jf,jg,jd,je,and_self,and_true,true_and];done)|(simp only [*];omega)|(simp [*];done)|(simp [*];omega))] at g4|rewrite [if_neg (by first|omega|assumption|(simp only [*,or_self,or_true,true_or,or_false,false_or,jf,jg,jd,je,and_self,and_true,true_and];done)|(simp only [*];omega)|(simp [*];done)|(simp [*];omega))] at g4))
     exact hB (j+q,c+1) ⟨by simp only;omega,by simp only;omega,f2,by simp only;rw [jC];have:=q2 (.inl ‹ok'=true›);omega,by simp only;rw [Int.natCast_add];exact g4⟩ (by simp only;have:=q2 (.inl ‹ok'=true›);omega))
def zks:Know Tryz.prog:=⟨40,zf8,zsY⟩
def zkr:Know Tryz.prog:=⟨40,fun I=>zx I (zf8 I),zf zsY⟩
theorem ziW {b o r:Str} {e:Int} (h:yP b=.bad o e r):e≠0:=by
 have h1:=zdy b;rw [h] at h1;exact(Qb h1).2
def QG:ChR→Nat
 |.more _ h=>h
 |.over _ r=>r.length
 |.bad _ _ r=>r.length
theorem zb6 (o:Str) (h:Nat):outR (.more o h)=o∧QG (.more o h)=h:=⟨rfl,rfl⟩
theorem zb5 (o r:Str):outR (.over o r)=o∧QG (.over o r)=r.length:=⟨rfl,rfl⟩
theorem zfv (o r:Str) (e:Int):outR (.bad o e r)=o∧QG (.bad o e r)=r.length:=⟨rfl,rfl⟩
theorem zpf (b:Str) (x:ChR):WV b x=(b.length:Int) - QG x:=by cases x<;>rfl
theorem zut (o:Str) (x:ChR):QG (x.pre o)=QG x:=by cases x<;>rfl
theorem zgw: ∀ (f:Nat) (k:Int) (r:Str),(outR (zbz f k r)).length+QG (zbz f k r)≤r.length
 |0,k,r=>by simp [zbz,outR,QG]
 | f+1,k,r=>by
   obtain⟨n,hn,h1,-,-,-⟩:=vK r;have hl:(r.drop n).length=r.length - n:=jC;have ih:=zgw f (k+1) (r.drop n);rw [hl] at ih;rw [zbz,hn,jJ]
   repeat' split
   all_goals try simp only [zb6,zb5,zfv,hl,ji]
   all_goals omega
theorem zvE {k:Str→ChR} (hk: ∀ r,(outR (k r)).length+QG (k r)≤r.length) (r:Str):(outR (endR k r)).length+QG (endR k r)≤r.length:=by
 obtain⟨n,hn,h1,-,-,-⟩:=vK r;have hl:(r.drop n).length=r.length - n:=jC;have ih:=hk (r.drop n);rw [hl] at ih;rw [endR,hn,jJ]
 repeat' split
 all_goals try simp only [zb6,zb5,zfv,hl,ji]
 all_goals omega
theorem zi0: ∀ (f:Nat) (a:Int) (r:Str),(outR (zde f a r)).length+QG (zde f a r)≤r.length
 |0,a,r=>by simp [zde,outR,QG]
 | f+1,a,r=>by
   obtain⟨n,hn,h1,-,-,-⟩:=vK r;have hl:(r.drop n).length=r.length - n:=jC;have ht:=zgw f 0 (r.drop n);have he:=zvE (zi0 f (a+(xW (zA r).1).1)) ((r.drop n).drop (xW (zA r).1).1.toNat);rw [jC,hl] at he;rw [hl] at ht;rw [zde,hn,jJ]
   repeat' split
   all_goals try simp only [zb6,zb5,zfv,hl,ji,(ChR.zuD _ r _).1,zut,jk,jv]
   all_goals omega
theorem zkv (b:Str):0≤WV b (yP b)∧WV b (yP b)≤b.length∧(outR (yP b)).length≤b.length:=by
 have:=zi0 (b.length+1) 0 b;rw [zpf];unfold yP;omega
theorem Qa: ∀ {r:Str} {s:Ch} {o rest:Str},Yq s r=.over o rest→∃ n,n≤r.length∧rest=r.drop n
 |[],s,o,rest,h=>by cases h
 | c ::r,s,o,rest,h=>by
   rw [Yq] at h
   split at h
   · cases h
   split at h
   · cases h;exact⟨1,by simp,rfl⟩
   · obtain⟨p,h1,_⟩:=ChR.zuC h
     obtain⟨n,h2,h3⟩:=Qa h1
     exact⟨n+1,by rw [jh];omega,by rw [h3];rfl⟩
theorem ziV {b o r:Str} (h:yP b=.over o r):b.drop (WV b (yP b)).toNat=r:=by
 have h1:=zdy b;rw [h] at h1 ⊢;obtain⟨n,h2,h3⟩:=Qa h1
 have:(WV b (.over o r)).toNat=n:=by rw [WV,h3,jC];omega
 rw [this,h3]
end Go.Proofs.YtkjepecoodjbmaaGreatDoor
namespace Go.Proofs.YtkjepecoodjbmaaGreatDoor
open Go Go.Sep Go.Ab
set_option maxRecDepth 100000
def XQ (I:Alg):KU
 |[.v (.one (.p (.int .i64 c))),.v (.one (.ptr 0 0))],[.pack [.obj 25 [.row 1],.row .evt 34 o]]=>(fun(o:List Evt)=>(some (.one ⟨I.hid (o.length≤1000000),(.ret (.tup [.one (.row 1),.one (.p (.bool false))])),[.pack [.obj 25 [.any]],.row .evt 34 (I.hid (o++[evF c]))]⟩):Option CT)) o
 |_,_=>none
theorem zdE:zu Tryz.prog 35 (XQ alg):=by
 intro args hp r h;unfold XQ at h;split at h<;>cases h
 rename_i c o
 revert o;intro(o:List Evt)
 simp only [CT.Good,zh];intro hneed
 refine spH Tryz.func35 (by kernel_rfl) { keep:=some [0,1,3,4]} [] (by kernel_rfl) ?_
 intro I X hI hX
 refine orcL ?_;go_invoke;refine orcS (by kernel_rfl) ?_
 simp only [zi,Nat.reduceAdd];subst hI;simp only [nrmA,nrmB,nrlB,reduceCtorEq];simp only [jh,ji]
 exact⟨by omega,rfl⟩
def XP:Know Tryz.prog:=⟨35,XQ,zdE⟩
def Si:Know Tryz.prog:=⟨35,fun I=>zx I (XQ I),zf zdE⟩
theorem YT (f:Nat) (r:Str):reqG (f+1) none r=
  if(zA r).2.2.2≠0 then([evF (zA r).2.2.2],false)
  else if(zA r).2.2.1=false then([],decide (r≠[]))
  else if(zA r).1=[] then reqG f none (r.drop (zA r).2.1.toNat)
  else if(firM (zA r).1).2≠0 then([evF (firM (zA r).1).2],false)
  else reqG f (some (firM (zA r).1).1) (r.drop (zA r).2.1.toNat):=by
 rw [reqG]
 cases hr:vF ln0 r with
 |more x=>rw [zfC hr];simp
 | line t rest=>
   obtain⟨n,h1,h2,h3,rfl⟩:=zfD hr;rw [h1];obtain⟨e1,e2⟩:=zvr t;simp only [ne_eq,jf,if_false,je,jJ,e1]
   by_cases ht:t=[]
   · rw [if_pos ht,if_pos ht]
   rw [if_neg ht,if_neg ht]
   by_cases hb:(begM t).1=0
   · simp only [hb,jf,if_false,e2 hb]
   · simp only [hb,jg,if_true]
 |bad e rest=>obtain⟨n,h1,h2,h3,h4,rfl⟩:=zmD hr;rw [h1];simp [h2]
def reqH (f:Nat) (h:Hd) (rest:Str):List Evt × Bool:=
 if(Yc h.minor h.fields).2≠0 then([evF (Yc h.minor h.fields).2],false)
 else if 0≤(Yc h.minor h.fields).1 then
  (if(Yc h.minor h.fields).1≤rest.length then preG ([evH { h with length:=(Yc h.minor h.fields).1}]++bodE (rest.take (Yc h.minor h.fields).1.toNat)++[evE]) (reqG f none (rest.drop (Yc h.minor h.fields).1.toNat))
  else([evH { h with length:=(Yc h.minor h.fields).1}]++bodE rest,true))
 else if RD (yP rest)≠0 then([evH { h with length:=(Yc h.minor h.fields).1}]++bodE (outR (yP rest))++[evF (RD (yP rest))],false)
 else if isR (yP rest)=false then([evH { h with length:=(Yc h.minor h.fields).1}]++bodE (outR (yP rest)),true)
 else preG ([evH { h with length:=(Yc h.minor h.fields).1}]++bodE (outR (yP rest))++[evE]) (reqG f none (rest.drop (WV rest (yP rest)).toNat))
theorem Zw (f:Nat) (h:Hd) (r:Str):reqG (f+1) (some h) r=
  if(zA r).2.2.2≠0 then([evF (zA r).2.2.2],false)
  else if(zA r).2.2.1=false then([],true)
  else if(zA r).1=[] then reqH f h (r.drop (zA r).2.1.toNat)
  else if h.fields.length=16 then([evF 8],false)
  else if(yj (zA r).1).2≠0 then([evF (yj (zA r).1).2],false)
  else reqG f (some { h with fields:=h.fields++[(yj (zA r).1).1]}) (r.drop (zA r).2.1.toNat):=by
 rw [reqG]
 cases hr:vF ln0 r with
 |more x=>rw [zfC hr];simp
 | line t rest=>
   obtain⟨n,h1,h2,h3,rfl⟩:=zfD hr;rw [h1];simp only [ne_eq,jf,if_false,je,jJ]
   by_cases ht:t=[]
   · rw [if_pos ht,if_pos ht]
     unfold reqH;rw [zuV];generalize r.drop n=rest
     split
     · rfl
     split
     · split
       · simp [preG]
       · rfl
     · cases hc:yP rest with
       |more o k=>simp [RD,isR,outR,preG]
       | bad o e r2=>
         have:=ziW hc
         simp [RD,outR,preG,this]
       | over o r2=>
         have hd:=ziV hc;rw [hc] at hd
         simp [RD,isR,outR,preG,hd]
   · rw [if_neg ht,if_neg ht]
 |bad e rest=>obtain⟨n,h1,h2,h3,h4,rfl⟩:=zmD hr;rw [h1];simp [h2]
theorem zyt (l:Str):bodE l=if 0<(l.length:Int) then [evB l] else []:=by
 unfold bodE
 cases l with
 |nil=>rfl
 |cons c r=>rw [if_neg (by simp),if_pos (by rw [jh];omega)]
theorem zzJ (s:Str):(firM s).1.fields=[]:=by
 unfold firM
 split
 · repeat' split
   all_goals rfl
 · rfl
def zo2:Cfg:= { nr:=[15],sl:=[⟨30,3,.fld,some 108⟩,⟨25,0,.evt,some 34⟩]}
def ZW (I:Alg):KU
 |[.v (.one (.p (.list .byte b)))],[]=>(fun(b:Str)=>(some (.one ⟨I.hid (b.length≤200000),(.ret (.tup [.one (.row 0),.one (.p (.bool (I.hid ((reqG (b.length+1) none b).2))))])),[.row .evt 34 (I.hid ((reqG (b.length+1) none b).1))]⟩):Option CT)) b
 |_,_=>none
set_option maxHeartbeats 8000000 in
theorem zbZ:zu Tryz.prog 10 (ZW alg):=by
 intro args hp r h;unfold ZW at h;split at h<;>cases h
 rename_i b;simp only [CT.Good,zh];intro hneed;generalize hR:reqG (b.length+1) none b=R;obtain⟨RE,RB⟩:=R
 refine spH Tryz.func10 (by kernel_rfl) { zo2 with keep:=some [0,2,3,4,5,6,7,8,9,10,11,12,13,14,15,16]} [XP,rH,rG,Xc,Xb,Vh,Vg,ZE,ZC,zks,zkr,XP,Si] (by kernel_rfl) ?_
 intro I X hI hX
 refine orcL ?_;go_invoke;refine orcS (by kernel_rfl) ?_
 simp only [zi,Nat.reduceAdd]
 refine lpH hI [rH,rG,Xc,Xb,Vh,Vg,ZE,ZC,zks,zkr,XP,Si] hX [0,4,5,6] (fun(g:Nat × List Evt)=>match g with|(i,o)=>i≤b.length∧o.length≤4 * i∧∃ f,(b.drop i).length<f∧preG o (reqG f none (b.drop i))=(RE,RB)) (fun(g:Nat × List Evt)=>match g with|(i,o)=>⟨[(0,.v (.one (.p (.list .byte b)))),(4,.v (.one (.ptr 0 0))),(5,.v (.one (.fn 35 [.ptr 0 0]))),(6,.v (.one (.p (.int .i64 i))))],[.pack [.obj 25 [.row 1],.row .evt 34 o]],188,none⟩) (fun(g:Nat × List Evt)=>match g with|(i,o)=>b.length - i) (0,[]) (by kernel_rfl) (by kernel_rfl) ?_ ?_
 · exact⟨jM _,jM _,b.length+1,Nat.lt_succ_self _,by rw [← hR];simp [preG]⟩
 rintro⟨i,o⟩ ⟨h1,h2,f,h3,h4⟩ A hA;simp only at hA h1 h2 h3 h4
 have keyF: ∀ (m t:Str) (mi le:Int) (j g:Nat) (st:St),i<j→j≤b.length→(b.drop j).length<g→preG o (reqG g (some ⟨m,t,mi,[],le⟩) (b.drop j))=(RE,RB)→cutM { zo2 with keep:=some [0,2,3,4,5,6,7,8,9,10,11,12,13,14,15,16]} 0 [0,4,5,6,11] st=some ⟨[(0,.v (.one (.p (.list .byte b)))),(4,.v (.one (.ptr 0 0))),(5,.v (.one (.fn 35 [.ptr 0 0]))),(6,.v (.one (.p (.int .i64 j)))),(11,.v (.one (.ptr 1 0)))],[.pack [.obj 25 [.row 1],.row .evt 34 o],.pack [.obj 30 [.p (.str m),.p (.str t),.p (.int .i64 mi),.row 1,.p (.int .i64 le)],.row .fld 108 ([])]],188,none⟩→Ok Tryz.prog X (fun o h=>o=(.ret (.tup [.one (.row 0),.one (.p (.bool RB))]))∧h=[.row .evt 34 RE]) (leaf I tab { zo2 with keep:=some [0,2,3,4,5,6,7,8,9,10,11,12,13,14,15,16]} (round I tab { zo2 with keep:=some [0,2,3,4,5,6,7,8,9,10,11,12,13,14,15,16]} 0 [0,4,5,6] A [⟨vI Tryz.f10,finK I tab { zo2 with keep:=some [0,2,3,4,5,6,7,8,9,10,11,12,13,14,15,16]} 0 Tryz.f10⟩] 0 [1,1,1,1,0]::[⟨vI Tryz.f10,finK I tab { zo2 with keep:=some [0,2,3,4,5,6,7,8,9,10,11,12,13,14,15,16]} 0 Tryz.f10⟩]) 0 [0,1,1,1,1,1,1,1,0,0] st):=by
  intro m t mi le j g st hj1 hj2 hg1 hg2 hst
  refine lpH hI [rH,rG,Xc,Xb,Vh,Vg,ZE,ZC,zks,zkr,XP,Si] hX [0,4,5,6,11] (fun(g:Nat × List Fld)=>match g with|(j,fs)=>i<j∧j≤b.length∧fs.length≤16∧(∀ x ∈ fs,x.name.length≤1000000∧x.value.length≤1000000)∧∃ g,(b.drop j).length<g∧preG o (reqG g (some ⟨m,t,mi,fs,le⟩) (b.drop j))=(RE,RB)) (fun(g:Nat × List Fld)=>match g with|(j,fs)=>⟨[(0,.v (.one (.p (.list .byte b)))),(4,.v (.one (.ptr 0 0))),(5,.v (.one (.fn 35 [.ptr 0 0]))),(6,.v (.one (.p (.int .i64 j)))),(11,.v (.one (.ptr 1 0)))],[.pack [.obj 25 [.row 1],.row .evt 34 o],.pack [.obj 30 [.p (.str m),.p (.str t),.p (.int .i64 mi),.row 1,.p (.int .i64 le)],.row .fld 108 fs]],188,none⟩) (fun(g:Nat × List Fld)=>match g with|(j,fs)=>b.length - j) (j,[]) (by kernel_rfl) hst ?_ ?_
  · exact⟨hj1,hj2,jM _,(fun x h=>by cases h),g,hg1,hg2⟩
  clear hg1 hg2 hst hj1 hj2;rintro⟨j,fs⟩ ⟨k1,k2,k3,k4,g,k5,k6⟩ B hB;simp only at hB k1 k2 k3 k4 k5 k6
  refine orcL ?_;go_invoke;refine orcS (by kernel_rfl) ?_
  simp only [zi,Nat.reduceAdd]
  have hh: ∀ {α:Type} (x:α),I.hid x=x:=by subst hI;intros;rfl
  have hcut: ∀ j:Nat,I.cut b (j:Int) (I.len b)=b.drop j:=fun j=>by
   subst hI;rw [xU,zU,jJ,jJ]
   exact jq (by rw [jC];exact jL _)
  have hadd: ∀ j k:Nat,I.add (j:Int) (k:Int)=((j+k:Nat):Int):=fun j k=>by subst hI;rw [vg];omega
  have hcut0:I.cut b (Int.ofNat j) (I.len b)=b.drop j:=hcut j;simp only [hcut0,hh];obtain⟨n,hn,hn1,hn2,hn3,hn4⟩:=vK (b.drop j)
  obtain⟨g,rfl⟩: ∃ g',g=g'+1:=⟨g - 1,by omega⟩
  rw [Zw] at k6;unfold reqH at k6;rw [jC] at k5 hn1;simp only [hn,hadd,hcut,jJ,List.drop_drop] at k6 ⊢;have hll:=ZB (b.drop j);rw [jC] at hll;generalize zA (b.drop j)=x at *;obtain⟨t',n',ok,e⟩:=x;simp only at *;subst hn;have hpl:=zb4 t'
  have hfs:FsOk fs:=⟨by omega,k4⟩
  have hcl:=zkv (b.drop (j+n));rw [jC] at hcl;generalize Yc mi fs=lh at *;obtain⟨k,kc⟩:=lh;simp only at *;generalize WV (b.drop (j+n)) (yP (b.drop (j+n)))=ur at *;generalize yP (b.drop (j+n))=R at *;generalize outR R=ro at *;generalize isR R=ri at *;generalize RD R=rc at *
  have hle:(((b.drop (j+n)).length:Nat):Int)=(b.length:Int) - ((j+n:Nat):Int):=by rw [jC];omega
  rw [hle] at k6;simp only [zyt,zl6] at k6
  have hBn:e=0→ok=true→¬ t'=[]→¬ fs.length=16→(yj t').2=0→_:=fun c1 c2 c3 c4 c5=>hB (j+n,fs++[(yj t').1]) ⟨by simp only;omega,by simp only;omega,by simp;omega,(by
   intro x hx
   rcases List.mem_append.1 hx with hx|hx
   · exact k4 x hx
   · rw [List.mem_singleton.1 hx];omega),g,by simp only;rw [jC];have:=hn2 (.inl c2);omega,by
     rw [if_neg (by simp [c1]),if_neg (by simp [c2]),if_neg c3,if_neg c4,if_neg (by simp [c5])] at k6;exact k6⟩ (by simp only;have:=hn2 (.inl c2);omega)
  have hAn: ∀ (o':List Evt) (q:Nat),i<q→q≤b.length→o'.length≤o.length+3→(b.drop q).length<g→preG o' (reqG g none (b.drop q))=(RE,RB)→_:=fun o' q q1 q2 q3 q4 q5=>hA (q,o') ⟨q2,by simp only;omega,g,q4,q5⟩ (by simp only;omega)
  have htk:(((j+n:Nat):Int)+k).toNat - (j+n)=k.toNat:=by omega
  clear hA hB hpl hn3 hn4 hR h4 hle
  (repeat' (first|refine ja ?_ ?_|intro _))
  all_goals(subst hI;(simp only [nrmA,nrmB,nrlB,reduceCtorEq] at *);(try simp only [List.nil_append,htk] at *))
  all_goals first
   |done
   |omega
   |exact hfs
   |exact(k4 _ ‹_›).1
   |exact(k4 _ ‹_›).2
   |(with_reducible show _≤_;simp only [jk,jv,jC,jh,ji];omega)
   |exact hBn ‹_› ‹_› ‹_› (by omega) ‹_›
   |(with_reducible show _=_;clear hAn hBn hcl hfs k4 h2 h3 k5 hn2 k1 k2 hn1 k3 h1;((repeat(first|rw [if_pos (by first|omega|assumption)] at k6|rw [if_neg (by first|omega|assumption|(rw [‹ok=true›];decide)|(rw [‹ri=true›];decide))] at k6));simp only [preG,Prod.mk.injEq,List.append_nil,List.nil_append] at k6;obtain⟨rfl,rfl⟩:=k6;first|rfl|(simp [evH,evB,evE,evF,hd0,prt0];done)))
   | (with_reducible show A _
      (repeat(first|rw [if_pos (by first|omega|assumption)] at k6|rw [if_neg (by first|omega|assumption|(rw [‹ok=true›];decide)|(rw [‹ri=true›];decide))] at k6))
      have hn0:=hn2 (.inl ‹ok=true›)
      first
       |rw [show((j+n:Nat):Int)+k=((j+n+k.toNat:Nat):Int) by omega]
       |rw [show((j+n:Nat):Int)+ur=((j+n+ur.toNat:Nat):Int) by omega]
      rw [zl6] at k6
      refine hAn _ _ (by omega) (by omega) (by simp only [jk,jh,ji];omega) (by rw [jC];omega) ?_
      rw [← k6]
      simp only [jo,evH,evB,evE,hd0,prt0,List.nil_append,List.cons_append])
 refine orcL ?_;go_invoke;refine orcS (by kernel_rfl) ?_
 simp only [zi,Nat.reduceAdd]
 have hh: ∀ {α:Type} (x:α),I.hid x=x:=by subst hI;intros;rfl
 have hcut: ∀ j:Nat,I.cut b (j:Int) (I.len b)=b.drop j:=fun j=>by
  subst hI;rw [xU,zU,jJ,jJ]
  exact jq (by rw [jC];exact jL _)
 have hadd: ∀ j k:Nat,I.add (j:Int) (k:Int)=((j+k:Nat):Int):=fun j k=>by subst hI;rw [vg];omega
 have hcut0:I.cut b (Int.ofNat i) (I.len b)=b.drop i:=hcut i;simp only [hcut0,hh];obtain⟨n,hn,hn1,hn2,hn3,hn4⟩:=vK (b.drop i)
 obtain⟨f,rfl⟩: ∃ g',f=g'+1:=⟨f - 1,by omega⟩
 rw [YT] at h4;rw [jC] at h3 hn1;simp only [hn,hadd,hcut,jJ,List.drop_drop] at h4 ⊢;have hll:=ZB (b.drop i);rw [jC] at hll;generalize zA (b.drop i)=x at *;obtain⟨t',n',ok,e⟩:=x;simp only at *;subst hn;have hfm:(firM t').1.fields=[]:=zzJ t'
 have hlt:(i:Int)<(b.length:Int)↔b.drop i≠[]:=by
  constructor
  · intro h k
    have:=congrArg List.length k;rw [jC] at this
    simp at this;omega
  · intro h
    have:b.length - i≠0:=fun k=>h (List.eq_nil_of_length_eq_zero (by rw [jC];exact k))
    omega
 generalize firM t'=fm at *;obtain⟨⟨hm,ht,hmi,hfl,hle⟩,fc⟩:=fm;simp only at *;subst hfm
 have hkF:=fun(h:ok=true) st=>keyF hm ht hmi hle (i+n) f st (by have:=hn2 (.inl h);omega) (by omega) (by rw [jC];have:=hn2 (.inl h);omega)
 clear keyF
 (repeat' (first|refine ja ?_ ?_|intro _))
 all_goals first
  | ((with_reducible show Ok _ _ _ _)
     have k1:ok=true:=by clear hkF hA;subst hI;(simp only [nrmA,nrmB,nrlB,reduceCtorEq] at *);assumption
     have k2: ¬ t'=[]:=by clear hkF hA;subst hI;(simp only [nrmA,nrmB,nrlB,reduceCtorEq] at *);assumption
     have k3:fc=0:=by clear hkF hA;subst hI;(simp only [nrmA,nrmB,nrlB,reduceCtorEq] at *);assumption
     have k4:e=0:=hn4 k1
     rw [if_neg (by simp [k4]),if_neg (by simp [k1]),if_neg k2,if_neg (by simp [k3])] at h4
     subst hI
     exact hkF k1 _ h4 (by kernel_rfl))
  | (clear hkF
     subst hI
     (simp only [nrmA,nrmB,nrlB,reduceCtorEq] at *)
     first
     |done
     |omega
     |(rw [jC];omega)
     | (with_reducible show A _
        have hn0:=hn2 (.inl ‹ok=true›)
        ((repeat(first|rewrite [if_pos (by first|omega|assumption|(simp only [*,or_self,or_true,true_or,or_false,false_or,jf,jg,jd,je,and_self,and_true,true_and];done)|(simp only [*];omega)|(simp [*];done)|(simp [*];omega))] at h4|rewrite [if_neg (by first|omega|assumption|(simp only [*,or_self,or_true,true_or,or_false,false_or,jf,jg,jd,je,and_self,and_true,true_and];done)|(simp only [*];omega)|(simp [*];done)|(simp [*];omega))] at h4)))
        exact hA (i+n,o) ⟨by simp only;omega,by simp only;omega,f,by simp only;rw [jC];omega,h4⟩ (by simp only;omega))
     | (clear hn2 hn3 hn4 hA hR
        with_reducible show _=_
        ((repeat(first|rewrite [if_pos (by first|omega|assumption|(simp only [*,or_self,or_true,true_or,or_false,false_or,jf,jg,jd,je,and_self,and_true,true_and];done)|(simp only [*];omega)|(simp [*];done)|(simp [*];omega))] at h4|rewrite [if_neg (by first|omega|assumption|(simp only [*,or_self,or_true,true_or,or_false,false_or,jf,jg,jd,je,and_self,and_true,true_and];done)|(simp only [*];omega)|(simp [*];done)|(simp [*];omega))] at h4));simp only [preG,Prod.mk.injEq,List.append_nil,List.nil_append] at h4;obtain⟨rfl,rfl⟩:=h4;first|rfl|(simp [evH,evB,evE,evF,hd0,prt0];done)|exact decide_eq_decide.2 hlt))
     )
def WZ:Know Tryz.prog:=⟨10,ZW,zbZ⟩
def WY:Know Tryz.prog:=⟨10,fun I=>zx I (ZW I),zf zbZ⟩
end Go.Proofs.YtkjepecoodjbmaaGreatDoor
namespace Go.Proofs.YtkjepecoodjbmaaGreatDoor
open Go Go.Sep Go.Ab Go.RowKit
set_option maxRecDepth 100000
set_option maxHeartbeats 2000000
end Go.Proofs.YtkjepecoodjbmaaGreatDoor
namespace Go.Proofs.YtkjepecoodjbmaaGreatDoor
open Go Go.Sep Go.Ab
set_option maxRecDepth 100000
end Go.Proofs.YtkjepecoodjbmaaGreatDoor
namespace Go.Proofs.YtkjepecoodjbmaaGreatDoor
open Go Go.Sep Go.Ab
set_option maxRecDepth 100000
def K2 (e:Evt):Prop:=e.kind=2
theorem zAx (t:Str):Lib.hasPrefix t [47]=true↔t.length≠0∧((t.getD 0 0).toNat:Int)=47:=by
 unfold Lib.hasPrefix
 cases t with
 |nil=>simp
 | cons c r=>
   simp only [List.isPrefixOf,Bool.and_true,beq_iff_eq,jh,List.getD_cons_zero]
   exact⟨fun h=>⟨by omega,by rw [← h];rfl⟩,fun h=>(UInt8.toNat_inj.1 (by rw [show(47:UInt8).toNat=47 from rfl];omega))⟩
theorem any2 (t:Str):Lib.containsAny t [32,9]=true↔0≤xK [32] t 0∨0≤xK [9] t 0:=by
 have h1: ∀ c:UInt8,0≤xK [c] t 0↔t.contains c=true:=fun c=>by
  rw [vT,Lib.contains_iff_indexByte,decide_eq_true_iff];have:=yF t c
  split<;>omega
 rw [h1,h1];unfold Lib.containsAny;rw [decide_eq_true_iff]
 induction t with
 |nil=>simp [Lib.indexAny]
 | cons c r ih=>
   have hge:=Lib.indexAny_ge [32,9] r
   have ih:=ih (fun c=>by
    rw [vT,Lib.contains_iff_indexByte,decide_eq_true_iff];have:=yF r c
    split<;>omega)
   unfold Lib.indexAny
   by_cases hc:([32,9]:Str).contains c=true
   · rw [if_pos hc]
     simp only [List.contains_cons,List.contains_nil,Bool.or_false,Bool.or_eq_true,beq_iff_eq] at hc ⊢
     exact⟨fun _=>by rcases hc with h|h<;>simp [h],fun _=>by decide⟩
   · rw [if_neg hc]
     have h2: ¬ (32:UInt8)=c∧¬ (9:UInt8)=c:=by
      simp only [List.contains_cons,List.contains_nil,Bool.or_false,Bool.or_eq_true,beq_iff_eq,not_or] at hc;exact⟨fun h=>hc.1 h.symm,fun h=>hc.2 h.symm⟩
     have h3:(c::r).contains 32=r.contains 32:=by simp [h2.1]
     have h4:(c::r).contains 9=r.contains 9:=by simp [h2.2]
     rw [h3,h4];refine Iff.trans ?_ ih
     by_cases hm:Lib.indexAny r [32,9]= -1
     · rw [if_pos (by rw [hm];rfl),hm]
     · rw [if_neg (by simpa using hm)]
       omega
end Go.Proofs.YtkjepecoodjbmaaGreatDoor
namespace Go.Proofs.YtkjepecoodjbmaaGreatDoor
open Go Go.Sep Go.Ab
def zcU:Str:=[67,111,110,116,101,110,116,45,76,101,110,103,116,104]
def ziR (n:Int):Fld:=⟨zcU,decS n⟩
theorem zte: ∀ {fs:List Fld},badF fs=0→∀ f ∈ fs,(textF f).2=0
 | f ::l,h,g,hg=>by
   unfold badF at h
   split at h
   · rename_i hf
     rcases List.mem_cons.1 hg with rfl|hg
     · exact hf
     · exact zte h g hg
   · rename_i hf;exact absurd h hf
theorem zk7 {c:UInt8} (h:tokB (c.toNat:Int)=true):YP (c.toNat:Int)=true:=by
 have: ∀ n:Fin 256,tokB (n.1:Int)=true→YP (n.1:Int)=true:=by decide+kernel
 exact this ⟨c.toNat,c.toNat_lt⟩ h
theorem uV (a b:Str):yN (a++b)=(yN a&&yN b):=by unfold yN;rw [List.all_append]
theorem zpo {f:Fld} (h:(textF f).2=0):yN (textF f).1=true∧(textF f).1≠[]:=by
 obtain⟨h1,h2,h3⟩:=zk8 h;rw [h3,uV,uV];have:=TQ h1.tok;have hn:yN f.name=true:=List.all_eq_true.2 fun x hx=>zk7 (QX this.2 hx);rw [hn,h1.seen]
 exact⟨by decide+kernel,by simp⟩
def dgB (c:UInt8):Bool:=U6 (c.toNat:Int)
theorem zwN: ∀ d:Fin 10,dgB (dgN d.1)=true:=by decide+kernel
theorem zbu: ∀ f n,(txtN 10 f n).all dgB=true
 |0,_=>rfl
 | f +1,n=>by
   by_cases h:n<10
   · rw [ZL h]
     simp only [List.all_cons,List.all_nil,Bool.and_true];exact zwN ⟨n,h⟩
   · rw [YI h,List.all_append,zbu f]
     simp only [List.all_cons,List.all_nil,Bool.and_true,Bool.true_and]
     exact zwN ⟨n % 10,Nat.mod_lt _ (by decide)⟩
theorem zsG {c:UInt8} (h:dgB c=true):YP (c.toNat:Int)=true∧bl c=false:=by
 have: ∀ n:Fin 256,U6 (n.1:Int)=true→YP (n.1:Int)=true∧bl (UInt8.ofNat n.1)=false:=by decide+kernel
 have:=this ⟨c.toNat,c.toNat_lt⟩ h
 simpa using this
theorem ziI {s:Str} (h:s.all dgB=true):s.dropWhile bl=s:=by
 cases s with
 |nil=>rfl
 | cons c l=>
   rw [List.all_cons,jK] at h;rw [List.dropWhile_cons,(zsG h.1).2]
   simp
theorem zwZ {s:Str} (h:s.all dgB=true):Lib.trimS s [32,9]=s:=by
 rw [QV];unfold trL trR
 have h2:s.reverse.all dgB=true:=by rw [List.all_reverse];exact h
 rw [ziI h2,List.reverse_reverse,ziI h]
theorem zpX {s:Str} (h:s.all dgB=true):yN s=true:=List.all_eq_true.2 fun x hx=>(zsG (List.all_eq_true.1 h x hx)).1
theorem znr {n:Int}:yN (decS n)=true:=zpX (s:=decS n) (zbu _ n.toNat)
theorem zo1 (n:Int):yj (zcU++[58,32]++decS n)=(ziR n,0):=
 zix (f:=ziR n) ⟨(by decide+kernel:wZ zcU=true),(by decide:zcU.length≤40),zpX (zbu _ _),zwZ (zbu _ _)⟩
theorem zsW (n:Int):yN (zcU++[58,32]++decS n)=true∧(zcU++[58,32]++decS n).length≤200:=by
 have:=xq n
 refine⟨?_,by simp [zcU];omega⟩
 rw [uV,uV,znr]
 decide+kernel
end Go.Proofs.YtkjepecoodjbmaaGreatDoor
namespace Go.Proofs.YtkjepecoodjbmaaGreatDoor
open Go Go.Sep Go.Ab
set_option maxRecDepth 100000
theorem Wh: ∀ (f g:Nat) (o:Option Hd) (r:Str),r.length<f→r.length<g→reqG f o r=reqG g o r
 |0,_,_,_,h,_=>absurd h (Nat.not_lt_zero _)
 |_+1,0,_,_,_,h=>absurd h (Nat.not_lt_zero _)
 | f +1,g+1,o,r,hf,hg=>by
   obtain⟨n,hn,hn1,hn2,_⟩:=vK r
   have hd:(zA r).2.2.1≠false→∀ k,((r.drop (zA r).2.1.toNat).drop k).length<f∧((r.drop (zA r).2.1.toNat).drop k).length<g:=fun h k=>by
    have:=hn2 (.inl (by simpa using h))
    rw [hn,jJ,jC,jC];omega
   have hd0:=fun h=>hd h 0;simp only [List.drop_zero] at hd0
   cases o with
   | none=>
     rw [YT,YT]
     split
     · rfl
     split
     · rfl
     rename_i h2;rw [Wh f g none _ (hd0 h2).1 (hd0 h2).2,Wh f g (some _) _ (hd0 h2).1 (hd0 h2).2]
   | some h=>
     rw [Zw,Zw]
     split
     · rfl
     split
     · rfl
     rename_i h2;unfold reqH;rw [Wh f g none _ (hd h2 _).1 (hd h2 _).2,Wh f g none _ (hd h2 _).1 (hd h2 _).2,Wh f g (some _) _ (hd0 h2).1 (hd0 h2).2]
theorem zg1 {f g:Nat} {r:Str} (hf:r.length<f) (hg:r.length<g):reqG f none r=reqG g none r:=Wh f g none r hf hg
theorem zbG (b:Str): ∀ a:Str,(∀ x ∈ a,x≠32)→zD (a++32::b)=a::zD b
 |[],_=>by simp [zD]
 | c::a,h=>by
   have ih:=zbG b a fun x hx=>h x (List.mem_cons_of_mem _ hx);rw [List.cons_append,zD,if_neg (h c (List.mem_cons_self ..)),ih]
theorem zgD: ∀ a:Str,(∀ x ∈ a,x≠32)→zD a=[a]
 |[],_=>rfl
 | c::a,h=>by
   have ih:=zgD a fun x hx=>h x (List.mem_cons_of_mem _ hx);rw [zD,if_neg (h c (List.mem_cons_self ..)),ih]
theorem zpn {s:Str} (h:tokA s=true): ∀ x ∈ s,x≠32:=fun x hx e=>by
 have:=QX h hx;rw [e] at this
 exact absurd this (by decide+kernel)
structure zyy (m t:Str) (fs:List Fld) (b:Str):Prop where
 tok:wZ m=true
 pfx:Lib.hasPrefix t [47]=true
 any:Lib.containsAny t [32,9]=false
 seen:yN t=true
 hl:(rqHd m t).length≤200
 bl:b.length≤4000
 fl:fs.length≤15
 cl:valsF fs qB=[]
 te:valsF fs Vt=[]
 ho:(oneF (valsF fs ZF)).2=0
 ok: ∀ f ∈ fs,(textF f).2=0
theorem zxi {m t:Str} {fs:List Fld} {b:Str} (h:rqwC m t fs b=0):zyy m t fs b∧rqwT m t fs b=rqHd m t++[13,10]++xE fs++YE b.length++b:=by
 have ht:rqwT m t fs b=rqHd m t++[13,10]++xE fs++YE b.length++b:=by rw [rqwT,if_pos h]
 unfold rqwC at h
 split at h
 · cases h
 split at h
 · cases h
 split at h
 · cases h
 split at h
 · cases h
 split at h
 · cases h
 split at h
 · cases h
 split at h
 · cases h
 split at h
 · cases h
 split at h
 · exact absurd h (by decide)
 rename_i h1 h2 h3 h4 h5 h6 h7 h8 h9
 exact⟨⟨by simpa using h1,by simpa using h2,by simpa using h3,by simpa using h4,by omega,by omega,by omega,List.eq_nil_of_length_eq_zero (by omega),List.eq_nil_of_length_eq_zero (by omega),by simpa using h9,zte h⟩,ht⟩
theorem zzn {t:Str} (h:Lib.containsAny t [32,9]=false):(∀ x ∈ t,x≠32)∧t.contains 9=false:=by
 have h1: ¬ (0≤xK [32] t 0∨0≤xK [9] t 0):=fun k=>by rw [(any2 t).2 k] at h;cases h
 have h2: ∀ c:UInt8,0≤xK [c] t 0↔t.contains c=true:=fun c=>by
  rw [vT,Lib.contains_iff_indexByte,decide_eq_true_iff];have:=yF t c
  split<;>omega
 rw [h2,h2,not_or] at h1
 refine⟨fun x hx e=>h1.1 ?_,by simpa using h1.2⟩
 rw [← e];exact List.contains_iff_mem.2 hx
theorem zrO {m t:Str} {fs:List Fld} {b:Str} (h:zyy m t fs b):firM (rqHd m t)=(⟨m,t,1,[],0⟩,0)∧yN (rqHd m t)=true∧rqHd m t≠[]:=by
 obtain⟨hm0,hm1⟩:=TQ h.tok;obtain⟨ht0,ht1⟩:=zzn h.any;have hp:=(zAx t).1 h.pfx
 have hs:zD (rqHd m t)=[m,t,qf]:=by
  unfold rqHd
  rw [show m++[32]++t++[32,72,84,84,80,47,49,46,49]=m++32::(t++32::qf) by simp [qf]]
  rw [zbG _ m (zpn hm1),zbG _ t ht0,zgD qf (by decide)]
 have hh:t.head?=some 47:=by
  cases t with
  |nil=>exact absurd rfl hp.1
  | cons c r=>
    have:=hp.2;simp only [List.getD_cons_zero] at this
    rw [List.head?_cons,show c=47 from UInt8.toNat_inj.1 (by rw [show(47:UInt8).toNat=47 from rfl];omega)]
 refine⟨?_,?_,by simp [rqHd]⟩
 · unfold firM
   rw [hs];simp only
   rw [if_neg (by simp [h.tok]),if_neg (by rw [hh,ht1];simp)];simp
 · unfold rqHd
   rw [uV,uV,uV,h.seen];have h1:yN m=true:=List.all_eq_true.2 fun x hx=>zk7 (QX hm1 hx);rw [h1]
   decide+kernel
theorem Ur {s:Str} (t:Str) (h:yN s=true) (hl:s.length≤200):zA (s++[13,10]++t)=(s,((s.length+2:Nat):Int),true,0)∧(s++[13,10]++t).drop (s.length+2)=t:=by
 rw [show s++[13,10]++t=s++13::10::t by simp]
 refine⟨by rw [zow t h hl];simp,?_⟩
 rw [show s.length+2=s.length+2 from rfl,← List.drop_drop,List.drop_left];rfl
theorem zg2: ∀ (fs:List Fld) (f:Nat) (h:Hd) (r:Str),(∀ x ∈ fs,(textF x).2=0)→h.fields.length+fs.length≤16→reqG (f+fs.length) (some h) (xE fs++r)=reqG f (some { h with fields:=h.fields++fs}) r
 |[],f,h,r,_,_=>by simp [xE]
 | x::fs,f,h,r,hx,hl=>by
   have h0:=hx x (List.mem_cons_self ..);obtain⟨e1,e2⟩:=znY h0;obtain⟨e3,e4⟩:=zpo h0;obtain⟨s1,s2⟩:=Ur (xE fs++r) e3 e2;rw [jh] at hl
   rw [show f+(x::fs).length=(f+fs.length)+1 by rw [jh];omega]
   rw [show xE (x::fs)++r=(textF x).1++[13,10]++(xE fs++r) by simp [xE]]
   rw [Zw,s1];simp only [ne_eq,jf,if_false,je,jJ,s2,e1]
   rw [if_neg e4,if_neg (by omega)]
   rw [zg2 fs f _ r (fun y hy=>hx y (List.mem_cons_of_mem _ hy)) (by simp;omega)]
   simp
theorem zbp (a b:List Fld) (n:Str):valsF (a++b) n=valsF a n++valsF b n:=by simp [valsF]
theorem zyl: ∀ d:Fin 10,hexK ((dgN d.1).toNat:Int)=d.1:=by decide+kernel
theorem zmn (base:Int): ∀ (s t:Str) (n:Int),(numG base n s).2=true→numG base n (s++t)=numG base (numG base n s).1 t
 |[],t,n,_=>rfl
 | c ::l,t,n,h=>by
   rw [numG] at h;rw [List.cons_append,numG,numG]
   by_cases hc:hexK c.toNat<0∨base≤hexK c.toNat
   · rw [if_pos hc] at h;cases h
   · rw [if_neg hc] at h
     rw [if_neg hc,if_neg hc];exact zmn base l t _ h
theorem zhg: ∀ (f n:Nat),n<10 ^ f→0<f→numG 10 0 (txtN 10 f n)=((n:Int),true)∧(txtN 10 f n).length≤f∧txtN 10 f n≠[]
 |0,n,_,h=>by cases h
 | f + 1,n,hn,_=>by
   have one: ∀ d:Nat,d<10→∀ m:Int,numG 10 m [dgN d]=(m * 10+d,true):=fun d hd m=>by
    have:=zyl ⟨d,hd⟩;simp only at this
    rw [numG,this,if_neg (by omega),numG]
   by_cases h:n<10
   · rw [ZL h,one n h]
     simp
   · rw [YI h]
     have hf:0<f:=by
      rcases Nat.eq_zero_or_pos f with h0|h0
      · subst h0;simp at hn;omega
      · exact h0
     have hd:n / 10<10 ^ f:=Nat.div_lt_of_lt_mul (by rw [Nat.pow_succ,Nat.mul_comm] at hn;exact hn)
     obtain⟨h1,h2,h3⟩:=zhg f (n / 10) hd hf
     refine⟨?_,by rw [jk];simp;omega,by simp⟩
     rw [zmn _ _ _ _ (by rw [h1]),h1,one _ (Nat.mod_lt _ (by omega))]
     have:=Nat.div_add_mod n 10
     congr 1
     show((n / 10:Nat):Int) * 10+((n % 10:Nat):Int)=n
     omega
theorem zym {n:Nat} (h:n≤4000):numA (decS (n:Int)) 10 9=((n:Int),true):=by
 have h1:numG 10 0 (txtN 10 9 n)=((n:Int),true)∧(txtN 10 9 n).length≤9∧txtN 10 9 n≠[]:=zhg 9 n (by simp only [Nat.reducePow];omega) (by decide)
 obtain⟨e1,e2,e3⟩:=h1
 show numA (txtN 10 9 n) 10 9=_
 rw [numA,if_neg (fun h=>by rcases h with h|h;exact e3 h;omega),e1]
theorem zzs {fs:List Fld} {n:Nat} (h1:valsF fs qB=[]) (h2:valsF fs Vt=[]) (h3:(oneF (valsF fs ZF)).2=0) (hn:n≤4000):Yc 1 (fs++[ziR (n:Int)])=((n:Int),0):=by
 have e1:valsF (fs++[ziR (n:Int)]) qB=[decS (n:Int)]:=by rw [zbp,h1];rfl
 have e2:valsF (fs++[ziR (n:Int)]) Vt=[]:=by rw [zbp,h2];rfl
 have e3:valsF (fs++[ziR (n:Int)]) ZF=valsF fs ZF:=by rw [zbp];exact List.append_nil _
 unfold Yc zj5 lenM;rw [e1,e2,e3,h3];simp only [ne_eq,jf,if_false,sizM,List.getD_cons_zero,zym hn]
 rw [if_neg (by decide)]
 simp
 omega
theorem zuu {m t:Str} {fs:List Fld} {b:Str} (h:zyy m t fs b) (r:Str) (f:Nat) (hf:(rqHd m t++[13,10]++xE fs++YE b.length++b++r).length<f):
  reqG f none (rqHd m t++[13,10]++xE fs++YE b.length++b++r)=preG ([evH ⟨m,t,1,fs++[ziR (b.length:Int)],(b.length:Int)⟩]++bodE b++[evE]) (reqG (r.length+1) none r):=by
 obtain⟨g1,g2,g3⟩:=zrO h
 have hr:((xE fs++YE b.length++b++r).length<(r.length+1)+2+fs.length+(xE fs++YE b.length++b++r).length):=by omega
 rw [zg1 hf (g:=(r.length+2+fs.length+(rqHd m t++[13,10]++xE fs++YE b.length++b++r).length)+3) (by omega)]
 generalize(rqHd m t++[13,10]++xE fs++YE b.length++b++r).length=N;clear hr hf
 rw [show rqHd m t++[13,10]++xE fs++YE b.length++b++r=rqHd m t++[13,10]++(xE fs++((zcU++[58,32]++decS (b.length:Int))++[13,10]++([]++[13,10]++(b++r)))) by simp [YE,zcU]]
 obtain⟨s1,s2⟩:=Ur (xE fs++((zcU++[58,32]++decS (b.length:Int))++[13,10]++([]++[13,10]++(b++r)))) g2 h.hl;rw [YT,s1];simp only [ne_eq,jf,if_false,je,jJ,s2,g1];rw [if_neg g3]
 rw [show r.length+2+fs.length+N+2=(r.length+2+N+2)+fs.length by omega,zg2 fs _ _ _ h.ok (by have:=h.fl;simp;omega)]
 obtain⟨c1,c2⟩:=zsW (b.length:Int);obtain⟨s3,s4⟩:=Ur ([]++[13,10]++(b++r)) c1 c2
 rw [show r.length+2+N+2=(r.length+2+N+1)+1 by omega,Zw,s3]
 simp only [ne_eq,jf,if_false,je,jJ,s4,zo1];simp only [List.nil_append]
 rw [if_neg (by simp [zcU]),if_neg (by have:=h.fl;omega)]
 obtain⟨s5,s6⟩:=Ur (s:=[]) (b++r) (by decide) (by decide)
 rw [List.nil_append] at s5 s6
 rw [show r.length+2+N+1=(r.length+2+N)+1 by omega,Zw,s5]
 simp only [ne_eq,jf,if_false,je,jJ,s6,if_true];unfold reqH;simp only [zzs h.cl h.te h.ho h.bl]
 rw [if_neg (by simp),if_pos (by omega),if_pos (by rw [jk];omega)]
 rw [jJ,List.take_left,List.drop_left,zg1 (f:=r.length+2+N) (g:=r.length+1) (by omega) (by omega)]
def ztF (m t:Str) (fs:List Fld) (b:Str):List Evt:=[evH ⟨m,t,1,fs++[ziR (b.length:Int)],(b.length:Int)⟩]++bodE b++[evE]
theorem zug {m t:Str} {fs:List Fld} {b:Str} (h:rqwC m t fs b=0):(rqwT m t fs b).length≤7600:=by
 obtain⟨h1,h2⟩:=zxi h;rw [h2];have e1:=Xa fs;have e2:=h1.fl;have e3:=h1.hl;have e4:=h1.bl;have e5:=xq (b.length:Int);unfold YE;simp only [jk,jh,ji];omega
end Go.Proofs.YtkjepecoodjbmaaGreatDoor
namespace Go.Proofs.YtkjepecoodjbmaaGreatDoor
open Go Go.Sep Go.Ab Go.Jrn
theorem zvK {s:Str} (h:s.all dgB=true) {c:UInt8} (hc:dgB c=false):s.contains c=false:=by
 cases k:s.contains c with
 |false=>rfl
 |true=>rw [List.all_eq_true.1 h c (List.contains_iff_mem.1 k)] at hc;cases hc
theorem ztI (id:Int):Lib.containsAny (sJ id) [32,9]=false∧yN (sJ id)=true∧(sJ id).length≤15:=by
 have hd:(decS id).all dgB=true:=zbu _ id.toNat;refine⟨?_,?_,?_⟩
 · cases k:Lib.containsAny (sJ id) [32,9] with
   |false=>rfl
   | true=>
     have h2: ∀ c:UInt8,0≤xK [c] (sJ id) 0→(sJ id).contains c=true:=fun c h=>by
      rw [vT] at h;rw [Lib.contains_iff_indexByte,decide_eq_true_iff];have:=yF (sJ id) c
      split at h<;>omega
     have h3: ∀ c:UInt8,([47,116,97,107,101,47]:Str).contains c=false→dgB c=false→(sJ id).contains c=false:=fun c a b=>by
      have e:=zvK hd b
      cases q:(sJ id).contains c with
      |false=>rfl
      | true=>
        have q:=List.contains_iff_mem.1 q
        rcases List.mem_append.1 q with q|q
        · rw [List.contains_iff_mem.2 q] at a;cases a
        · rw [List.contains_iff_mem.2 q] at e;cases e
     rcases(any2 _).1 k with h|h
     · exact absurd (h2 32 h) (by rw [h3 32 (by decide) (by decide)];decide)
     · exact absurd (h2 9 h) (by rw [h3 9 (by decide) (by decide)];decide)
 · unfold sJ
   rw [uV,znr]
   decide+kernel
 · have:=xq id
   unfold sJ;rw [jk];simp only [jh,ji];omega
theorem ztW {u:Upl} {l:List Upl} {n:Int} (hs:zL l n) (hu:u ∈ l) (hn:znS u) (id:Int):rqwC YV (sJ id) (ZR u.note) u.bytes=0:=by
 obtain⟨t1,t2,t3⟩:=ztI id;have hk:=hs.each u hu;have hb:=hk.bl;have hl:=hk.nl
 have hv: ∀ m:Str,lowS zfK.name≠lowS m→lowS zc3≠lowS m→valsF (ZR u.note) m=[]:=fun m a b=>by
  unfold ZR valsF
  split<;>simp [a,b]
 have v1:=hv qB (by decide+kernel) (by decide+kernel)
 have v2:=hv Vt (by decide+kernel) (by decide+kernel)
 have v3:valsF (ZR u.note) ZF=[zfK.value]:=by
  have a:lowS zfK.name=lowS ZF:=by decide+kernel
  have b:lowS zc3≠lowS ZF:=by decide+kernel
  unfold ZR valsF
  split<;>simp [a,b]
 have hx:(textF ⟨zc3,u.note⟩).2=0:=by
  unfold textF;dsimp only
  rw [if_neg (by decide+kernel),if_neg (by rw [show zc3.length=15 from rfl];omega),if_neg (by rw [hn.1,hn.2];simp)]
 have hf:badF (ZR u.note)=0:=by
  have a:(textF zfK).2=0:=by decide+kernel
  unfold ZR
  split
  · simp only [badF,a,if_true]
  · simp only [badF,a,hx,if_true]
 have hln:(ZR u.note).length≤2:=by unfold ZR;split<;>simp
 unfold rqwC
 rw [if_neg (by decide+kernel),if_neg (show ¬ Lib.hasPrefix (sJ id) [47]=false by unfold sJ;simp [Lib.hasPrefix]),if_neg (by rw [t1];decide),if_neg (by rw [t2];decide)]
 rw [if_neg (by unfold rqHd;simp only [jk,jh,ji,YV];omega),if_neg (by omega),if_neg (by omega),if_neg (by rw [v1,v2];decide),if_neg (by rw [v3];decide),hf]
theorem zpW {m t:Str} {fs:List Fld} {b:Str} (h:rqwC m t fs b=0):reqG ((rqwT m t fs b).length+1) none (rqwT m t fs b)=(ztF m t fs b,false):=by
 obtain⟨h1,h2⟩:=zxi h
 have e:=zuu h1 [] ((rqwT m t fs b).length+1) (by rw [List.append_nil,← h2];exact Nat.lt_succ_self _)
 rw [List.append_nil,← h2] at e;rw [e]
 have h0:reqG ([]:Str).length.succ none []=([],false):=by rw [YT];simp [zA,xH]
 rw [show([]:Str).length+1=([]:Str).length.succ from rfl,h0]
 simp [preG,ztF]
theorem zpM: ∀ {l:List Upl},l.Pairwise (fun a b=>a.id<b.id)→∀ u ∈ l,∀ v ∈ l,u.id=v.id→u=v
 | x::l,h,u,hu,v,hv,e=>by
   obtain⟨h1,h2⟩:=List.pairwise_cons.1 h
   rcases List.mem_cons.1 hu with a|a<;>rcases List.mem_cons.1 hv with b|b
   · rw [a,b]
   · have:=h1 v b;rw [a] at e;omega
   · have:=h1 u a;rw [b] at e;omega
   · exact zpM h2 u a v b e
theorem zu8 {q:Sto} {m:Int} (hq:SOk q m) {id:Int} (h:wsC q (begE id)=0):Gon (uU q id) id:=by
 obtain⟨h1,h2,h3,h4⟩:=VJ h;have hs:=(zlr hq id).1
 have hi:=uJ (l:=q.l) (id:=id) (by omega)
 have hm:({ zQ q.l id with sent:=1}:Upl) ∈ (uU q id).l:=by rw [h4];exact List.mem_iff_getElem.2 ⟨atU q.l id,by rw [List.length_set];omega,by simp⟩
 refine⟨?_,fun u hu he=> ?_⟩
 · have:=(hs.ids _ hm).2
   dsimp only at this;omega
 · have:=zpM hs.srt u hu _ hm (by rw [he];exact hi.symm)
   rw [this];show(1:Int)≠0;decide
theorem ztY {q:Sto} {id:Int} (h:wsC q (begE id)=0):zbN q id= { zQ q.l id with sent:=1}∧getU q.l id=zQ q.l id∧getB q.l id=true:=by
 obtain⟨h1,h2,h3,h4⟩:=VJ h
 have hat:atU q.l id<q.l.length:=by omega
 have hi:=uJ hat
 have e1:atU (uU q id).l id=atU q.l id:=by rw [h4];exact ztg hat hi
 have e2:(uU q id).l.length=q.l.length:=by rw [h4,List.length_set]
 refine⟨?_,?_,?_⟩
 · unfold zbN getU
   rw [e1,e2,if_pos hat];have hu:=wJ hat;unfold zQ at hu ⊢;rw [e1,h4];unfold zQ
   simp [jH,hat]
 · unfold getU;rw [if_pos hat]
 · unfold getB;simpa using hat
structure OnI (p:PS):Prop where
 notes: ∀ u ∈ p.g.q.l,znS u
 gon: ∀ id ∈ p.t,Gon p.g.q id
theorem on_0:OnI ps0:=⟨fun u h=>(by cases h),fun id h=>(by cases h)⟩
theorem zzh {p:PS} {m:Int} {N:Nat} (h:OnI p) (hg:GsI p.g m N) (hf:Full p.g.q) (x:Stp):OnI (doP p x):=by
 have hr:Rch p.g.q (doP p x).g.q:=zAw x hf;have hk: ∀ id ∈ p.t,Gon (doP p x).g.q id:=fun id hi=>hr.gon (h.gon id hi);refine⟨hr.notes h.notes,?_⟩
 show ∀ id ∈ doT p x,_
 unfold doT zbO
 split
 · rename_i k3
   split
   · exact hk
   · rename_i hc
     intro id hi
     rcases List.mem_append.1 hi with y|y
     · exact hk id y
     · rw [List.mem_singleton.1 y]
       have e:(doP p x).g.q=uU p.g.q x.n:=by
        unfold doP doG
        simp [k3,GS.set]
       rw [e]
       exact zu8 hg.q (by simpa using hc)
 · exact hk
structure OnS (p:PS) (x:Stp):Prop where
 kind:x.kind=3
 code:(doO p.g x).c=0
 is:getB p.g.q.l x.n=true
 nos:(getU p.g.q.l x.n).sent=0
 all:(getU p.g.q.l x.n).size=(getU p.g.q.l x.n).bytes.length
 new: ∀ id ∈ p.t,id≠x.n
 t:(doP p x).t=p.t++[x.n]
 ids:1≤x.n∧x.n≤p.g.q.n
 few:(doO p.g x).u.length≤7600∧(getU p.g.q.l x.n).bytes.length≤2000
 ev: ∃ fs,fs.length≤2∧reqG ((doO p.g x).u.length+1) none (doO p.g x).u=(ztF YV (sJ x.n) fs (getU p.g.q.l x.n).bytes,false)
theorem zxx {p:PS} {m:Int} {N:Nat} (h:OnI p) (hg:GsI p.g m N) (x:Stp) (k3:x.kind=3) (hc:wsC p.g.q (begE x.n)=0):OnS p x∧(doO p.g x).u≠[]:=by
 obtain⟨h1,h2,h3,h4⟩:=VJ hc;obtain⟨u1,u2,u3⟩:=ztY hc;have hm:=at_mem h1;have hw:=ztW hg.q.1 hm (h.notes _ hm) x.n
 have hi:=uJ (l:=p.g.q.l) (id:=x.n) (by omega)
 have e:doO p.g x=⟨rqwC YV (sJ x.n) (ZR (zbN p.g.q x.n).note) (zbN p.g.q x.n).bytes,[],rqwT YV (sJ x.n) (ZR (zbN p.g.q x.n).note) (zbN p.g.q x.n).bytes⟩:=by
  unfold doO
  simp [k3]
  unfold QE;rw [if_neg (fun k=>k hc)]
 have et:(doP p x).t=p.t++[x.n]:=by
  show doT p x=_
  unfold doT zbO;rw [if_pos k3,if_neg (fun k=>k hc)]
 rw [u1] at e;dsimp only at e;have hb:=zpW hw
 have hne:rqwT YV (sJ x.n) (ZR (zQ p.g.q.l x.n).note) (zQ p.g.q.l x.n).bytes≠[]:=by
  rw [(zxi hw).2];unfold rqHd YV
  simp
 refine⟨⟨k3,by rw [e,hw],u3,by rw [u2];exact h2,by rw [u2];exact h3,fun id hid he=>zxS hc (he▸h.gon id hid),et,?_,⟨by rw [e];exact zug hw,by rw [u2];exact(hg.q.1.each _ hm).bl⟩,ZR (zQ p.g.q.l x.n).note,by unfold ZR;split<;>simp,by rw [e,u2];exact hb⟩,by rw [e];exact hne⟩
 have:=hg.q.1.ids _ hm;omega
theorem zzg {p:PS} (x:Stp) (h: ¬ (x.kind=3∧wsC p.g.q (begE x.n)=0)):(doO p.g x).u=[]∧(doP p x).t=p.t:=by
 have e:(doP p x).t=doT p x:=rfl;rw [e];unfold doO doT QE zbO
 by_cases k3:x.kind=3
 · have hc:wsC p.g.q (begE x.n)≠0:=fun k=>h ⟨k3,k⟩
   simp [k3,hc]
 · refine⟨?_,if_neg k3⟩
   repeat' split
   all_goals first|rfl|contradiction
end Go.Proofs.YtkjepecoodjbmaaGreatDoor
namespace Go.Proofs.YtkjepecoodjbmaaGreatDoor
open Go Go.Sep Go.Ab
set_option maxRecDepth 100000
set_option maxHeartbeats 4000000 in
theorem pOnce_ (l:List Stp) (hneed:l.length≤140737488355328∧∀ x ∈ l,StW x):Spc Tryz.prog 5 [.v (.one (.p (.list .stp l)))] [] (.ret (.v (.one (.p (.bool true))))) []:=by
 obtain⟨hz,hw⟩:=hneed
 refine spH Tryz.func5 (by kernel_rfl) { cfgP with nr:=[4],keep:=some [0,2,3,4,5,6,7,8,9,10,11,12]} [YR,YQ,uM,uK,Ze,Zd,zrd,zrb,zfq,zfp,zmg,zmf,Ue,Ud,zcv,zcu,YX,YW,WZ,WY] (by kernel_rfl) ?_
 intro I X hI hX
 refine orcL ?_;go_invoke;refine orcS (by kernel_rfl) ?_
 simp only [zi,Nat.reduceAdd]
 have hh: ∀ {α:Type} (y:α),I.hid y=y:=fun y=>by subst hI;rfl
 simp only [hh]
 (repeat' (first|refine ja ?_ ?_|intro _))
 all_goals try(subst hI;(simp only [nrmA,nrmB,nrlB,reduceCtorEq] at *);first|done|trivial|omega|exact hz)
 have hg:zhJ l=false:=by
  subst hI;simp only [nrmA,nrmB,nrlB,reduceCtorEq] at *;assumption
 have hl:=zoB hw hg
 refine lpH hI [YR,YQ,uM,uK,Ze,Zd,zrd,zrb,zfq,zfp,zmg,zmf,Ue,Ud,zcv,zcu,YX,YW,WZ,WY] hX [0,3,4,5] (fun(g:Nat × PS)=>match g with|(i,p)=>LpI l i p∧OnI p) (fun(g:Nat × PS)=>match g with|(i,p)=>⟨[(0,.v (.one (.p (.list .stp l)))),(3,.v (.one (.ptr 0 0))),(4,.v (.one (.row 1))),(5,.v (.one (.p (.int .i64 i))))],[.pack [.obj 85 [.ptr 1 0,.row 7],.obj 50 [.ptr 2 0,.ptr 3 0,.ptr 4 0,.ptr 5 0,.ptr 6 0],.pack [.obj 54 [.ptr 1 0,.ptr 2 0],.pack [.obj 124 [.row 1,.p (.int .i64 p.g.q.n)],.row .upl 81 p.g.q.l],.pack [.obj 156 [.row 1,.p (.int .i64 p.g.q.s)],.row .byte 5 p.g.q.b]],.abs (.cn p.g.c0),.abs (.cn p.g.c1),.abs (.cn p.g.c2),.abs (.cn p.g.c3),.row .int 3 p.t],.row .int 3 p.t],173,none⟩) (fun(g:Nat × PS)=>match g with|(i,p)=>l.length - i) (0,ps0) (by kernel_rfl) (by kernel_rfl) ?_ ?_
 · exact⟨lp_0 l,on_0⟩
 rintro⟨i,p⟩ ⟨h1,h2⟩ A hA;simp only at hA h1 h2
 refine orcL ?_;go_invoke;refine orcS (by kernel_rfl) ?_
 simp only [zi,Nat.reduceAdd];simp only [hh,zwM]
 have e1:I.get l ⟨0,0,0,[]⟩ (i:Int)=l.getD i stp0:=by subst hI;first|rfl|simp [stp0]
 simp only [e1];have ex: ∀ x:Stp,(⟨x.kind,x.conn,x.n,x.bytes⟩:Stp)=x:=fun _=>rfl;simp only [ex];have hS:=fun h=>lp_s h1 h hl;have hil:=h1.le;generalize l.getD i stp0=x at *
 by_cases hs:x.kind=3∧wsC p.g.q (begE x.n)=0
 rotate_left
 · obtain⟨n1,n2⟩:=zzg (p:=p) x hs
   (repeat' (first|refine ja ?_ ?_|intro _))
   all_goals(subst hI;(simp only [nrmA,nrmB,nrlB,reduceCtorEq] at *))
   all_goals first
    |done
    |omega
    |exact h1.ps.g.q.1
    |exact(hS (by omega)).1
    |(have hB:=hA (i+1,doP p x) ⟨(hS (by omega)).2,zzh h2 h1.ps.g h1.fu x⟩ (by dsimp only;omega);rw [n2] at hB ⊢;exact hB)
    |(exfalso;rw [n1] at *;simp only [ji] at *;omega)
    |(have:=h1.ps.t;omega)
 · obtain⟨o,hu⟩:=zxx h2 h1.ps.g x hs.1 hs.2
   have hul:(doO p.g x).u.length≠0:=fun k=>hu (List.eq_nil_of_length_eq_zero k)
   have hB:=fun h=>hA (i+1,doP p x) ⟨(hS h).2,zzh h2 h1.ps.g h1.fu x⟩ (by dsimp only;omega)
   have htl:=h1.ps.t;have hpn:=fun h=>(hS h).2.ps.g.q.2.2.1;have hds:=h1.ps.g.q.2.2.1;obtain⟨o1,o2,o3,o4,o5,o6,o7,o8,o9,fs,o10,o11⟩:=id o
   (repeat' (first|refine ja ?_ ?_|intro _))
   all_goals try(subst hI;(simp only [nrmA,nrmB,nrlB,reduceCtorEq] at *);first
    |done
    |omega
    |exact h1.ps.g.q.1
    |exact(hS (by omega)).1
    |exact absurd o.kind ‹_›
    |exact absurd o.code ‹_›
    |exact absurd (o.is.symm.trans ‹_›) (by decide)
    |exact absurd o.nos ‹_›
    |exact absurd o.all ‹_›)
   all_goals
    have hlt:i<l.length:=by
     subst hI;simp only [nrmA,nrmB,nrlB,reduceCtorEq] at *;omega
    have hB:=hB hlt;have hS:=hS hlt;clear hA ex;generalize doP p x=pn at *;generalize getU p.g.q.l x.n=u at *;generalize doO p.g x=O at *
    refine lpH hI [YR,YQ,uM,uK,Ze,Zd,zrd,zrb,zfq,zfp,zmg,zmf,Ue,Ud,zcv,zcu,YX,YW,WZ,WY] hX [0,3,4,5,6,8,9] (fun(k:Nat)=>k≤p.t.length) (fun(k:Nat)=>⟨[(0,.v (.one (.p (.list .stp l)))),(3,.v (.one (.ptr 0 0))),(4,.v (.one (.row 1))),(5,.v (.one (.p (.int .i64 i)))),(6,.v (.one (.ptr 2 0))),(8,.v (.one (.ptr 3 0))),(9,.v (.one (.p (.int .i64 k))))],[.pack [.obj 85 [.ptr 1 0,.row 7],.obj 50 [.ptr 2 0,.ptr 3 0,.ptr 4 0,.ptr 5 0,.ptr 6 0],.pack [.obj 54 [.ptr 1 0,.ptr 2 0],.pack [.obj 124 [.row 1,.p (.int .i64 pn.g.q.n)],.row .upl 81 pn.g.q.l],.pack [.obj 156 [.row 1,.p (.int .i64 pn.g.q.s)],.row .byte 5 pn.g.q.b]],.abs (.cn pn.g.c0),.abs (.cn pn.g.c1),.abs (.cn pn.g.c2),.abs (.cn pn.g.c3),.row .int 3 pn.t],.row .int 3 p.t,.pack [.obj 81 [.p (.int .i64 u.id),.p (.int .i64 u.size),.p (.str u.note),.p (.list .byte u.bytes),.p (.int .i64 u.sent)]],.pack [.obj 89 [.p (.int .i64 O.c),.p (.list .byte O.b),.p (.list .byte O.u)]]],173,none⟩) (fun(k:Nat)=>p.t.length - k) 0 (by kernel_rfl) (by kernel_rfl) ?_ ?_
    · exact jM _
    rintro k hk B hC
    refine orcL ?_;go_invoke;refine orcS (by kernel_rfl) ?_
    simp only [zi,Nat.reduceAdd];simp only [hh,e1,o11];unfold ztF bodE
    have hnw: ∀ h:k<p.t.length,p.t.getD k 0≠x.n:=fun h=>o6 _ (by rw [show p.t.getD k 0=p.t[k] by simp [h]];exact List.getElem_mem h)
    have hC:=fun h:k<p.t.length=>hC (k+1) h (by omega)
    have hps:=hS.2.ps.t;rw [o7] at hps;have hdl:=xq x.n;have hdt:=ziZ l i
    by_cases hb:u.bytes=[]
    · rw [if_pos hb]
      obtain⟨uid,usz,unote,ub,usent⟩:=u;dsimp only at *;subst hb;subst hI;simp only [nrmA,nrmB,nrlB,reduceCtorEq,Int.reduceToNat];simp only [List.append_nil,List.cons_append,List.nil_append,jh,ji,List.getD_cons_zero,List.getD_cons_succ,evH,evE]
      (repeat' (first|refine ja ?_ ?_|intro _))<;>first|omega|exact jb|exact jc ‹False›|skip
      all_goals first
       |exact hnw (by omega)
       |exact hC (by omega)
       |(rw [← o7];exact hB)
       |rfl
       |(simp at *;done)
    · rw [if_neg hb]
      have hbl:0<u.bytes.length:=Nat.pos_of_ne_zero fun k=>hb (List.eq_nil_of_length_eq_zero k);subst hI;simp only [nrmA,nrmB,nrlB,reduceCtorEq,Int.reduceToNat];simp only [List.append_nil,List.cons_append,List.nil_append,jh,ji,List.getD_cons_zero,List.getD_cons_succ,evH,evE,evB]
      (repeat' (first|refine ja ?_ ?_|intro _))<;>first|omega|exact jb|exact jc ‹False›|skip
      all_goals first
       |exact hnw (by omega)
       |exact hC (by omega)
       |(rw [← o7];exact hB)
       |rfl
       |(simp at *;done)
end Go.Proofs.YtkjepecoodjbmaaGreatDoor
