/- Texts of this proof, one behind the other: FrmF FrmG FrmH FrmI GatP GatA GatB ChkA ChkI ReqB ReqA Splt ReqC ReqD ReqE ReqF ReqR ReqPc TusG TusH TusI GatQ GatC GatD GatF GatG RqwL StoP PrtL StoQ TusJ TusK PrtH PrtJ PrtK. -/
import Derived.Lib.Split
import Derived.Lib.SplitLaws
import Derived.Test.YtkjepecoodjbmaaGreatDoorMd
set_option linter.all false
namespace Go.Proofs.YtkjepecoodjbmaaGreatDoor
open Go Go.Sep Go.Ab
set_option maxRecDepth 100000
theorem ziB {m:Str} {n:Nat} (h:m=[]∨n<m.length) (c:UInt8):(ql m n c).1.length+(ql m n c).2.1≤n+1:=by
 unfold ql
 by_cases h0:m=[]
 · rw [if_pos h0];simp only [jr];omega
 · rw [if_neg h0]
   have hn:n<m.length:=h.resolve_left h0
   have hf:=(P.zkj m c P.take_len n n (jL _) (by omega)).le
   unfold P.feed;simp only
   repeat' split
   all_goals simp only [jk,jr,jv]
   all_goals omega
theorem zwC (f:Fm) {i:Nat} (h:FmI f i) (c:UInt8):(fmSk f c).held.toNat≤f.held.toNat+1:=by
 have:=ziB (m:=f.mark) (n:=f.held.toNat) (.inr (by have:=h.h0;have:=h.h1;omega)) c
 show(((ql f.mark f.held.toNat c).2.1:Nat):Int).toNat≤_
 rw [jJ];omega
theorem qm (o:List Evt) (e:Evt) (h:e.bytes=[]):zH (o++[e])=zH o:=by
 rw [yA,xk,h];rfl
theorem zkg {f:Fm} {i:Nat} (h:FmI f i):zH (wV f).out+(wV f).held.toNat≤zH f.out+f.held.toNat+2:=by
 have h2:=h.p0;unfold wV
 split
 · show zH (f.out++[evF _])+_≤_
   rw [qm _ _ rfl];simp only [xC];omega
 · split
   · show zH (f.out++[evF _])+_≤_
     rw [qm _ _ rfl];simp only [xC];omega
   · have hI:FmI { f with parts:=f.parts+1,pos:=6,out:=[],skip:=2} i:=⟨h.bs,h.ml,h.h0,h.h1,(show(0:Int)≤2∧(2:Int)≤2 by decide),by simp only;omega,h.fl,h.ff,h.lb,(fun e=>absurd (show(6:Int)=5 from e) (by decide)),jM _⟩
     have a:=zwC _ hI 13;have b:=zwC _ (zei hI 13) 10
     show zH (f.out++[evP _])+(fmSk (fmSk { f with parts:=f.parts+1,pos:=6,out:=[],skip:=2} 13) 10).held.toNat≤_
     rw [qm _ _ rfl];simp only at a;omega
theorem zoM {f:Fm} {i:Nat} (h:FmI f i) (s:Str):zH (tV f s).out+(tV f s).held.toNat≤zH f.out+f.held.toNat+2:=by
 unfold tV
 split
 · exact zkg h
 · split
   · show zH (f.out++[evF _])+_≤_
     rw [qm _ _ rfl];simp only [xC];omega
   · split
     · show zH (f.out++[evF _])+_≤_
       rw [qm _ _ rfl];simp only [xC];omega
     · simp only;omega
theorem zkd {f:Fm} {i:Nat} (h:FmI f i) (c:UInt8):zH (fmF f c).out+(fmF f c).held.toNat≤zH f.out+f.held.toNat+2:=by
 have hfail: ∀ (f:Fm) (c:Int),zH (xC f c).out=zH f.out∧(xC f c).held=f.held:=fun f c=>⟨qm _ _ rfl,rfl⟩;unfold fmF
 split
 · have hp:=ziB (m:=f.mark) (n:=f.held.toNat) (.inr (by have:=h.h0;have:=h.h1;omega)) c
   have hd:(sD f c).length≤(ql f.mark f.held.toNat c).1.length:=by unfold sD;rw [jC];omega
   have e0:(fmSk f c).held.toNat=(ql f.mark f.held.toNat c).2.1:=jJ _;unfold uj
   split
   · show zH (if f.pos=6∧sD f c≠[] then f.out++[evB (sD f c)] else f.out)+(fmSk f c).held.toNat≤_
     rw [e0]
     split
     · rw [yA,xk];simp only [evB];omega
     · omega
   · show zH (if f.pos=6 then(if sD f c≠[] then f.out++[evB (sD f c),evO] else f.out++[evO]) else f.out)+(fmSk f c).held.toNat≤_
     rw [e0]
     have e1:zH [evB (sD f c),evO]=(sD f c).length:=by simp [zH,evB,evO]
     have e2:zH [evO]=0:=rfl
     split
     · split
       · rw [yA,e1];omega
       · rw [yA,e2];omega
     · omega
 · split
   · unfold wQ
     repeat' split
     all_goals first
      |(simp only;omega)
      |(rw [(hfail _ _).1,(hfail _ _).2];omega)
      |(show zH (f.out++[evE])+_≤_;rw [qm _ _ rfl];simp only;omega)
   · split
     · split
       · rw [(hfail _ _).1,(hfail _ _).2];omega
       · simp only;omega
     · split
       · split
         · rw [(hfail _ _).1,(hfail _ _).2];simp only;omega
         · split
           · have hn:(lnOf f).b.length≤i:=by
              unfold lnOf
              cases e:f.ln with
              |none=>simp [ln0]
              |some l=>exact h.lb l e
             have hb:=zuU (lnOf f) c
             have hm:=zm1 h (show i≤i+1 by omega)
             exact zoM (i:=i+1) (f:= { f with ln:=some (lnF (lnOf f) c).1}) ⟨hm.bs,hm.ml,hm.h0,hm.h1,hm.s0,hm.p0,hm.fl,hm.ff,(fun l e=>by cases e;omega),(fun _ e=>by cases e),hm.on⟩ _
           · simp only;omega
       · omega
theorem zr9 (f:Fm) (b:Str) {i:Nat} (h:i<b.length):UL f (b.take (i+1))=fmF (UL f (b.take i)) (b.getD i 0):=by
 rw [show b.getD i 0=b[i] by simp [h],jB h]
 unfold UL;rw [List.foldl_append];rfl
theorem zkc: ∀ (b:Str) (f:Fm) (i:Nat),FmI f i→FmI (UL f b) (i+b.length)
 |[],f,i,h=>h
 | c::r,f,i,h=>by
   have:=zkc r (fmF f c) (i+1) (zvp h c)
   rw [jh,show i+(r.length+1)=i+1+r.length by omega]
   exact this
def fmN0 (f:Fm) (b:Str):Prop:=∃ n,FmI { f with out:=[]} n∧n+b.length≤400000
theorem zvm (m:Str) (hd:Int) (bs:List Int) (p:Int) (fs:List Fld) (pa sk co:Int) (out:List Evt) (b:Str) (hneed:fmN0 ⟨m,hd,bs,p,none,fs,pa,sk,co,out⟩ b):Spc Tryz.prog 247 [.v (.one (.ptr 0 0)),.v (.one (.p (.list .byte b)))] [.abs (.fm ⟨m,hd,bs,p,none,fs,pa,sk,co,out⟩)] (.ret (.v (.one (.row 1)))) [.abs (.fm ((xB ⟨m,hd,bs,p,none,fs,pa,sk,co,out⟩ b))),.row .evt 34 ((yO (xB ⟨m,hd,bs,p,none,fs,pa,sk,co,out⟩ b).out))]:=by
 obtain⟨n,hI0,hnb⟩:=hneed;have hml:=hI0.ml;have hh1:=hI0.h1;have hh0:=hI0.h0;simp only at hml hh1 hh0
 have hh:hd.toNat≤1000:=by
  omega
 refine spH Tryz.func247 (by kernel_rfl) { cfgF with keep:=some [0,1,4,6,10,11,12]} [za1,za0,xZ,xY] (by kernel_rfl) ?_
 intro I X hI hX
 refine orcL ?_;go_invoke;refine orcS (by kernel_rfl) ?_
 simp only [zi,Nat.reduceAdd];unfold xB;simp only at hI0 ⊢
 refine lpH hI [za1,za0,xZ,xY] hX [0,10,11,12] (fun(g:Nat × Fm)=>match g with|(i,r)=>i≤b.length∧r=UL (⟨m,hd,bs,p,none,fs,pa,sk,co,[]⟩:Fm) (b.take i)∧FmI r (n+i)∧zH r.out+r.held.toNat≤hd.toNat+2 * i) (fun(g:Nat × Fm)=>match g with|(i,r)=>⟨[(0,.v (.one (.ptr 0 0))),(10,.v (.one (.p (.list .byte b)))),(11,.v (.one (.p (.int .i64 ((I.len (α:=UInt8) b)))))),(12,.v (.one (.p (.int .i64 i))))],[.abs (.fm r)],25,none⟩) (fun(g:Nat × Fm)=>match g with|(i,r)=>b.length - i) (0,(⟨m,hd,bs,p,none,fs,pa,sk,co,[]⟩:Fm)) (by kernel_rfl) (by kernel_rfl) ?_ ?_
 · exact⟨jM _,rfl,hI0,by simp [zH]⟩
 rintro⟨i,⟨m2,hd2,bs2,p2,ln2,fs2,pa2,sk2,co2,out2⟩⟩ ⟨h1,h2,h3,h4⟩ A hA;simp only at hA h1 h2 h3 h4
 have hrn:i<b.length→fmN _:=fun h=>⟨n+i,by omega,h3⟩
 have hgo:i<b.length→_:=fun h=>hA (i+1,fmF ⟨m2,hd2,bs2,p2,ln2,fs2,pa2,sk2,co2,out2⟩ (b.getD i 0)) ⟨by simp only;omega,by simp only;rw [zr9 _ _ h,← h2],by simp only;exact zvp h3 _,by simp only;have:=zkd h3 (b.getD i 0);simp only at this;omega⟩ (by simp only;omega)
 have hend: ¬ i<b.length→_:=fun h=>h2.trans (by rw [jq (by omega)])
 rcases ln2 with _|l2
 · have h0:=h1
   refine orcL ?_;go_invoke;refine orcS (by kernel_rfl) ?_
   simp only [zi,Nat.reduceAdd];subst hI;simp only [nrmA,nrmB,nrlB,reduceCtorEq,HO.abs.injEq,Gh.fm.injEq]
   by_cases hi:i<b.length
   · have hg:=hgo hi
     have hn:=hrn hi
     (repeat' (first|refine ja ?_ ?_|intro _))<;>first|omega|exact jb|exact jc ‹False›|skip
     all_goals first|omega|exact hg|exact hn|contradiction|(have:=(b.getD i 0).toNat_lt;omega)|trace_state
   · have hg:=hend hi
     rw [← hg];have hon:=h3.on;simp only at hon
     (repeat' (first|refine ja ?_ ?_|intro _))<;>first|omega|exact jb|exact jc ‹False›|skip
     all_goals first|omega|rfl|contradiction|exact⟨by omega,by omega⟩|trace_state
 · have h0:=h1
   refine orcL ?_;go_invoke;refine orcS (by kernel_rfl) ?_
   simp only [zi,Nat.reduceAdd];subst hI;simp only [nrmA,nrmB,nrlB,reduceCtorEq,HO.abs.injEq,Gh.fm.injEq]
   by_cases hi:i<b.length
   · have hg:=hgo hi
     have hn:=hrn hi
     (repeat' (first|refine ja ?_ ?_|intro _))<;>first|omega|exact jb|exact jc ‹False›|skip
     all_goals first|omega|exact hg|exact hn|contradiction|(have:=(b.getD i 0).toNat_lt;omega)|trace_state
   · have hg:=hend hi
     rw [← hg];have hon:=h3.on;simp only at hon
     (repeat' (first|refine ja ?_ ?_|intro _))<;>first|omega|exact jb|exact jc ‹False›|skip
     all_goals first|omega|rfl|contradiction|exact⟨by omega,by omega⟩|trace_state
theorem zvl (m:Str) (hd:Int) (bs:List Int) (p:Int) (ln:Ln) (fs:List Fld) (pa sk co:Int) (out:List Evt) (b:Str) (hneed:fmN0 ⟨m,hd,bs,p,some ln,fs,pa,sk,co,out⟩ b):Spc Tryz.prog 247 [.v (.one (.ptr 0 0)),.v (.one (.p (.list .byte b)))] [.abs (.fm ⟨m,hd,bs,p,some ln,fs,pa,sk,co,out⟩)] (.ret (.v (.one (.row 1)))) [.abs (.fm ((xB ⟨m,hd,bs,p,some ln,fs,pa,sk,co,out⟩ b))),.row .evt 34 ((yO (xB ⟨m,hd,bs,p,some ln,fs,pa,sk,co,out⟩ b).out))]:=by
 obtain⟨n,hI0,hnb⟩:=hneed;have hml:=hI0.ml;have hh1:=hI0.h1;have hh0:=hI0.h0;simp only at hml hh1 hh0
 have hh:hd.toNat≤1000:=by
  omega
 refine spH Tryz.func247 (by kernel_rfl) { cfgF with keep:=some [0,1,4,6,10,11,12]} [za1,za0,xZ,xY] (by kernel_rfl) ?_
 intro I X hI hX
 refine orcL ?_;go_invoke;refine orcS (by kernel_rfl) ?_
 simp only [zi,Nat.reduceAdd];unfold xB;simp only at hI0 ⊢
 refine lpH hI [za1,za0,xZ,xY] hX [0,10,11,12] (fun(g:Nat × Fm)=>match g with|(i,r)=>i≤b.length∧r=UL (⟨m,hd,bs,p,some ln,fs,pa,sk,co,[]⟩:Fm) (b.take i)∧FmI r (n+i)∧zH r.out+r.held.toNat≤hd.toNat+2 * i) (fun(g:Nat × Fm)=>match g with|(i,r)=>⟨[(0,.v (.one (.ptr 0 0))),(10,.v (.one (.p (.list .byte b)))),(11,.v (.one (.p (.int .i64 ((I.len (α:=UInt8) b)))))),(12,.v (.one (.p (.int .i64 i))))],[.abs (.fm r)],25,none⟩) (fun(g:Nat × Fm)=>match g with|(i,r)=>b.length - i) (0,(⟨m,hd,bs,p,some ln,fs,pa,sk,co,[]⟩:Fm)) (by kernel_rfl) (by kernel_rfl) ?_ ?_
 · exact⟨jM _,rfl,hI0,by simp [zH]⟩
 rintro⟨i,⟨m2,hd2,bs2,p2,ln2,fs2,pa2,sk2,co2,out2⟩⟩ ⟨h1,h2,h3,h4⟩ A hA;simp only at hA h1 h2 h3 h4
 have hrn:i<b.length→fmN _:=fun h=>⟨n+i,by omega,h3⟩
 have hgo:i<b.length→_:=fun h=>hA (i+1,fmF ⟨m2,hd2,bs2,p2,ln2,fs2,pa2,sk2,co2,out2⟩ (b.getD i 0)) ⟨by simp only;omega,by simp only;rw [zr9 _ _ h,← h2],by simp only;exact zvp h3 _,by simp only;have:=zkd h3 (b.getD i 0);simp only at this;omega⟩ (by simp only;omega)
 have hend: ¬ i<b.length→_:=fun h=>h2.trans (by rw [jq (by omega)])
 rcases ln2 with _|l2
 · have h0:=h1
   refine orcL ?_;go_invoke;refine orcS (by kernel_rfl) ?_
   simp only [zi,Nat.reduceAdd];subst hI;simp only [nrmA,nrmB,nrlB,reduceCtorEq,HO.abs.injEq,Gh.fm.injEq]
   by_cases hi:i<b.length
   · have hg:=hgo hi
     have hn:=hrn hi
     (repeat' (first|refine ja ?_ ?_|intro _))<;>first|omega|exact jb|exact jc ‹False›|skip
     all_goals first|omega|exact hg|exact hn|contradiction|(have:=(b.getD i 0).toNat_lt;omega)|trace_state
   · have hg:=hend hi
     rw [← hg];have hon:=h3.on;simp only at hon
     (repeat' (first|refine ja ?_ ?_|intro _))<;>first|omega|exact jb|exact jc ‹False›|skip
     all_goals first|omega|rfl|contradiction|exact⟨by omega,by omega⟩|trace_state
 · have h0:=h1
   refine orcL ?_;go_invoke;refine orcS (by kernel_rfl) ?_
   simp only [zi,Nat.reduceAdd];subst hI;simp only [nrmA,nrmB,nrlB,reduceCtorEq,HO.abs.injEq,Gh.fm.injEq]
   by_cases hi:i<b.length
   · have hg:=hgo hi
     have hn:=hrn hi
     (repeat' (first|refine ja ?_ ?_|intro _))<;>first|omega|exact jb|exact jc ‹False›|skip
     all_goals first|omega|exact hg|exact hn|contradiction|(have:=(b.getD i 0).toNat_lt;omega)|trace_state
   · have hg:=hend hi
     rw [← hg];have hon:=h3.on;simp only at hon
     (repeat' (first|refine ja ?_ ?_|intro _))<;>first|omega|exact jb|exact jc ‹False›|skip
     all_goals first|omega|rfl|contradiction|exact⟨by omega,by omega⟩|trace_state
def UU (I:Alg):KU
 |[.v (.one (.ptr 0 0)),.v (.one (.p (.list .byte b)))],[.abs (.fm f)]=>(fun(b:Str)=>(some (.one ⟨I.hid (fmN0 f b),(.ret (.v (.one (.row 1)))),[.abs (.fm (I.hid (xB f b))),.row .evt 34 (I.hid (yO (xB f b).out))]⟩):Option CT)) b
 |_,_=>none
theorem zir:zu Tryz.prog 247 (UU alg):=by
 intro args hp r h;unfold UU at h;split at h<;>cases h
 rename_i b f;simp only [CT.Good,zh];intro hneed;obtain⟨m,hd,bs,p,ln,fs,pa,sk,co,out⟩:=f
 cases ln with
 |none=>exact zvm m hd bs p fs pa sk co out b hneed
 |some ln=>exact zvl m hd bs p ln fs pa sk co out b hneed
def zcI:Know Tryz.prog:=⟨247,UU,zir⟩
def zcH:Know Tryz.prog:=⟨247,fun I=>zx I (UU I),zf zir⟩
theorem zsd (m:Str) (hd:Int) (bs:List Int) (p:Int) (fs:List Fld) (pa sk co:Int) (out:List Evt):Spc Tryz.prog 248 [.v (.one (.ptr 0 0))] [.abs (.fm ⟨m,hd,bs,p,none,fs,pa,sk,co,out⟩)] (.ret (.v (.one (.p (.int .i64 ((qg ⟨m,hd,bs,p,none,fs,pa,sk,co,out⟩))))))) [.abs (.fm ⟨m,hd,bs,p,none,fs,pa,sk,co,out⟩)]:=by
 generalize hr:qg ⟨m,hd,bs,p,none,fs,pa,sk,co,out⟩=r;unfold qg at hr;simp only at hr
 refine spH Tryz.func248 (by kernel_rfl) { cfgF with keep:=some [0,2,6]} [] (by kernel_rfl) ?_
 intro I X hI hX
 refine orcL ?_;go_invoke;refine orcS (by kernel_rfl) ?_
 simp only [zi,Nat.reduceAdd];subst hI;simp only [nrmA,nrmB,nrlB,reduceCtorEq,HO.abs.injEq,Gh.fm.injEq]
 (repeat' (first|refine ja ?_ ?_|intro _))<;>first|omega|exact jb|exact jc ‹False›|skip
 all_goals first|omega|rfl|(subst hr;simp [*];done)|trace_state
theorem zsc (m:Str) (hd:Int) (bs:List Int) (p:Int) (ln:Ln) (fs:List Fld) (pa sk co:Int) (out:List Evt):Spc Tryz.prog 248 [.v (.one (.ptr 0 0))] [.abs (.fm ⟨m,hd,bs,p,some ln,fs,pa,sk,co,out⟩)] (.ret (.v (.one (.p (.int .i64 ((qg ⟨m,hd,bs,p,some ln,fs,pa,sk,co,out⟩))))))) [.abs (.fm ⟨m,hd,bs,p,some ln,fs,pa,sk,co,out⟩)]:=by
 generalize hr:qg ⟨m,hd,bs,p,some ln,fs,pa,sk,co,out⟩=r;unfold qg at hr;simp only at hr
 refine spH Tryz.func248 (by kernel_rfl) { cfgF with keep:=some [0,2,6]} [] (by kernel_rfl) ?_
 intro I X hI hX
 refine orcL ?_;go_invoke;refine orcS (by kernel_rfl) ?_
 simp only [zi,Nat.reduceAdd];subst hI;simp only [nrmA,nrmB,nrlB,reduceCtorEq,HO.abs.injEq,Gh.fm.injEq]
 (repeat' (first|refine ja ?_ ?_|intro _))<;>first|omega|exact jb|exact jc ‹False›|skip
 all_goals first|omega|rfl|(subst hr;simp [*];done)|trace_state
def Wp (I:Alg):KU
 |[.v (.one (.ptr 0 0))],[.abs (.fm f)]=>some (.one ⟨I.hid (True),(.ret (.v (.one (.p (.int .i64 (I.hid (qg f))))))),[.abs (.fm f)]⟩)
 |_,_=>none
theorem zel:zu Tryz.prog 248 (Wp alg):=by
 intro args hp r h;unfold Wp at h;split at h<;>cases h
 rename_i f;simp only [CT.Good,zh];intro _;obtain⟨m,hd,bs,p,ln,fs,pa,sk,co,out⟩:=f
 cases ln with
 |none=>exact zsd m hd bs p fs pa sk co out
 |some ln=>exact zsc m hd bs p ln fs pa sk co out
def Rl:Know Tryz.prog:=⟨248,Wp,zel⟩
def Rk:Know Tryz.prog:=⟨248,fun I=>zx I (Wp I),zf zel⟩
def UQ (I:Alg):KU
 |[.v (.one (.p (.str s)))],[]=>(fun(s:Str)=>(some (.one ⟨I.hid (s.length≤140737488355328∧Uk s=true),(.ret (.tup [.one (.ptr 0 0),.one (.p (.int .i64 0))])),[.abs (.fm (I.hid (fm0 s)))]⟩):Option CT)) s
 |_,_=>none
theorem zil:zu Tryz.prog 246 (UQ alg):=by
 intro args hp r h;unfold UQ at h;split at h<;>cases h
 rename_i s;simp only [CT.Good,zh];intro hneed;obtain⟨hs,hm⟩:=hneed
 have hl:s.length≤70:=by unfold Uk at hm;simp at hm;omega
 generalize hr:fm0 s=r;unfold fm0 fmSk at hr;simp only [jJ] at hr
 refine spH Tryz.func246 (by kernel_rfl) { cfgF with keep:=some [0,2,3,4]} [Rw,Ru,zwl,zwk,znf,zne] (by kernel_rfl) ?_
 intro I X hI hX
 refine orcL ?_;go_invoke;refine orcS (by kernel_rfl) ?_
 simp only [zi,Nat.reduceAdd];unfold zcG at hr;subst hI;simp only [nrmA,nrmB,nrlB,reduceCtorEq,HO.abs.injEq,Gh.fm.injEq]
 have hM:([13,10,45,45]++s).length=s.length+4:=by simp
 generalize([13,10,45,45]++s:Str)=M at *;have h1:=UY M 0 13
 (repeat' (first|refine ja ?_ ?_|intro _))<;>first|omega|exact jb|exact jc ‹False›|skip
 all_goals first
  |omega
  |exact .inr (by omega)
  |exact h1
  |exact Int.natCast_nonneg _
  |exact absurd (hm.symm.trans ‹Uk s=false›) (by decide)
  |(subst hr;rfl)
  |(simp only [jh,ji];omega)
def zcF:Know Tryz.prog:=⟨246,UQ,zil⟩
def zcE:Know Tryz.prog:=⟨246,fun I=>zx I (UQ I),zf zil⟩
theorem zx8 (s:Str) (hneed:s.length≤140737488355328∧Uk s=false):Spc Tryz.prog 246 [.v (.one (.p (.str s)))] [] (.ret (.tup [.one (.p (.val (.pointer none))),.one (.p (.int .i64 5))])) []:=by
 obtain⟨hs,hm⟩:=hneed
 refine spH Tryz.func246 (by kernel_rfl) { cfgF with keep:=some [0,2,3,4]} [Rw,Ru,zwl,zwk,znf,zne,zcF,zcE] (by kernel_rfl) ?_
 intro I X hI hX
 refine orcL ?_;go_invoke;refine orcS (by kernel_rfl) ?_
 simp only [zi,Nat.reduceAdd];subst hI;simp only [nrmA,nrmB,nrlB,reduceCtorEq]
 exact⟨hs,fun _=>trivial,by simp [hm]⟩
end Go.Proofs.YtkjepecoodjbmaaGreatDoor
namespace Go.Proofs.YtkjepecoodjbmaaGreatDoor
open Go Go.Sep Go.Ab
inductive GR:List Evt→Prop
 |nil:GR []
 |other {l:List Evt} {e:Evt} (h:GR l) (h2:e.kind≠2) (h5:e.kind=5→e.part.bytes=[]):GR (l++[e])
 |body {l:List Evt} {x e:Evt} (h:GR (l++[x])) (hx:x.kind=5∨x.kind=2) (h2:e.kind=2) (hb:e.bytes≠[]):GR (l++[x]++[e])
inductive GJ:List Evt→Prop
 |nil:GJ []
 |other {l:List Evt} {e:Evt} (h:GJ l) (h2:e.kind≠2) (h5:e.kind=5→e.part.bytes=[]):GJ (l++[e])
 |body {l:List Evt} {x e:Evt} (h:GJ (l++[x])) (hx:x.kind=5) (h2:e.kind=2) (hb:e.bytes≠[]):GJ (l++[x]++[e])
theorem zxR {l:List Evt} {x:Evt} (h:GR (l++[x])): ∃ z y,yO (l++[x])=z++[y]∧y.kind=x.kind∧(x.kind≠2→y=x):=by
 rw [X3]
 rcases List.eq_nil_or_concat (yO l) with hn|⟨z,y,hz⟩
 · rw [hn,Y5];exact⟨[],x,rfl,rfl,fun _=>rfl⟩
 · rw [hz,List.concat_eq_append,xI]
   split
   · rename_i h;exact⟨z,_,rfl,h.1.symm,fun k=>absurd h.1 k⟩
   · exact⟨z++[y],x,rfl,rfl,fun _=>rfl⟩
theorem zxU {z:List Evt} {y:Evt} (h:GJ (z++[y])) (k:y.kind=2): ∃ l x,z=l++[x]∧GJ (l++[x])∧x.kind=5∧y.bytes≠[]:=by
 generalize hw:z++[y]=w at h
 cases h with
 |nil=>simp at hw
 | other h h2 h5=>
   have:=List.append_inj' hw rfl;have e:=List.singleton_inj.1 this.2;exact absurd (e▸k) h2
 | body h hx h2 hb=>
   have:=List.append_inj' hw rfl;have e:=List.singleton_inj.1 this.2
   exact⟨_,_,this.1,h,hx,by rw [e];exact hb⟩
theorem zAF {l:List Evt} (h:GR l):GJ (yO l):=by
 induction h with
 |nil=>exact .nil
 | @other l e h h2 h5 ih=>
   rw [X3]
   rcases List.eq_nil_or_concat (yO l) with hn|⟨z,y,hz⟩
   · rw [hn,Y5];exact GJ.other (l:=[]) .nil h2 h5
   · rw [hz,List.concat_eq_append] at ih ⊢
     rw [xI,if_neg (fun k=>h2 k.1)];exact .other ih h2 h5
 | @body l x e h hx h2 hb ih=>
   obtain⟨z,y,hz,hk,hy⟩:=zxR h;rw [X3,hz,xI];rw [hz] at ih
   by_cases k:y.kind=2
   · rw [if_pos ⟨h2,k⟩]
     obtain⟨l',x',rfl,g1,g2,g3⟩:=zxU ih k;refine .body g1 g2 rfl ?_;simp only [evB];intro h;exact g3 (List.append_eq_nil_iff.1 h).1
   · rw [if_neg (fun h=>k h.2)]
     exact .body ih (by rcases hx with hx|hx;rw [hk];exact hx;exact absurd (hk.trans hx) k) h2 hb
def GI (l:List Evt) (i:Nat) (d:Evt):Prop:=((l.getD i d).kind=2→(l.getD i d).bytes≠[]∧∃ j,i=j+1∧(l.getD j d).kind=5)∧((l.getD i d).kind=5→(l.getD i d).part.bytes=[])
theorem zhL {a b:List Evt} {i:Nat} (h:i<a.length) (d:Evt):(a++b).getD i d=a.getD i d:=by
 rw [jH,jy h,← jH]
theorem zAG {l:List Evt} (h:GJ l) (d:Evt): ∀ i,i<l.length→GI l i d:=by
 induction h with
 |nil=>intro i hi;simp at hi
 | @other l e h h2 h5 ih=>
   intro i hi;rw [jk,jr] at hi
   by_cases k:i<l.length
   · obtain⟨a,b⟩:=ih i k
     unfold GI;rw [zhL k];refine⟨fun q=> ?_,b⟩;obtain⟨a1,j,rfl,a2⟩:=a q
     exact⟨a1,j,rfl,by rw [zhL (by omega)];exact a2⟩
   · have e1:(l++[e]).getD i d=e:=by rw [show i=l.length by omega];simp
     unfold GI;rw [e1];exact⟨fun q=>absurd q h2,h5⟩
 | @body l x e h hx h2 hb ih=>
   intro i hi;rw [jk,jr] at hi
   by_cases k:i<(l++[x]).length
   · obtain⟨a,b⟩:=ih i k
     unfold GI;rw [zhL k];refine⟨fun q=> ?_,b⟩;obtain⟨a1,j,rfl,a2⟩:=a q
     exact⟨a1,j,rfl,by rw [zhL (by omega)];exact a2⟩
   · have hl:(l++[x]).length=l.length+1:=by simp
     have hi2:i=l.length+1:=by omega
     subst hi2
     have e1:(l++[x]++[e]).getD (l.length+1) d=e:=by rw [← hl];simp
     have e2:(l++[x]++[e]).getD l.length d=x:=by rw [zhL (by omega)];simp
     unfold GI;rw [e1]
     exact⟨fun _=>⟨hb,l.length,rfl,by rw [e2];exact hx⟩,fun q=>absurd (h2.symm.trans q) (by decide)⟩
def GM (f:Fm):Prop:=GR f.out∧(f.pos=6→∃ l x,f.out=l++[x]∧(x.kind=5∨x.kind=2))
theorem zrR {f:Fm} (h:GR f.out) {e:Evt} (h2:e.kind≠2) (h5:e.kind=5→e.part.bytes=[]):GR (f.out++[e]):=.other h h2 h5
theorem Vl {f:Fm} (h:GM f) (c:Int):GM (xC f c):=⟨zrR h.1 (show(4:Int)≠2 by decide) (fun e=>absurd (show(4:Int)=5 from e) (by decide)),fun e=>absurd (show(8:Int)=6 from e) (by decide)⟩
theorem zu9 {f:Fm} (h:GM f):GM (wV f):=by
 unfold wV
 split
 · exact Vl h _
 · split
   · exact Vl h _
   · exact⟨zrR h.1 (show(5:Int)≠2 by decide) (fun _=>zjM f.fields),fun _=>⟨_,_,rfl,.inl rfl⟩⟩
theorem zxT {f:Fm} (h:GM f) (s:Str):GM (tV f s):=by
 unfold tV
 split
 · exact zu9 h
 · split
   · exact Vl h _
   · split
     · exact Vl h _
     · exact h
theorem gm_f {f:Fm} (h:GM f) (c:UInt8):GM (fmF f c):=by
 have hno: ∀ {n:Int},n≠6→n=6→∃ l x,f.out=l++[x]∧(x.kind=5∨x.kind=2):=fun a b=>absurd b a;unfold fmF
 split
 · unfold uj
   split
   · show GR (if f.pos=6∧sD f c≠[] then f.out++[evB (sD f c)] else f.out)∧(f.pos=6→∃ l x,(if f.pos=6∧sD f c≠[] then f.out++[evB (sD f c)] else f.out)=l++[x]∧(x.kind=5∨x.kind=2))
     split
     · rename_i k
       obtain⟨l,x,e,hx⟩:=h.2 k.1;refine⟨?_,fun _=>⟨f.out,_,rfl,.inr rfl⟩⟩;have:=h.1;rw [e] at this ⊢;exact .body this hx rfl k.2
     · exact h
   · show GR (if f.pos=6 then(if sD f c≠[] then f.out++[evB (sD f c),evO] else f.out++[evO]) else f.out)∧((1:Int)=6→_)
     refine⟨?_,fun e=>absurd e (by decide)⟩
     split
     · rename_i k
       obtain⟨l,x,e,hx⟩:=h.2 k
       split
       · rename_i k2
         rw [show f.out++[evB (sD f c),evO]=f.out++[evB (sD f c)]++[evO] by simp]
         refine .other ?_ (by decide) (fun q=>absurd (show(6:Int)=5 from q) (by decide))
         have:=h.1;rw [e] at this ⊢;exact .body this hx rfl k2
       · exact .other h.1 (by decide) (fun q=>absurd (show(6:Int)=5 from q) (by decide))
     · exact h.1
 · split
   · unfold wQ
     split
     · exact⟨h.1,fun e=>absurd (show(2:Int)=6 from e) (by decide)⟩
     · split
       · exact⟨zrR h.1 (show(3:Int)≠2 by decide) (fun e=>absurd (show(3:Int)=5 from e) (by decide)),fun e=>absurd (show(7:Int)=6 from e) (by decide)⟩
       · split
         · exact⟨h.1,fun e=>absurd (show(3:Int)=6 from e) (by decide)⟩
         · split
           · exact⟨h.1,fun e=>absurd (show(4:Int)=6 from e) (by decide)⟩
           · exact Vl h 5
   · split
     · split
       · exact Vl h 2
       · exact⟨h.1,fun e=>absurd (show(5:Int)=6 from e) (by decide)⟩
     · split
       · have hk:GM { f with ln:=some (lnF (lnOf f) c).1}:=h
         split
         · exact Vl hk _
         · split
           · exact zxT hk _
           · exact hk
       · exact h
theorem zwv: ∀ (b:Str) (f:Fm),GM f→GM (UL f b)
 |[],f,h=>h
 |c::r,f,h=>zwv r (fmF f c) (gm_f h c)
theorem zqL (s b:Str) (d:Evt): ∀ i,i<(yO (xB (fm0 s) b).out).length→GI (yO (xB (fm0 s) b).out) i d:=
 zAG (zAF (zwv b { fm0 s with out:=[]} ⟨.nil,fun e=>absurd (show(0:Int)=6 from e) (by decide)⟩).1) d
theorem zyb {s:Str} (h:s.length≤70):FmI { fm0 s with out:=[]} 0:=by
 have h0:FmI ⟨zcG s,0,QN (zcG s),0,none,[],0,0,0,[]⟩ 0:=
  ⟨rfl,by unfold zcG;simp;omega,Int.le_refl _,by unfold zcG;simp;omega,⟨Int.le_refl _,(show(0:Int)≤2 by decide)⟩,⟨Int.le_refl _,(show(0:Int)≤12 by decide)⟩,jM _,(fun x hx=>by cases hx),(fun l e=>by cases e),(fun e=>absurd (show(0:Int)=5 from e) (by decide)),jM _⟩
 exact zei (zei h0 13) 10
theorem zg4 (l:List Evt) (d:Evt) {i:Nat} (h:i<l.length):(l.take (i+1)).foldl prtS []=prtS ((l.take i).foldl prtS []) (l.getD i d):=by
 rw [jB h,List.foldl_append]
 simp [h]
theorem zqR {l:List Evt} {d:Evt} {i:Nat} (h:i<l.length) (hg: ∀ j,j<l.length→GI l j d) (k:(l.getD i d).kind=2): ∃ z p,(l.take i).foldl prtS []=z++[p]∧p.bytes=[]∧(l.getD i d).bytes≠[]:=by
 obtain⟨hb,j,rfl,hj⟩:=(hg i h).1 k
 refine⟨(l.take j).foldl prtS [],(l.getD j d).part,?_,(hg j (by omega)).2 hj,hb⟩
 rw [zg4 l d (show j<l.length by omega),prtS,if_pos hj]
theorem zuB (l:List Evt): ∀ o:List Prt,(l.foldl prtS o).length≤o.length+l.length:=by
 induction l with
 |nil=>intro o;simp
 | cons e r ih=>
   intro o;have h:=ih (prtS o e)
   have h2 :(prtS o e).length≤o.length+1:=by
    unfold prtS
    split
    · simp
    · split
      · split
        · rename_i p hp
          simp only [jk,List.length_dropLast,jr];omega
        · omega
      · omega
   rw [List.foldl_cons,jh];omega
theorem zih: ∀ (b:Str) (f:Fm) (i:Nat),FmI f i→zH (UL f b).out+(UL f b).held.toNat≤zH f.out+f.held.toNat+2 * b.length
 |[],f,i,h=>by simp [UL]
 | c::r,f,i,h=>by
   have h1:=zih r (fmF f c) (i+1) (zvp h c);have h2:=zkd h c;rw [jh]
   show zH (UL (fmF f c) r).out+(UL (fmF f c) r).held.toNat≤_
   omega
theorem ziq {s b:Str} (h:s.length≤70):(yO (xB (fm0 s) b).out).length≤4 * b.length∧zH (yO (xB (fm0 s) b).out)≤1000+2 * b.length:=by
 have hI:=zyb h;have h1:(xB (fm0 s) b).out.length≤4 * (0+b.length):=(zkc b _ 0 hI).on;have h2:zH (xB (fm0 s) b).out+(xB (fm0 s) b).held.toNat≤0+(fm0 s).held.toNat+2 * b.length:=zih b _ 0 hI;have h3:=zcr (xB (fm0 s) b).out;have h4:=zcq (xB (fm0 s) b).out;have h5:(fm0 s).held<(fm0 s).mark.length:=hI.h1;have h6:(fm0 s).mark.length≤1000:=hI.ml;have h7:0≤(fm0 s).held:=hI.h0;omega
end Go.Proofs.YtkjepecoodjbmaaGreatDoor
namespace Go.Proofs.YtkjepecoodjbmaaGreatDoor
open Go Go.Sep Go.Ab
set_option maxRecDepth 100000
theorem zyg (s b:Str) (hneed:(s.length≤1000000∧b.length≤300000)∧Uk s=true):Spc Tryz.prog 216 [.v (.one (.p (.str s))),.v (.one (.p (.list .byte b)))] [] (.ret (.tup [.one (.p (.list .prt ((YU s b).1))),.one (.p (.int .i64 ((YU s b).2)))])) []:=by
 obtain⟨⟨hs,hb⟩,hm⟩:=hneed
 have hl:s.length≤70:=by unfold Uk at hm;simp at hm;omega
 have hI0:=zyb hl;have hg:=zqL s b ⟨0,⟨[],[],0,[],0⟩,[],⟨[],[],[],[]⟩,0⟩;have hle:=ziq (b:=b) hl
 have hN:fmN0 (fm0 s) b:=⟨0,hI0,by omega⟩
 generalize hr:YU s b=r;unfold YU at hr
 rw [hm,if_neg (by decide)] at hr
 refine spH Tryz.func216 (by kernel_rfl) { cfgF with rl:=[0],nr:=[8],keep:=some [0,1,4,5,6,7,8,10,11,12,23,24,25,30]} [zcI,zcH,Rl,Rk,zcF,zcE] (by kernel_rfl) ?_
 intro I X hI hX
 refine orcL ?_;go_invoke;refine orcS (by kernel_rfl) ?_
 simp only [zi,Nat.reduceAdd];generalize fm0 s=F0 at *;refine⟨?_,fun c=> ?_,fun _=>⟨?_,?_⟩⟩
 · subst hI;exact⟨by omega,hm⟩
 · subst hI;exact absurd c (by decide)
 · subst hI;exact hN
 rw [show I.hid F0=F0 by subst hI;rfl]
 rw [show I.hid (xB F0 b)=xB F0 b by subst hI;rfl]
 generalize xB F0 b=F at *
 rw [show I.hid (yO F.out)=yO F.out by subst hI;rfl]
 generalize yO F.out=L at *
 refine lpH hI [zcI,zcH,Rl,Rk,zcF,zcE] hX [6,8,23,24,25] (fun(g:Nat × List Prt)=>match g with|(i,o)=>i≤L.length∧o=(L.take i).foldl prtS []) (fun(g:Nat × List Prt)=>match g with|(i,o)=>⟨[(6,.v (.one (.ptr 0 0))),(8,.v (.one (.row 1))),(23,.v (.one (.row 2))),(24,.v (.one (.p (.int .i64 ((I.len (α:=Evt) L)))))),(25,.v (.one (.p (.int .i64 i))))],[.abs (.fm F),.row .prt 32 o,.row .evt 34 L],62,none⟩) (fun(g:Nat × List Prt)=>match g with|(i,o)=>L.length - i) (0,[]) (by kernel_rfl) (by kernel_rfl) ?_ ?_
 · exact⟨jM _,rfl⟩
 rintro⟨i,o⟩ ⟨h1,h2⟩ A hA;simp only at hA h1 h2
 refine orcL ?_;go_invoke;refine orcS (by kernel_rfl) ?_
 simp only [zi,Nat.reduceAdd];subst hI;simp only [nrmA,nrmB,nrlB,reduceCtorEq];have hlo:=zuB (L.take i) [];rw [← h2,jv,ji] at hlo;have hb2:i<L.length→_→_:=fun h k=>zqR h hg k;have hs2:i<L.length→_:=fun h=>zg4 L ⟨0,⟨[],[],0,[],0⟩,[],⟨[],[],[],[]⟩,0⟩ h
 have hsum:i<L.length→(L.getD i ⟨0,⟨[],[],0,[],0⟩,[],⟨[],[],[],[]⟩,0⟩).bytes.length≤zH L:=fun h=>by
  refine U2 ?_
  rw [show L.getD i ⟨0,⟨[],[],0,[],0⟩,[],⟨[],[],[],[]⟩,0⟩=L[i] by simp [h]]
  exact List.getElem_mem h
 rw [← h2] at hb2 hs2
 have hgo:i<L.length→_:=fun h=>hA (i+1,prtS o (L.getD i ⟨0,⟨[],[],0,[],0⟩,[],⟨[],[],[],[]⟩,0⟩)) ⟨by simp only;omega,by simp only;rw [hs2 h]⟩ (by simp only;omega)
 have hend: ¬ i<L.length→L.foldl prtS []=o:=fun h=>by rw [h2,jq (by omega)]
 clear hg hs2 hA;generalize L.getD i ⟨0,⟨[],[],0,[],0⟩,[],⟨[],[],[],[]⟩,0⟩=x at *;simp only [Int.natCast_add,Int.natCast_one] at hgo;refine⟨fun c=> ?_,fun c=> ?_⟩
 · have hgo:=hgo (by omega)
   have hb2:=hb2 (by omega)
   have hsum:=hsum (by omega)
   by_cases k5:x.kind=5
   · rw [prtS,if_pos k5] at hgo
     (repeat' (first|refine ja ?_ ?_|intro _))<;>first|omega|exact jb|exact jc ‹False›|skip
     all_goals first
      |omega
      |(simp only [jr];omega)
      |exact hgo
      |exact absurd k5 ‹_›
   · by_cases k2:x.kind=2
     · obtain⟨z,p,hz,hp,hxb⟩:=hb2 k2
       have hxb:0<x.bytes.length:=by cases hq:x.bytes with|nil=>exact absurd hq hxb|cons _ _=>simp
       subst hz
       rw [show prtS (z++[p]) x=z++[⟨p.name,p.file,p.type,x.bytes⟩] by unfold prtS;rw [if_neg k5,if_pos k2];simp [hp]] at hgo
       have e1:(((z++[p]).length:Int) - 1).toNat=z.length:=by rw [jk,jr];omega
       have e2:(z++[p]).getD z.length ⟨[],[],[],[]⟩=p:=by simp
       have e3: ∀ q,(z++[p]).set z.length q=z++[q]:=fun q=>by simp
       simp only [e1,e2,e3,hp];simp only [jk,jr,ji];clear e1 e2 e3;rw [jk,jr] at hlo
       (repeat' (first|refine ja ?_ ?_|intro _))<;>first|omega|exact jb|exact jc ‹False›|skip
       all_goals first
        |omega
        |exact hgo
        |exact absurd k2 ‹_›
        |exact absurd ‹x.kind=5› k5
     · rw [prtS,if_neg k5,if_neg k2] at hgo
       (repeat' (first|refine ja ?_ ?_|intro _))<;>first|omega|exact jb|exact jc ‹False›|skip
       all_goals first
        |omega
        |exact hgo
        |exact absurd ‹x.kind=5› k5
        |exact absurd ‹x.kind=2› k2
 · have he:=hend (by omega)
   rw [he] at hr;subst hr
   (repeat' (first|refine ja ?_ ?_|intro _))<;>first|omega|exact jb|exact jc ‹False›|skip
   all_goals first
    |omega
    |(rw [if_pos ‹¬ qg F=0›];done)
    |(rw [if_neg (fun h=>h ‹qg F=0›)];done)
end Go.Proofs.YtkjepecoodjbmaaGreatDoor
namespace Go.Proofs.YtkjepecoodjbmaaGreatDoor
open Go Go.Sep Go.Ab
set_option maxRecDepth 100000
theorem zx7 (s:Str) (hneed:s.length≤140737488355328∧Uk s=false):Spc Tryz.prog 246 [.v (.one (.p (.str s)))] [] (.ret (.tup [.one (.p (.val (.pointer none))),.one (.p (.int .i64 5))])) []:=zx8 s hneed
def UO (I:Alg):KU
 |[.v (.one (.p (.str s)))],[]=>(fun(s:Str)=>(some (.one ⟨I.hid (s.length≤140737488355328∧Uk s=false),(.ret (.tup [.one (.p (.val (.pointer none))),.one (.p (.int .i64 5))])),[]⟩):Option CT)) s
 |_,_=>none
theorem zik:zu Tryz.prog 246 (UO alg):=by
 intro args hp r h;unfold UO at h
 split at h
 · cases h;exact fun hn=>zx7 _ hn
 · cases h
def zsb:Know Tryz.prog:=⟨246,UO,zik⟩
def zsa:Know Tryz.prog:=⟨246,fun I=>zx I (UO I),zf zik⟩
theorem zvn (b:Str) (hneed:False):Spc Tryz.prog 247 [.v (.one (.p (.val (.pointer none)))),.v (.one (.p (.list .byte b)))] [] (.ret (.v (.one (.row 0)))) [.row .evt 34 (([]:List Evt))]:=hneed.elim
def Wl (I:Alg):KU
 |[.v (.one (.p (.val (.pointer none)))),.v (.one (.p (.list .byte b)))],[]=>(fun(b:Str)=>(some (.one ⟨I.hid (False),(.ret (.v (.one (.row 0)))),[.row .evt 34 (I.hid ([]:List Evt))]⟩):Option CT)) b
 |_,_=>none
theorem zej:zu Tryz.prog 247 (Wl alg):=by
 intro args hp r h;unfold Wl at h
 split at h
 · cases h;exact fun hn=>zvn _ hn
 · cases h
def zoO:Know Tryz.prog:=⟨247,Wl,zej⟩
def zoN:Know Tryz.prog:=⟨247,fun I=>zx I (Wl I),zf zej⟩
theorem zyf (s b:Str) (hneed:(s.length≤1000000∧b.length≤300000)∧Uk s=false):Spc Tryz.prog 216 [.v (.one (.p (.str s))),.v (.one (.p (.list .byte b)))] [] (.ret (.tup [.one (.p (.list .prt ((YU s b).1))),.one (.p (.int .i64 ((YU s b).2)))])) []:=by
 obtain⟨⟨hs,hb⟩,hm⟩:=hneed;generalize hr:YU s b=r;unfold YU at hr;rw [if_pos hm] at hr;subst hr
 refine spH Tryz.func216 (by kernel_rfl) { cfgF with rl:=[0],nr:=[8],keep:=some [0,1,4,5,6,7,8,10,11,12,23,24,25,30]} [zcI,zcH,zoO,zoN,Rl,Rk,zsb,zsa] (by kernel_rfl) ?_
 intro I X hI hX
 refine orcL ?_;go_invoke;refine orcS (by kernel_rfl) ?_
 simp only [zi,Nat.reduceAdd];subst hI;simp only [nrmA,nrmB,nrlB,reduceCtorEq]
 exact⟨⟨by omega,hm⟩,fun _=>trivial,by decide⟩
def za5 (I:Alg):KU
 |[.v (.one (.p (.str s))),.v (.one (.p (.list .byte b)))],[]=>(fun(s b:Str)=>(some (.one ⟨I.hid (s.length≤1000000∧b.length≤300000),(.ret (.tup [.one (.p (.list .prt (I.hid ((YU s b).1)))),.one (.p (.int .i64 (I.hid ((YU s b).2))))])),[]⟩):Option CT)) s b
 |_,_=>none
theorem zna:zu Tryz.prog 216 (za5 alg):=by
 intro args hp r h;unfold za5 at h;split at h<;>cases h
 rename_i s b;simp only [CT.Good,zh];intro hneed
 cases hm:Uk s with
 |true=>exact zyg s b ⟨hneed,hm⟩
 |false=>exact zyf s b ⟨hneed,hm⟩
def zvz:Know Tryz.prog:=⟨216,za5,zna⟩
def zvy:Know Tryz.prog:=⟨216,fun I=>zx I (za5 I),zf zna⟩
end Go.Proofs.YtkjepecoodjbmaaGreatDoor
namespace Go.Proofs.YtkjepecoodjbmaaGreatDoor
open Go Go.Sep Go.Ab
def k5 (e:Evt):Bool:=decide (e.kind=5)
theorem zt1 (s:Str):(zjw s).length≤40:=by
 unfold zjw
 split
 · decide
 · rw [jv];omega
theorem zoj (l:List Fld):(ZY l).1.file.length≤40:=by
 unfold ZY zuG zxr
 repeat' split
 all_goals first|exact zt1 _|(simp [prt0];done)|decide
def P5 (f:Fm):Prop:=((f.out.filter k5).length:Int)≤f.parts∧∀ e ∈ f.out,e.kind=5→e.part.file.length≤40
theorem Qg {f:Fm} (h:P5 f) {m:Str} {hd p co sk:Int} {bs:List Int} {ln:Option Ln} {fs:List Fld}:P5 ⟨m,hd,bs,p,ln,fs,f.parts,sk,co,f.out⟩:=h
theorem zdN {f:Fm} (h:P5 f) (e:Evt) (he:e.kind≠5) {m:Str} {hd p co sk:Int} {bs:List Int} {ln:Option Ln} {fs:List Fld}:P5 ⟨m,hd,bs,p,ln,fs,f.parts,sk,co,f.out++[e]⟩:=by
 refine⟨?_,fun x hx k=> ?_⟩
 · show(((f.out++[e]).filter k5).length:Int)≤f.parts
   rw [List.filter_append]
   have:[e].filter k5=[]:=by simp [k5,he]
   rw [this,List.append_nil];exact h.1
 · rcases List.mem_append.1 hx with hx|hx
   · exact h.2 x hx k
   · rw [List.mem_singleton.1 hx] at k;exact absurd k he
theorem Vb {f:Fm} (h:P5 f) (c:Int):P5 (xC f c):=zdN h (evF c) (show(4:Int)≠5 by decide)
theorem zuL {f:Fm} (h:P5 f):P5 (wV f):=by
 unfold wV
 split
 · exact Vb h _
 · split
   · exact Vb h _
   · refine⟨?_,fun x hx k=> ?_⟩
     · show(((f.out++[evP (ZY f.fields).1]).filter k5).length:Int)≤f.parts+1
       rw [List.filter_append,jk];have:[evP (ZY f.fields).1].filter k5=[evP (ZY f.fields).1]:=rfl;rw [this,jr];have:=h.1;omega
     · rcases List.mem_append.1 (show x ∈ f.out++[evP (ZY f.fields).1] from hx) with hx|hx
       · exact h.2 x hx k
       · rw [List.mem_singleton.1 hx];exact zoj _
theorem zxw {f:Fm} (h:P5 f) (s:Str):P5 (tV f s):=by
 unfold tV
 split
 · exact zuL h
 · split
   · exact Vb h _
   · split
     · exact Vb h _
     · exact Qg h
theorem p5_f {f:Fm} (h:P5 f) (c:UInt8):P5 (fmF f c):=by
 have hB:evB (sD f c)=⟨2,hd0,sD f c,prt0,0⟩:=rfl;unfold fmF
 split
 · unfold uj fmSk
   split
   · dsimp only
     split
     · exact zdN h _ (show(2:Int)≠5 by decide)
     · exact Qg h
   · dsimp only
     split
     · split
       · have:=zdN (zdN h (evB (sD f c)) (show(2:Int)≠5 by decide) (m:=f.mark) (hd:=f.held) (p:=f.pos) (co:=f.code) (sk:=f.skip) (bs:=f.bs) (ln:=f.ln) (fs:=f.fields)) evO (show(6:Int)≠5 by decide) (m:=f.mark) (hd:=((ql f.mark f.held.toNat c).2.1:Int)) (p:=1) (co:=f.code) (sk:=0) (bs:=f.bs) (ln:=f.ln) (fs:=f.fields)
         simpa using this
       · exact zdN h _ (show(6:Int)≠5 by decide)
     · exact Qg h
 · split
   · unfold wQ
     repeat' split
     all_goals first
      |exact Qg h
      |exact zdN h _ (show(3:Int)≠5 by decide)
      |exact Vb h _
   · split
     · split
       · exact Vb h _
       · exact Qg h
     · split
       · split
         · exact Vb (Qg h) _
         · split
           · exact zxw (Qg h) _
           · exact Qg h
       · exact h
theorem zwf: ∀ (b:Str) {f:Fm},P5 f→P5 (UL f b)
 |[],_,h=>h
 |c::b,_,h=>zwf b (p5_f h c)
theorem zuX (o:List Evt) (e:Evt):(tu o e).filter k5=o.filter k5++[e].filter k5:=by
 rcases List.eq_nil_or_concat o with rfl|⟨z,x,rfl⟩
 · rfl
 · rw [List.concat_eq_append,xI]
   split
   · rename_i h
     simp [k5,h.1,h.2,evB]
   · rw [List.filter_append]
theorem zmG: ∀ (l o:List Evt),(l.foldl tu o).filter k5=o.filter k5++l.filter k5
 |[],o=>by simp
 |e::l,o=>by rw [List.foldl_cons,zmG l,zuX,jo,← List.filter_append];rfl
theorem zuZ (l:List Evt):(yO l).filter k5=l.filter k5:=zmG l []
def prtZ (l:List Prt):Nat:=(l.map fun p=>p.bytes.length).sum
theorem zl4 (a b:List Prt):prtZ (a++b)=prtZ a+prtZ b:=by simp [prtZ]
theorem zuA {l:List Prt} {p:Prt} (h:p ∈ l):p.bytes.length≤prtZ l:=by
 induction l with
 |nil=>cases h
 | cons x r ih=>
   simp only [prtZ,List.map_cons,List.sum_cons]
   rcases List.mem_cons.1 h with rfl|h
   · omega
   · have:=ih h;unfold prtZ at this;omega
theorem zy0 (o:List Prt) (e:Evt) (he:k5 e=true→e.part.bytes=[]):prtZ (prtS o e)≤prtZ o+e.bytes.length:=by
 unfold prtS
 split
 · rename_i h
   rw [zl4]
   have:prtZ [e.part]=0:=by simp [prtZ,he (by simp [k5,h])]
   omega
 · split
   · rcases List.eq_nil_or_concat o with rfl|⟨z,x,rfl⟩
     · simp
     · rw [List.concat_eq_append]
       simp only [List.getLast?_append,List.getLast?_singleton,Option.some_or,List.dropLast_concat,zl4]
       simp [prtZ];omega
   · omega
theorem zwb: ∀ (l:List Evt) (o:List Prt),(∀ e ∈ l,k5 e=true→e.part.bytes=[])→prtZ (l.foldl prtS o)≤prtZ o+zH l
 |[],o,_=>by simp [zH]
 | e::l,o,h=>by
   have h1:=zwb l (prtS o e) fun x hx=>h x (List.mem_cons_of_mem _ hx);have h2:=zy0 o e (h e List.mem_cons_self);rw [List.foldl_cons];simp only [zH,List.map_cons,List.sum_cons] at h1 ⊢;omega
theorem zy1 (o:List Prt) (e:Evt):(prtS o e).map Prt.file=o.map Prt.file++([e].filter k5).map fun x=>x.part.file:=by
 unfold prtS
 split
 · rename_i h;simp [k5,h]
 · rename_i h
   have hk:k5 e=false:=by simp [k5,h]
   split
   · rcases List.eq_nil_or_concat o with rfl|⟨z,x,rfl⟩
     · simp [hk]
     · simp [hk]
   · simp [hk]
theorem zwc: ∀ (l:List Evt) (o:List Prt),(l.foldl prtS o).map Prt.file=o.map Prt.file++(l.filter k5).map fun x=>x.part.file
 |[],o=>by simp
 | e::l,o=>by
   rw [List.foldl_cons,zwc l,zy1,jo,← List.map_append,← List.filter_append];rfl
theorem zjJ (s b:Str):(YU s b).1.length≤12∧(∀ p ∈ (YU s b).1,p.file.length≤40)∧prtZ (YU s b).1≤1000+2 * b.length:=by
 have h0:([]:List Prt).length≤12∧(∀ p ∈ ([]:List Prt),p.file.length≤40)∧prtZ ([]:List Prt)≤1000+2 * b.length:=⟨by decide,(fun p h=>by cases h),by simp [prtZ]⟩
 unfold YU
 split
 · exact h0
 · rename_i hm
   split
   · exact h0
   · have hs:s.length≤70:=by
      unfold Uk at hm
      simp at hm
      omega
     have h5:P5 (xB (fm0 s) b):=zwf b ⟨Int.le_refl 0,fun e h=>by cases h⟩
     have hp:=(zkc b _ 0 (zyb hs)).p0;have hle:=ziq (b:=b) hs;have hf:=zwc (yO (xB (fm0 s) b).out) [];rw [zuZ] at hf;simp only [List.map_nil,List.nil_append] at hf;dsimp only;refine⟨?_,fun p h=> ?_,?_⟩
     · have:=congrArg List.length hf
       rw [List.length_map,List.length_map] at this;have h1:=h5.1;have h2:(xB (fm0 s) b).parts≤12:=hp.2;omega
     · have h1:p.file ∈ ((xB (fm0 s) b).out.filter k5).map fun x=>x.part.file:=by rw [← hf];exact List.mem_map_of_mem h
       obtain⟨e,he,e2⟩:=List.mem_map.1 h1;rw [← e2]
       exact h5.2 e (List.mem_filter.1 he).1 (by simpa [k5] using (List.mem_filter.1 he).2)
     · have:=zwb (yO (xB (fm0 s) b).out) [] fun e he hk=> ?_
       · have h1:=hle.2
         have h2:prtZ []=0:=rfl;omega
       · obtain⟨i,hi,rfl⟩:=List.getElem_of_mem he
         have h1:=(zqL s b ⟨0,hd0,[],prt0,0⟩ i hi).2;rw [jH,jm hi] at h1
         exact h1 (by simpa [k5] using hk)
end Go.Proofs.YtkjepecoodjbmaaGreatDoor
namespace Go.Proofs.YtkjepecoodjbmaaGreatDoor
open Go Go.Sep Go.Ab
set_option maxRecDepth 100000
def cfgG:Cfg:= { sl:=Tq.sl++[⟨50,1000003,.byte,none⟩,⟨120,4,.fld,none⟩,⟨120,6,.byte,some 5⟩]}
def UE (I:Alg):KU
 |[.v (.one (.p (.int .i64 st))),.v (.one (.p (.str b)))],[]=>(fun(b:Str)=>(some (.one ⟨I.hid (b.length≤1000000),(.ret (.v (.agg [.p (.int .i64 st),.p (.list .fld (I.hid ([]:List Fld))),.p (.list .byte b)]))),[]⟩):Option CT)) b
 |_,_=>none
theorem zhM:zu Tryz.prog 84 (UE alg):=by
 intro args hp r h;unfold UE at h;split at h<;>cases h
 rename_i st b;simp only [CT.Good,zh];intro hneed
 refine spH Tryz.func84 (by kernel_rfl) { cfgG with keep:=some [0,1,4]} [] (by kernel_rfl) ?_
 intro I X hI hX
 refine orcL ?_;go_invoke;refine orcS (by kernel_rfl) ?_
 simp only [zi,Nat.reduceAdd];subst hI;simp only [nrmA,nrmB,nrlB,reduceCtorEq,V0.agg.injEq]
def ZH:Know Tryz.prog:=⟨84,UE,zhM⟩
def ZG:Know Tryz.prog:=⟨84,fun I=>zx I (UE I),zf zhM⟩
def UH (I:Alg):KU
 |[.v (.agg [.p (.str m),.p (.str t),.p (.int .i64 mi),.p (.list .fld f),.p (.int .i64 le)]),.v (.one (.p (.list .byte body)))],[]=>(fun(m t:Str) (f:List Fld) (body:Str)=>(some (.one ⟨I.hid (FOk f∧body.length≤100000),(.ret (.tup [.one (.p (.list .prt (I.hid ((rV f body).1)))),.one (.p (.int .i64 (I.hid ((rV f body).2))))])),[]⟩):Option CT)) m t f body
 |_,_=>none
set_option maxHeartbeats 1000000 in
theorem zhN:zu Tryz.prog 175 (UH alg):=by
 intro args hp r h;unfold UH at h;split at h<;>cases h
 rename_i m t mi f le body
 revert f;intro(f:List Fld)
 simp only [CT.Good,zh];intro hneed;obtain⟨hf,hb⟩:=hneed;have hv:=zfx hf Yk;have hp:=zg8 (oneT f Yk).1;have hg:=zmQ hp.2 bndT;have hpl:=hp.1;clear hp;generalize hr:rV f body=r;unfold rV at hr;unfold oneT at hr hv hg hpl
 refine spH Tryz.func175 (by kernel_rfl) { cfgG with rl:=[0],keep:=some [0,1,2,4,5,6,7,8,9,10,11]} [SE,SC,vC,vz,Xf,Xe,zvz,zvy] (by kernel_rfl) ?_
 intro I X hI hX
 refine orcL ?_;go_invoke;refine orcS (by kernel_rfl) ?_
 simp only [zi,Nat.reduceAdd];rw [show([99,111,110,116,101,110,116,45,116,121,112,101]:Str)=Yk from rfl,show([98,111,117,110,100,97,114,121]:Str)=bndT from rfl,show([109,117,108,116,105,112,97,114,116,47,102,111,114,109,45,100,97,116,97]:Str)=zzo from rfl]
 have hc:Yk.length≤1000000:=by decide
 have hh: ∀ {α:Type} (y:α),I.hid y=y:=fun y=>by subst hI;rfl
 simp only [hh];generalize oneF (valsF f Yk)=o at *;generalize x9 o.1=M at *;generalize getP M.1.params bndT=g at *;generalize YU g.1 body=Y at *;subst hI;simp only [nrmA,nrmB,nrlB,reduceCtorEq,V0.agg.injEq]
 (repeat' (first|refine ja ?_ ?_|intro _))<;>first|omega|exact jb|exact jc ‹False›|skip
 all_goals first
  |omega
  |assumption
  |exact hf.1
  |(exact(hf.2 _ ‹_›).1)
  |(exact(hf.2 _ ‹_›).2)
  |(((repeat(first|rewrite [if_pos (by first|omega|assumption|(simp only [*,or_self,or_true,true_or,or_false,false_or,jf,jg,jd,je,and_self,and_true,true_and];done)|(simp only [*];omega)|(simp [*];done)|(simp [*];omega))] at hr|rewrite [if_neg (by first|omega|assumption|(simp only [*,or_self,or_true,true_or,or_false,false_or,jf,jg,jd,je,and_self,and_true,true_and];done)|(simp only [*];omega)|(simp [*];done)|(simp [*];omega))] at hr)));subst hr;rfl)
  |(simp_all;done)
def UG:Know Tryz.prog:=⟨175,UH,zhN⟩
def UF:Know Tryz.prog:=⟨175,fun I=>zx I (UH I),zf zhN⟩
theorem zwq (q:Sto) (e:Ent):q.n≤(wsS q e).n∧(wsS q e).n≤q.n+1:=zjd _ _ _ _
def zaW (I:Alg):KU
 |[.v (.one (.ptr 0 0)),.v (.agg [.p (.str pn),.p (.str pf),.p (.str pt),.p (.nl pb)])],[.obj 50 [.ptr 1 0,.ptr 2 0,.ptr 3 0,.ptr 4 0,.ptr 5 0],.pack [.obj 54 [.ptr 1 0,.ptr 2 0],.pack [.obj 124 [.row 1,.p (.int .i64 n)],.row .upl 81 l],.pack [.obj 156 [.row 1,.p (.int .i64 s)],.row .byte 5 b]],.abs (.cn c0),.abs (.cn c1),.abs (.cn c2),.abs (.cn c3)]=>(fun(l:List Upl) (b pn pf pt pb:Str)=>(some (.one ⟨I.hid (zL l n∧n≤200000 - 1∧b.length≤100000∧pf.length≤100000∧pb.length≤100000),(.ret (.tup [(.one (.p (.int .i64 (I.hid (if zfE ⟨l,n,b,s⟩ ⟨pn,pf,pt,pb⟩=0 then n+1 else 0))))),.one (.p (.int .i64 (I.hid (zfE ⟨l,n,b,s⟩ ⟨pn,pf,pt,pb⟩))))])),[.obj 50 [.ptr 1 0,.ptr 2 0,.ptr 3 0,.ptr 4 0,.ptr 5 0],.pack [.obj 54 [.ptr 1 0,.ptr 2 0],.pack [.obj 124 [.row 1,.p (.int .i64 (I.hid ((sU ⟨l,n,b,s⟩ ⟨pn,pf,pt,pb⟩).n)))],.row .upl 81 (I.hid ((sU ⟨l,n,b,s⟩ ⟨pn,pf,pt,pb⟩).l))],.pack [.obj 156 [.row 1,.p (.int .i64 (I.hid ((sU ⟨l,n,b,s⟩ ⟨pn,pf,pt,pb⟩).s)))],.row .byte 5 (I.hid ((sU ⟨l,n,b,s⟩ ⟨pn,pf,pt,pb⟩).b))]],.abs (.cn c0),.abs (.cn c1),.abs (.cn c2),.abs (.cn c3)]⟩):Option CT)) l b pn pf pt pb
 |_,_=>none
set_option maxHeartbeats 1000000 in
theorem zmS:zu Tryz.prog 177 (zaW alg):=by
 intro args hp r h;unfold zaW at h;split at h<;>cases h
 rename_i pn pf pt pb n l s b c0 c1 c2 c3
 revert l;intro(l:List Upl)
 simp only [CT.Good,zh];intro hneed;obtain⟨hs,hn,hb,hf,hp⟩:=hneed
 have hl:(zoL++pf).length≤1000000:=by rw [jk];simp [zoL];omega
 have h1:=zbk hs b (su ⟨l,n,b,s⟩ ⟨pn,pf,pt,pb⟩);have h2:=zjd l n b (su ⟨l,n,b,s⟩ ⟨pn,pf,pt,pb⟩);have h3:=ZJ (l:=l) (n:=n) (su ⟨l,n,b,s⟩ ⟨pn,pf,pt,pb⟩) hb;generalize hc:zfE ⟨l,n,b,s⟩ ⟨pn,pf,pt,pb⟩=c;generalize hq:sU ⟨l,n,b,s⟩ ⟨pn,pf,pt,pb⟩=q';unfold zfE apCd wsC wsS su creE apE at hc;unfold sU apCd apQ wsC wsS su creE apE zdd at hq;unfold su creE at h1 h2 h3
 refine spH Tryz.func177 (by kernel_rfl) { cfgG with keep:=some [0,1,3,4,5,6,7,8]} [RS,RQ,y9,y8,wB,wz] (by kernel_rfl) ?_
 intro I X hI hX
 refine orcL ?_;go_invoke;refine orcS (by kernel_rfl) ?_
 simp only [zi,Nat.reduceAdd];rw [show([102,105,108,101,110,97,109,101,32]:Str)=zoL from rfl];subst hI;simp only [nrmA,nrmB,nrlB,reduceCtorEq,V0.agg.injEq,HO.pack.injEq,HO.obj.injEq];dsimp only at hc hq h1 h2 h3
 have hlf:(zoL.length:Int)+pf.length≤1000000:=by rw [jk] at hl;omega
 obtain⟨nm,hnm⟩: ∃ nm,nm=zoL++pf:=⟨_,rfl⟩;simp only [← hnm] at hc hq h1 h2 h3 hl ⊢;clear hnm
 by_cases hw:wrtC l n b ⟨1,n+1,(pb.length:Int),nm⟩=0
 · simp only [hw,ne_eq,jf,jg,if_true,if_false] at hc hq ⊢
   generalize wrtL l n b ⟨1,n+1,(pb.length:Int),nm⟩=l1 at *;generalize wrtN l n b ⟨1,n+1,(pb.length:Int),nm⟩=n1 at *;generalize wrtB l n b ⟨1,n+1,(pb.length:Int),nm⟩=b1 at *
   by_cases hg:apG l1 (n+1) 0=true
   · simp only [hg,if_true,je,jf,jg,if_false,show ¬ (17:Int)=0 by decide] at hc hq ⊢
     subst hc hq
     (repeat' (first|refine ja ?_ ?_|intro _))<;>first|omega|exact jb|exact jc ‹False›|skip
     all_goals first|omega|assumption|rfl|trace_state
   · simp only [hg,if_false,jd] at hc hq ⊢
     have h4:=zbk h1 b1 ⟨2,n+1,0,pb⟩
     have h5:=Zq (l:=l1) (n:=n1) (b:=b1) (e:=⟨2,n+1,0,pb⟩) (show(2:Int)≠1 by decide)
     have h6:=ZJ (l:=l1) (n:=n1) (b:=b1) ⟨2,n+1,0,pb⟩ h3
     by_cases ha:wrtC l1 n1 b1 ⟨2,n+1,0,pb⟩=0
     · simp only [ha,jf,if_false,if_true] at hc hq ⊢
       subst hc hq
       (repeat' (first|refine ja ?_ ?_|intro _))<;>first|omega|exact jb|exact jc ‹False›|skip
       all_goals first|omega|assumption|rfl|trace_state
     · simp only [ha,jg,if_false,if_true] at hc hq ⊢
       subst hc hq
       (repeat' (first|refine ja ?_ ?_|intro _))<;>first|omega|exact jb|exact jc ‹False›|skip
       all_goals first|omega|assumption|rfl|trace_state
 · simp only [hw,ne_eq,jf,jg,if_true,if_false] at hc hq ⊢
   subst hc hq
   (repeat' (first|refine ja ?_ ?_|intro _))<;>first|omega|exact jb|exact jc ‹False›|skip
   all_goals first|omega|assumption|rfl|contradiction|trace_state
def zaV:Know Tryz.prog:=⟨177,zaW,zmS⟩
def zaU:Know Tryz.prog:=⟨177,fun I=>zx I (zaW I),zf zmS⟩
end Go.Proofs.YtkjepecoodjbmaaGreatDoor
namespace Go.Proofs.YtkjepecoodjbmaaGreatDoor
open Go Go.Sep Go.Ab
set_option maxRecDepth 100000
theorem YZ (f:List Fld) (body:Str):(rV f body).1.length≤12∧(∀ p ∈ (rV f body).1,p.file.length≤40)∧prtZ (rV f body).1≤1000+2 * body.length:=by
 have h0:([]:List Prt).length≤12∧(∀ p ∈ ([]:List Prt),p.file.length≤40)∧prtZ ([]:List Prt)≤1000+2 * body.length:=⟨by decide,(fun p h=>by cases h),by simp [prtZ]⟩
 unfold rV
 split
 · exact h0
 · split
   · exact h0
   · split
     · exact h0
     · exact zjJ _ _
theorem zof {ps:List Prt} {i:Nat} (h:i<ps.length):WX (ps.drop i)=(((ps.getD i ⟨[],[],[],[]⟩).bytes.length:Int)+200)+WX (ps.drop (i+1)):=by
 rw [jE h,WX];simp [h]
theorem zkh {q:Sto} {ids:List Int} {t:Str} {ps:List Prt} {i:Nat} (h:i<ps.length):um q ids t (ps.drop i)=(if(ps.getD i ⟨[],[],[],[]⟩).file=[] then um q ids t (ps.drop (i+1)) else if zfE q (ps.getD i ⟨[],[],[],[]⟩)≠0 then⟨TG (if zfE q (ps.getD i ⟨[],[],[],[]⟩)=4 then 413 else 507),syS (WR (sU q (ps.getD i ⟨[],[],[],[]⟩)) ids)⟩ else um (sU q (ps.getD i ⟨[],[],[],[]⟩)) (ids++[q.n+1]) (znW t (q.n+1) (ps.getD i ⟨[],[],[],[]⟩)) (ps.drop (i+1))):=by
 have e:ps.getD i ⟨[],[],[],[]⟩=ps[i]:=by simp [h]
 rw [e,jE h,um]
theorem zko {q:Sto} {ids:List Int} {j:Nat} (h:j<ids.length):WR q (ids.drop j)=WR (wsS q (zdd (ids.getD j 0))) (ids.drop (j+1)):=by
 have e:ids.getD j 0=ids[j]:=by simp [h]
 rw [e,jE h,WR]
theorem zuW {q:Sto} (hs:zL q.l q.n) (hb:q.b.length≤100000) (p:Prt):zL (sU q p).l (sU q p).n∧(sU q p).b.length≤100000∧q.n≤(sU q p).n∧(sU q p).n≤q.n+1∧(sU q p).s=q.s:=by
 have hw: ∀ {x:Sto} (e:Ent),zL x.l x.n→x.b.length≤100000→zL (wsS x e).l (wsS x e).n∧(wsS x e).b.length≤100000:=fun e h1 h2=>⟨zbk h1 _ _,ZJ _ h2⟩;have h1:=hw (su q p) hs hb;have n1:=zwq q (su q p)
 have h2:zL (apQ (wsS q (su q p)) (q.n+1) 0 p.bytes).l (apQ (wsS q (su q p)) (q.n+1) 0 p.bytes).n∧(apQ (wsS q (su q p)) (q.n+1) 0 p.bytes).b.length≤100000:=by
  unfold apQ
  split
  · exact h1
  · exact hw _ h1.1 h1.2
 have n2:(apQ (wsS q (su q p)) (q.n+1) 0 p.bytes).n=(wsS q (su q p)).n:=by
  unfold apQ
  split
  · rfl
  · exact Zq (show(2:Int)≠1 by decide)
 have s2:(apQ (wsS q (su q p)) (q.n+1) 0 p.bytes).s=q.s:=by unfold apQ;split<;>rfl
 unfold sU
 split
 · exact⟨h1.1,h1.2,n1.1,n1.2,rfl⟩
 · split
   · have n3:(wsS (apQ (wsS q (su q p)) (q.n+1) 0 p.bytes) (zdd (q.n+1))).n=(apQ (wsS q (su q p)) (q.n+1) 0 p.bytes).n:=Zq (show(4:Int)≠1 by decide)
     have h3:=hw (zdd (q.n+1)) h2.1 h2.2
     exact⟨h3.1,h3.2,by rw [n3,n2];exact n1.1,by rw [n3,n2];exact n1.2,s2⟩
   · exact⟨h2.1,h2.2,by rw [n2];exact n1.1,by rw [n2];exact n1.2,s2⟩
theorem zlZ: ∀ P:List Prt,0≤WX P
 |[]=>Int.le_refl 0
 |p::r=>by have:=zlZ r;simp only [WX];omega
theorem zl0: ∀ P:List Prt,WX P≤prtZ P+200 * P.length
 |[]=>by simp [WX]
 | p::r=>by
   have:=zl0 r;simp only [WX,prtZ,List.map_cons,List.sum_cons,jh] at this ⊢;omega
theorem UX: ∀ (P:List Prt) (q:Sto) (ids:List Int) (t:Str),(um q ids t P).r.fields=[]
 |[],_,_,_=>rfl
 | p ::r,q,ids,t=>by
   unfold um
   split
   · exact UX r _ _ _
   · split
     · rfl
     · exact UX r _ _ _
def zaX (I:Alg):KU
 |[.v (.one (.ptr 0 0)),.v (.agg [.p (.str m),.p (.str t),.p (.int .i64 mi),.p (.list .fld f),.p (.int .i64 le)]),.v (.one (.p (.list .byte body)))],[.obj 50 [.ptr 1 0,.ptr 2 0,.ptr 3 0,.ptr 4 0,.ptr 5 0],.pack [.obj 54 [.ptr 1 0,.ptr 2 0],.pack [.obj 124 [.row 1,.p (.int .i64 n)],.row .upl 81 l],.pack [.obj 156 [.row 1,.p (.int .i64 s)],.row .byte 5 b]],.abs (.cn c0),.abs (.cn c1),.abs (.cn c2),.abs (.cn c3)]=>(fun(l:List Upl) (b m t:Str) (f:List Fld) (body:Str)=>(some (.one ⟨I.hid (FOk f∧zL l n∧n≤200000 - 20∧b.length≤100000∧body.length≤30000),(.ret (.v (.agg [.p (.int .i64 (I.hid ((WG ⟨l,n,b,s⟩ f body).r.status))),.p (.list .fld (I.hid ([]:List Fld))),.p (.list .byte (I.hid ((WG ⟨l,n,b,s⟩ f body).r.body)))]))),[.obj 50 [.ptr 1 0,.ptr 2 0,.ptr 3 0,.ptr 4 0,.ptr 5 0],.pack [.obj 54 [.ptr 1 0,.ptr 2 0],.pack [.obj 124 [.row 1,.p (.int .i64 (I.hid ((WG ⟨l,n,b,s⟩ f body).q.n)))],.row .upl 81 (I.hid ((WG ⟨l,n,b,s⟩ f body).q.l))],.pack [.obj 156 [.row 1,.p (.int .i64 (I.hid ((WG ⟨l,n,b,s⟩ f body).q.s)))],.row .byte 5 (I.hid ((WG ⟨l,n,b,s⟩ f body).q.b))]],.abs (.cn c0),.abs (.cn c1),.abs (.cn c2),.abs (.cn c3)]⟩):Option CT)) l b m t f body
 |_,_=>none
set_option maxHeartbeats 1000000 in
theorem zmT:zu Tryz.prog 125 (zaX alg):=by
 intro args hp r h;unfold zaX at h;split at h<;>cases h
 rename_i m t mi f le body n l s b c0 c1 c2 c3
 revert f l;intro(f:List Fld) (l:List Upl)
 simp only [CT.Good,zh];intro hneed;obtain⟨hf,hs,hn,hb,hbo⟩:=hneed;have hsm:=YZ f body;generalize hr:WG ⟨l,n,b,s⟩ f body=r;obtain⟨⟨st,fs,bd⟩,⟨l',n',b',s'⟩⟩:=r;unfold WG at hr
 refine spH Tryz.func125 (by kernel_rfl) { cfgG with nr:=[12],keep:=some [0,1,2,4,6,7,8,9,11,12,13,15,16,17,19,30,31,32,51,52,53,68,69,70]} [wB,wz,zN,zM,yX,yV,Zj,Zi,ZH,ZG,UG,UF,zaV,zaU] (by kernel_rfl) ?_
 intro I X hI hX
 refine orcL ?_;go_invoke;refine orcS (by kernel_rfl) ?_
 simp only [zi,Nat.reduceAdd]
 have hh: ∀ {α:Type} (y:α),I.hid y=y:=fun y=>by subst hI;rfl
 simp only [hh];generalize rV f body=Z at *;obtain⟨ps,code⟩:=Z
 (repeat' (first|refine ja ?_ ?_|intro _))
 all_goals try(subst hI;(simp only [nrmA,nrmB,nrlB,reduceCtorEq,V0.agg.injEq,HO.pack.injEq,HO.obj.injEq] at *);first|done|exact hf.1|(exact(hf.2 _ ‹_›).1)|(exact(hf.2 _ ‹_›).2)|omega|(exact jM _)|(((repeat(first|rewrite [if_pos (by first|omega|assumption|(simp only [*,or_self,or_true,true_or,or_false,false_or,jf,jg,jd,je,and_self,and_true,true_and];done)|(simp only [*];omega)|(simp [*];done)|(simp [*];omega))] at hr|rewrite [if_neg (by first|omega|assumption|(simp only [*,or_self,or_true,true_or,or_false,false_or,jf,jg,jd,je,and_self,and_true,true_and];done)|(simp only [*];omega)|(simp [*];done)|(simp [*];omega))] at hr)));cases hr;simp [TG];done))
 have hco:code=0:=by
  subst hI;simp only [nrmA,nrmB,nrlB,reduceCtorEq] at *;omega
 rw [if_neg (by simp [hco])] at hr
 dsimp only at hr hsm;have hrl:=zl0 ps
 refine lpH hI [wB,wz,zN,zM,yX,yV,Zj,Zi,ZH,ZG,UG,UF,zaV,zaU] hX [0,6,7,9,30,31,32] (fun(g:Nat × Int)=>match g with|(i,r)=>i≤ps.length∧0≤r∧r+WX (ps.drop i)=WX ps) (fun(g:Nat × Int)=>match g with|(i,r)=>⟨[(0,.v (.one (.ptr 0 0))),(6,.v (.one (.ptr 6 0))),(7,.v (.one (.p (.list .prt ps)))),(9,.v (.one (.p (.int .i64 r)))),(30,.v (.one (.p (.list .prt ps)))),(31,.v (.one (.p (.int .i64 ((I.len (α:=Prt) ps)))))),(32,.v (.one (.p (.int .i64 i))))],[.obj 50 [.ptr 1 0,.ptr 2 0,.ptr 3 0,.ptr 4 0,.ptr 5 0],.pack [.obj 54 [.ptr 1 0,.ptr 2 0],.pack [.obj 124 [.row 1,.p (.int .i64 n)],.row .upl 81 l],.pack [.obj 156 [.row 1,.p (.int .i64 s)],.row .byte 5 b]],.abs (.cn c0),.abs (.cn c1),.abs (.cn c2),.abs (.cn c3),.pack [.obj 128 [.p (.int .i64 0),.nilS,.nilS]]],111,none⟩) (fun(g:Nat × Int)=>match g with|(i,r)=>ps.length - i) (0,0) (by kernel_rfl) (by kernel_rfl) ?_ ?_
 · exact⟨jM _,Int.le_refl 0,by simp⟩
 rintro⟨i,r⟩ ⟨h1,h2,h3⟩ A hA;simp only at hA h1 h2 h3;have hd:=fun h=>zof (ps:=ps) (i:=i) h;have hnn:=zlZ (ps.drop (i+1));have hbl:=Int.natCast_nonneg (ps.getD i ⟨[],[],[],[]⟩).bytes.length
 have hend: ¬ i<ps.length→r=WX ps:=fun h=>by rw [jF (by omega)] at h3;simp only [WX] at h3;omega
 refine orcL ?_;go_invoke;refine orcS (by kernel_rfl) ?_
 simp only [zi,Nat.reduceAdd]
 (repeat' (first|refine ja ?_ ?_|intro _))
 all_goals try(subst hI;(simp only [nrmA,nrmB,nrlB,reduceCtorEq,V0.agg.injEq,HO.pack.injEq,HO.obj.injEq] at *);first|done|omega|(exact jM _)|(have hd:=hd (by omega);omega)|(exact hA (i+1,_) ⟨by dsimp only;omega,by dsimp only;omega,by dsimp only;rw [hd (by omega)] at h3;omega⟩ (by dsimp only;omega))|(rw [hend (by omega)] at *;((repeat(first|rewrite [if_pos (by first|omega|assumption|(simp only [*,or_self,or_true,true_or,or_false,false_or,jf,jg,jd,je,and_self,and_true,true_and];done)|(simp only [*];omega)|(simp [*];done)|(simp [*];omega))] at hr|rewrite [if_neg (by first|omega|assumption|(simp only [*,or_self,or_true,true_or,or_false,false_or,jf,jg,jd,je,and_self,and_true,true_and];done)|(simp only [*];omega)|(simp [*];done)|(simp [*];omega))] at hr)));cases hr;simp [TG];done))
 have hil: ¬ i<ps.length:=by
  subst hI;simp only [nrmA,nrmB,nrlB,reduceCtorEq] at *;omega
 have hro:TY b (WX ps)=true:=by
  subst hI;simp only [nrmA,nrmB,nrlB,reduceCtorEq] at *;rw [hend hil] at *;assumption
 rw [if_neg (by simp [hro])] at hr
 clear hA hd hnn hbl hend h3 h2 h1
 refine lpH hI [wB,wz,zN,zM,yX,yV,Zj,Zi,ZH,ZG,UG,UF,zaV,zaU] hX [0,6,12,13,51,52,53] (fun(g:Nat × List Upl × Int × Str × List Int × Str)=>match g with|(i,l1,n1,b1,ids,t1)=>i≤ps.length∧um ⟨l1,n1,b1,s⟩ ids t1 (ps.drop i)=⟨⟨st,fs,bd⟩,⟨l',n',b',s'⟩⟩∧zL l1 n1∧n1≤n+i∧b1.length≤100000∧ids.length≤i∧t1.length≤60 * i) (fun(g:Nat × List Upl × Int × Str × List Int × Str)=>match g with|(i,l1,n1,b1,ids,t1)=>⟨[(0,.v (.one (.ptr 0 0))),(6,.v (.one (.ptr 6 0))),(12,.v (.one (.row 7))),(13,.v (.one (.p (.str t1)))),(51,.v (.one (.p (.list .prt ps)))),(52,.v (.one (.p (.int .i64 ((I.len (α:=Prt) ps)))))),(53,.v (.one (.p (.int .i64 i))))],[.obj 50 [.ptr 1 0,.ptr 2 0,.ptr 3 0,.ptr 4 0,.ptr 5 0],.pack [.obj 54 [.ptr 1 0,.ptr 2 0],.pack [.obj 124 [.row 1,.p (.int .i64 n1)],.row .upl 81 l1],.pack [.obj 156 [.row 1,.p (.int .i64 s)],.row .byte 5 b1]],.abs (.cn c0),.abs (.cn c1),.abs (.cn c2),.abs (.cn c3),.pack [.obj 128 [.p (.int .i64 0),.nilS,.nilS]],.row .int 3 ids],111,none⟩) (fun(g:Nat × List Upl × Int × Str × List Int × Str)=>match g with|(i,l1,n1,b1,ids,t1)=>ps.length - i) (0,l,n,b,[],[]) (by kernel_rfl) (by kernel_rfl) ?_ ?_
 · exact⟨jM _,hr,hs,by simp,hb,jM _,jM _⟩
 rintro⟨i,l1,n1,b1,ids,t1⟩ ⟨h1,h2,h3,h4,h5,h6,h7⟩ A hA;simp only at hA h1 h2 h3 h4 h5 h6 h7
 have hx:i<ps.length→(ps.getD i ⟨[],[],[],[]⟩) ∈ ps:=fun h=>by rw [show ps.getD i ⟨[],[],[],[]⟩=ps[i] by simp [h]];exact List.getElem_mem h
 have hfd:=fun h=>zkh (q:=⟨l1,n1,b1,s⟩) (ids:=ids) (t:=t1) (ps:=ps) (i:=i) h
 have hend: ¬ i<ps.length→um ⟨l1,n1,b1,s⟩ ids t1 (ps.drop i)=⟨⟨201,[],t1⟩,syS ⟨l1,n1,b1,s⟩⟩:=fun h=>by rw [jF (by omega)];rfl
 have hxf:i<ps.length→_:=fun h=>hsm.2.1 _ (hx h);have hxb:i<ps.length→_:=fun h=>zuA (hx h);have hql:=fun p=>zuW (q:=⟨l1,n1,b1,s⟩) h3 h5 p;have hn0:=h3.n0;have hdl:=xq (n1+1)
 refine orcL ?_;go_invoke;refine orcS (by kernel_rfl) ?_
 simp only [zi,Nat.reduceAdd]
 have e1:I.get ps ⟨[],[],[],[]⟩ (i:Int)=ps.getD i ⟨[],[],[],[]⟩:=by subst hI;first|rfl|simp
 simp only [e1];generalize ps.getD i ⟨[],[],[],[]⟩=x at *;have e0:(⟨x.name,x.file,x.type,x.bytes⟩:Prt)=x:=rfl;have hql:=hql x;simp only [e0,hh];generalize zfE ⟨l1,n1,b1,s⟩ x=c at *;generalize sU ⟨l1,n1,b1,s⟩ x=Y at *;obtain⟨l2,n2,b2,s2⟩:=Y;obtain⟨g1,g2,g3,g4,g5⟩:=hql;dsimp only at g1 g2 g3 g4 g5 hfd;obtain rfl:s=s2:=g5.symm
 (repeat' (first|refine ja ?_ ?_|intro _))
 all_goals try(subst hI;(simp only [nrmA,nrmB,nrlB,reduceCtorEq,V0.agg.injEq,HO.pack.injEq,HO.obj.injEq] at *);first|done|omega|(with_reducible assumption)|(have hxf:=hxf (by omega);have hxb:=hxb (by omega);first|omega|with_reducible assumption)|(rw [if_pos (by with_reducible assumption)];first|omega|(have hxf:=hxf (by omega);rw [jk];simp only [jh,ji];omega))|(have hfd:=hfd (by omega);rw [h2] at hfd;((repeat(first|rewrite [if_pos (by first|omega|assumption|(simp only [*,or_self,or_true,true_or,or_false,false_or,jf,jg,jd,je,and_self,and_true,true_and];done)|(simp only [*];omega)|(simp [*];done)|(simp [*];omega))] at hfd|rewrite [if_neg (by first|omega|assumption|(simp only [*,or_self,or_true,true_or,or_false,false_or,jf,jg,jd,je,and_self,and_true,true_and];done)|(simp only [*];omega)|(simp [*];done)|(simp [*];omega))] at hfd)));exact hA (i+1,l1,n1,b1,ids,t1) ⟨by dsimp only;omega,hfd.symm,h3,by dsimp only;omega,h5,by dsimp only;omega,by dsimp only;omega⟩ (by dsimp only;omega))|(rw [if_pos (show c=0 by omega)];have hxf:=hxf (by omega);simp only [jk,jh,ji];omega)|(rw [if_pos (show c=0 by omega)];have hxf:=hxf (by omega);have hfd:=hfd (by omega);rw [h2] at hfd;((repeat(first|rewrite [if_pos (by first|omega|assumption|(simp only [*,or_self,or_true,true_or,or_false,false_or,jf,jg,jd,je,and_self,and_true,true_and];done)|(simp only [*];omega)|(simp [*];done)|(simp [*];omega))] at hfd|rewrite [if_neg (by first|omega|assumption|(simp only [*,or_self,or_true,true_or,or_false,false_or,jf,jg,jd,je,and_self,and_true,true_and];done)|(simp only [*];omega)|(simp [*];done)|(simp [*];omega))] at hfd)));exact hA (i+1,l2,n2,b2,ids++[n1+1],t1++(decS (n1+1)++[32]++x.file++[10])) ⟨by dsimp only;omega,hfd.symm,g1,by dsimp only;omega,g2,by simp only [jk,jh,ji];omega,by simp only [jk,jh,ji];omega⟩ (by dsimp only;omega))|(rw [hend (by omega)] at h2;simp only [GA.mk.injEq,Rpl.mk.injEq,syS,Sto.mk.injEq] at h2;obtain⟨⟨rfl,rfl,rfl⟩,rfl,rfl,rfl,rfl⟩:=h2;simp))
 have hil:i<ps.length:=by
  subst hI;simp only [nrmA,nrmB,nrlB,reduceCtorEq] at *;omega
 have hc: ¬ c=0:=by
  subst hI;simp only [nrmA,nrmB,nrlB,reduceCtorEq] at *
  first|omega|with_reducible assumption
 have hfi: ¬ x.file=[]:=by
  subst hI;simp only [nrmA,nrmB,nrlB,reduceCtorEq] at *
  first|omega|with_reducible assumption
 have hfd:=hfd hil;rw [h2,if_neg hfi,if_pos hc] at hfd;generalize hD:WR ⟨l2,n2,b2,s⟩ ids=W at hfd;clear hA hend hxf hxb hdl h2
 refine lpH hI [wB,wz,zN,zM,yX,yV,Zj,Zi,ZH,ZG,UG,UF,zaV,zaU] hX [0,6,17,68,69,70] (fun(g:Nat × List Upl × Int × Str)=>match g with|(j,l3,n3,b3)=>j≤ids.length∧WR ⟨l3,n3,b3,s⟩ (ids.drop j)=W∧zL l3 n3∧n3≤200000∧b3.length≤100000) (fun(g:Nat × List Upl × Int × Str)=>match g with|(j,l3,n3,b3)=>⟨[(0,.v (.one (.ptr 0 0))),(6,.v (.one (.ptr 6 0))),(17,.v (.one (.p (.int .i64 c)))),(68,.v (.one (.row 7))),(69,.v (.one (.p (.int .i64 ((I.len (α:=Int) ids)))))),(70,.v (.one (.p (.int .i64 j))))],[.obj 50 [.ptr 1 0,.ptr 2 0,.ptr 3 0,.ptr 4 0,.ptr 5 0],.pack [.obj 54 [.ptr 1 0,.ptr 2 0],.pack [.obj 124 [.row 1,.p (.int .i64 n3)],.row .upl 81 l3],.pack [.obj 156 [.row 1,.p (.int .i64 s)],.row .byte 5 b3]],.abs (.cn c0),.abs (.cn c1),.abs (.cn c2),.abs (.cn c3),.pack [.obj 128 [.p (.int .i64 0),.nilS,.nilS]],.row .int 3 ids],111,none⟩) (fun(g:Nat × List Upl × Int × Str)=>match g with|(j,l3,n3,b3)=>ids.length - j) (0,l2,n2,b2) (by kernel_rfl) (by kernel_rfl) ?_ ?_
 · exact⟨jM _,hD,g1,by omega,g2⟩
 rintro⟨j,l3,n3,b3⟩ ⟨k1,k2,k3,k4,k5⟩ B hB;simp only at hB k1 k2 k3 k4 k5;have hdd:=fun h=>zko (q:=⟨l3,n3,b3,s⟩) (ids:=ids) (j:=j) h
 have hend: ¬ j<ids.length→(⟨l3,n3,b3,s⟩:Sto)=W:=fun h=>by rw [← k2,jF (by omega)];rfl
 have hfin: ¬ j<ids.length→st=(if c=4 then 413 else 507)∧[]=bd∧n3=n'∧l3=l'∧(b3.length:Int)=s'∧b3=b':=fun h=>by
  rw [← hend h] at hfd;simp only [GA.mk.injEq,Rpl.mk.injEq,syS,Sto.mk.injEq,TG] at hfd;obtain⟨⟨q1,q2,q3⟩,q4,q5,q6,q7⟩:=hfd;exact⟨q1,q3.symm,q5.symm,q4.symm,q7.symm,q6.symm⟩
 refine orcL ?_;go_invoke;refine orcS (by kernel_rfl) ?_
 simp only [zi,Nat.reduceAdd]
 have e2:I.get ids 0 (j:Int)=ids.getD j 0:=by subst hI;first|rfl|simp
 simp only [e2];generalize ids.getD j 0=y at *;have w1:=zbk k3 b3 (zdd y)
 have w2:wrtN l3 n3 b3 (zdd y)=n3:=Zq (show(4:Int)≠1 by decide)
 have w3:=ZJ (l:=l3) (n:=n3) (b:=b3) (zdd y) k5;unfold zdd at w1 w2 w3 hdd
 (repeat' (first|refine ja ?_ ?_|intro _))
 all_goals subst hI
 all_goals try simp only [nrmA,nrmB,nrlB,reduceCtorEq,V0.agg.injEq,HO.pack.injEq,HO.obj.injEq] at *
 all_goals first|omega|(with_reducible assumption)|(exact⟨k3,k4,k5⟩)|(exact jM _)|(have hdd:=hdd (by omega);rw [k2] at hdd;exact hB (j+1,wrtL l3 n3 b3 ⟨4,y,0,[]⟩,wrtN l3 n3 b3 ⟨4,y,0,[]⟩,wrtB l3 n3 b3 ⟨4,y,0,[]⟩) ⟨by dsimp only;omega,hdd.symm,w1,by dsimp only;omega,w3⟩ (by dsimp only;omega))|(obtain⟨q1,q2,q3,q4,q5,q6⟩:=hfin (by omega);first|(rw [if_pos (by with_reducible assumption)] at q1;exact⟨q1.symm,q2⟩)|(rw [if_neg (by with_reducible assumption)] at q1;exact⟨q1.symm,q2⟩)|exact⟨⟨q3,q4⟩,q5,q6⟩)|trace_state
def zve:Know Tryz.prog:=⟨125,zaX,zmT⟩
def zvd:Know Tryz.prog:=⟨125,fun I=>zx I (zaX I),zf zmT⟩
end Go.Proofs.YtkjepecoodjbmaaGreatDoor
namespace Go.Proofs.YtkjepecoodjbmaaGreatDoor
open Go Go.Sep Go.Ab
set_option maxRecDepth 100000
def zvS:Cfg:= { sl:=[⟨207,0,.byte,some 5⟩]}
def zbf (I:Alg):KU
 |[],[]=>some (.one ⟨I.hid (True),(.ret (.v (.one (.ptr 0 0)))),[.pack [.obj 228 [.ptr 1 0,.p (.int .i64 0),.p (.int .i64 0),.p (.int .i64 0),.p (.int .i64 0),.p (.int .i64 0)],.pack [.obj 207 [.row 1,.p (.bool false),.p (.int .i64 0)],.row .byte 5 (I.hid ([]))]]]⟩)
 |_,_=>none
theorem znC:zu Tryz.prog 213 (zbf alg):=by
 intro args hp r h;unfold zbf at h;split at h<;>cases h
 simp only [CT.Good,zh];intro _
 refine spH Tryz.func213 (by kernel_rfl) { zvS with keep:=some [0]} [zaN,zaM] (by kernel_rfl) ?_
 intro I X hI hX
 refine orcL ?_;go_invoke;refine orcS (by kernel_rfl) ?_
 simp only [zi,Nat.reduceAdd];subst hI;exact⟨trivial,trivial,rfl⟩
def znB:Know Tryz.prog:=⟨213,zbf,znC⟩
def znA:Know Tryz.prog:=⟨213,fun I=>zx I (zbf I),zf znC⟩
def Tm (I:Alg):KU
 |[.v (.one (.ptr 0 0)),.v (.one (.p (.int .i64 k)))],[.pack [.obj 228 [.ptr 1 0,.p (.int .i64 p),.p (.int .i64 l),.p (.int .i64 a),.p (.int .i64 t),.p (.int .i64 c)],.pack [.obj 207 [.row 1,.p (.bool lc),.p (.int .i64 lo)],.row .byte 5 lb]]]=>(fun(lb:Str)=>(some (.one ⟨I.hid (True),(.ret (.tup [.one (.row 1),.one (.p (.bool false)),.one (.p (.int .i64 k))])),[.pack [.obj 228 [.ptr 1 0,.p (.int .i64 p),.p (.int .i64 l),.p (.int .i64 a),.p (.int .i64 t),.p (.int .i64 k)],.pack [.obj 207 [.row 1,.p (.bool lc),.p (.int .i64 lo)],.row .byte 5 lb]],.row .byte 5 (I.hid ([]))]⟩):Option CT)) lb
 |_,_=>none
theorem ziU:zu Tryz.prog 167 (Tm alg):=by
 intro args hp r h;unfold Tm at h;split at h<;>cases h
 rename_i k p l a t c lc lo lb;simp only [CT.Good,zh];intro _
 refine spH Tryz.func167 (by kernel_rfl) { zvS with nr:=[4],keep:=some [0,1,4,5,6]} [] (by kernel_rfl) ?_
 intro I X hI hX
 refine orcL ?_;go_invoke;refine orcS (by kernel_rfl) ?_
 simp only [zi,Nat.reduceAdd];subst hI;simp only [nrmA,nrmB,nrlB,reduceCtorEq,HO.pack.injEq,HO.obj.injEq]
 try trivial
def zs5:Know Tryz.prog:=⟨167,Tm,ziU⟩
def zs4:Know Tryz.prog:=⟨167,fun I=>zx I (Tm I),zf ziU⟩
def Yo (I:Alg):KU
 |[.v (.one (.p (.str s)))],[]=>(fun(s:Str)=>(some (.one ⟨I.hid (s.length≤1000000),(.ret (.tup [(.one (.p (.int .i64 (I.hid (if(xW s).2 then(xW s).1 else 0))))),(.one (.p (.int .i64 (I.hid (if(xW s).2 then 0 else 7)))))])),[]⟩):Option CT)) s
 |_,_=>none
theorem zcV:zu Tryz.prog 209 (Yo alg):=by
 intro args hp r h;unfold Yo at h;split at h<;>cases h
 rename_i s;simp only [CT.Good,zh];intro hneed;generalize hr:xW s=r;obtain⟨n,ok⟩:=r;unfold xW at hr;have hl:=(za9 s 59).1
 refine spH Tryz.func209 (by kernel_rfl) { keep:=some [0,2,3,4,7,8]} [Tz,Tv,zp9,zp8,zgd,zgc] (by kernel_rfl) ?_
 intro I X hI hX
 refine orcL ?_;go_invoke;refine orcS (by kernel_rfl) ?_
 simp only [zi,Nat.reduceAdd];subst hI;simp only [nrmA,nrmB,nrlB,reduceCtorEq];rw [hr];cases ok
 all_goals(repeat' (first|refine ja ?_ ?_|intro _))<;>first|omega|exact jb|exact jc ‹False›|skip
 all_goals first
  |exact hneed
  |trivial
  |omega
  |(simp at *;done)
def zku:Know Tryz.prog:=⟨209,Yo,zcV⟩
def zkt:Know Tryz.prog:=⟨209,fun I=>zx I (Yo I),zf zcV⟩
def Td (I:Alg):KU
 |[.v (.one (.ptr 0 0)),.v (.one (.p (.str s)))],[.pack [.obj 228 [.ptr 1 0,.p (.int .i64 p),.p (.int .i64 l),.p (.int .i64 a),.p (.int .i64 t),.p (.int .i64 c)],.pack [.obj 207 [.row 1,.p (.bool lc),.p (.int .i64 lo)],.row .byte 5 lb]]]=>(fun(lb s:Str)=>(some (.one ⟨I.hid (s.length≤1000000∧(0≤a∧a≤1000000)∧0≤t∧t≤1000000),(.ret (.v (.one (.p (.int .i64 (I.hid ((chL ⟨⟨lb,lc,lo⟩,p,l,a,t,c⟩ s).2))))))),[.pack [.obj 228 [.ptr 1 0,.p (.int .i64 (I.hid ((chL ⟨⟨lb,lc,lo⟩,p,l,a,t,c⟩ s).1.pos))),.p (.int .i64 (I.hid ((chL ⟨⟨lb,lc,lo⟩,p,l,a,t,c⟩ s).1.left))),.p (.int .i64 (I.hid ((chL ⟨⟨lb,lc,lo⟩,p,l,a,t,c⟩ s).1.all))),.p (.int .i64 (I.hid ((chL ⟨⟨lb,lc,lo⟩,p,l,a,t,c⟩ s).1.tails))),.p (.int .i64 c)],.pack [.obj 207 [.row 1,.p (.bool lc),.p (.int .i64 lo)],.row .byte 5 lb]]]⟩):Option CT)) lb s
 |_,_=>none
set_option maxHeartbeats 4000000 in
theorem ziS:zu Tryz.prog 168 (Td alg):=by
 intro args hp r h;unfold Td at h;split at h<;>cases h
 rename_i s p l a t c lc lo lb;simp only [CT.Good,zh];intro hneed;obtain⟨hs,⟨ha0,ha1⟩,ht0,ht1⟩:=hneed;generalize hr:chL ⟨⟨lb,lc,lo⟩,p,l,a,t,c⟩ s=r;unfold chL at hr;simp only at hr;have hsz:=qG s
 have hsz2:(xW s).2=false∨(xW s).2=true:=by cases(xW s).2<;>simp
 obtain⟨⟨⟨rb,rc,ro⟩,rp,rl,ra,rt,rc2⟩,re⟩:=r
 refine spH Tryz.func168 (by kernel_rfl) { zvS with keep:=some [0,1,4,5,6,8,12]} [Uc,Ub,zku,zkt] (by kernel_rfl) ?_
 intro I X hI hX
 refine orcL ?_;go_invoke;refine orcS (by kernel_rfl) ?_
 simp only [zi,Nat.reduceAdd];subst hI;simp only [nrmA,nrmB,nrlB,reduceCtorEq,HO.pack.injEq,HO.obj.injEq];generalize xW s=z at *;obtain⟨n,ok⟩:=z;simp only at *;cases ok
 all_goals simp only [jd,if_false,if_true] at *
 all_goals(repeat' (first|refine ja ?_ ?_|intro _))<;>first|omega|exact jb|exact jc ‹False›|skip
 all_goals first
  |exact hs
  |omega
  |(exfalso;simp at *;done)
  |(((repeat(first|rewrite [if_pos (by first|omega|assumption|(simp only [*,or_self,or_true,true_or,or_false,false_or,jf,jg,jd,je,and_self,and_true,true_and];done)|(simp only [*];omega)|(simp [*];done)|(simp [*];omega))] at hr|rewrite [if_neg (by first|omega|assumption|(simp only [*,or_self,or_true,true_or,or_false,false_or,jf,jg,jd,je,and_self,and_true,true_and];done)|(simp only [*];omega)|(simp [*];done)|(simp [*];omega))] at hr)));cases hr;first|rfl|done|with_reducible assumption|exact⟨rfl,rfl,rfl⟩|(simp;done)|(simp;omega))
def zs3:Know Tryz.prog:=⟨168,Td,ziS⟩
def zsZ:Know Tryz.prog:=⟨168,fun I=>zx I (Td I),zf ziS⟩
theorem znD (s:Ch) (t:Str):(chL s t).1.ln=s.ln∧(chL s t).1.code=s.code:=by
 unfold chL
 split
 · split<;>exact⟨rfl,rfl⟩
 split
 · split
   · exact⟨rfl,rfl⟩
   split
   · exact⟨rfl,rfl⟩
   split<;>exact⟨rfl,rfl⟩
 split
 · split
   · exact⟨rfl,rfl⟩
   split<;>exact⟨rfl,rfl⟩
 · exact⟨rfl,rfl⟩
def Tj (I:Alg):KU
 |[.v (.one (.ptr 0 0)),.v (.one (.p (.int .u8 k)))],[.pack [.obj 228 [.ptr 1 0,.p (.int .i64 p),.p (.int .i64 l),.p (.int .i64 a),.p (.int .i64 t),.p (.int .i64 c)],.pack [.obj 207 [.row 1,.p (.bool lc),.p (.int .i64 lo)],.row .byte 5 lb]]]=>(fun(lb:Str)=>(some (.one ⟨I.hid ((0≤k∧k≤255)∧lb.length≤1000000∧(-1000000≤l∧l≤100000000)∧(0≤a∧a≤1000000)∧0≤t∧t≤1000000),(.ret (.tup [.one (.row 1),.one (.p (.bool (I.hid ((chF ⟨⟨lb,lc,lo⟩,p,l,a,t,c⟩ (UInt8.ofNat k.toNat)).2.2.1)))),.one (.p (.int .i64 (I.hid ((chF ⟨⟨lb,lc,lo⟩,p,l,a,t,c⟩ (UInt8.ofNat k.toNat)).2.2.2))))])),[.pack [.obj 228 [.ptr 1 0,.p (.int .i64 (I.hid ((chF ⟨⟨lb,lc,lo⟩,p,l,a,t,c⟩ (UInt8.ofNat k.toNat)).1.pos))),.p (.int .i64 (I.hid ((chF ⟨⟨lb,lc,lo⟩,p,l,a,t,c⟩ (UInt8.ofNat k.toNat)).1.left))),.p (.int .i64 (I.hid ((chF ⟨⟨lb,lc,lo⟩,p,l,a,t,c⟩ (UInt8.ofNat k.toNat)).1.all))),.p (.int .i64 (I.hid ((chF ⟨⟨lb,lc,lo⟩,p,l,a,t,c⟩ (UInt8.ofNat k.toNat)).1.tails))),.p (.int .i64 (I.hid ((chF ⟨⟨lb,lc,lo⟩,p,l,a,t,c⟩ (UInt8.ofNat k.toNat)).1.code)))],.pack [.obj 207 [.row 1,.p (.bool (I.hid ((chF ⟨⟨lb,lc,lo⟩,p,l,a,t,c⟩ (UInt8.ofNat k.toNat)).1.ln.cr))),.p (.int .i64 (I.hid ((chF ⟨⟨lb,lc,lo⟩,p,l,a,t,c⟩ (UInt8.ofNat k.toNat)).1.ln.code)))],.row .byte 5 (I.hid ((chF ⟨⟨lb,lc,lo⟩,p,l,a,t,c⟩ (UInt8.ofNat k.toNat)).1.ln.b))]],.row .byte 5 (I.hid ((chF ⟨⟨lb,lc,lo⟩,p,l,a,t,c⟩ (UInt8.ofNat k.toNat)).2.1))]⟩):Option CT)) lb
 |_,_=>none
set_option maxHeartbeats 8000000 in
theorem ziT:zu Tryz.prog 119 (Tj alg):=by
 intro args hp r h;unfold Tj at h;split at h<;>cases h
 rename_i k p l a t c lc lo lb;simp only [CT.Good,zh];intro hneed;obtain⟨⟨hk0,hk1⟩,hlb,⟨hl0,hl1⟩,⟨ha0,ha1⟩,ht0,ht1⟩:=hneed;generalize hr:chF ⟨⟨lb,lc,lo⟩,p,l,a,t,c⟩ (UInt8.ofNat k.toNat)=r;unfold chF at hr;simp only at hr;have hkeep:=znD ⟨(lnF ⟨lb,lc,lo⟩ (UInt8.ofNat k.toNat)).1,p,l,a,t,c⟩ (lnF ⟨lb,lc,lo⟩ (UInt8.ofNat k.toNat)).2.1;have hlen:=Y3 ⟨lb,lc,lo⟩ (UInt8.ofNat k.toNat);obtain⟨⟨⟨rb,rc,ro⟩,rp,rl,ra,rt,rc2⟩,rd,ris,re⟩:=r
 refine spH Tryz.func119 (by kernel_rfl) { zvS with nr:=[4],keep:=some [0,1,4,5,6,7,8,9]} [rY,rX,zs5,zs4,zs3,zsZ] (by kernel_rfl) ?_
 intro I X hI hX
 refine orcL ?_;go_invoke;refine orcS (by kernel_rfl) ?_
 simp only [zi,Nat.reduceAdd];subst hI;simp only [nrmA,nrmB,nrlB,reduceCtorEq,HO.pack.injEq,HO.obj.injEq];generalize lnF ⟨lb,lc,lo⟩ (UInt8.ofNat k.toNat)=q at *;obtain⟨⟨qb,qc,qo⟩,qs,qis,qe⟩:=q;simp only at *;generalize chL ⟨⟨qb,qc,qo⟩,p,l,a,t,c⟩ qs=z at *;obtain⟨⟨⟨zb,zc,zo⟩,zp,zl,za,zt,zk⟩,ze⟩:=z;simp only [Ln.mk.injEq] at *;obtain⟨⟨rfl,rfl,rfl⟩,rfl⟩:=hkeep;cases qis
 all_goals simp only [jd,if_false,if_true] at *
 all_goals(repeat' (first|refine ja ?_ ?_|intro _))<;>first|omega|exact jb|exact jc ‹False›|skip
 all_goals first
  |omega
  |(exfalso;simp at *;done)
  |(((repeat(first|rewrite [if_pos (by first|omega|assumption|(simp only [*,or_self,or_true,true_or,or_false,false_or,jf,jg,jd,je,and_self,and_true,true_and];done)|(simp only [*];omega)|(simp [*];done)|(simp [*];omega))] at hr|rewrite [if_neg (by first|omega|assumption|(simp only [*,or_self,or_true,true_or,or_false,false_or,jf,jg,jd,je,and_self,and_true,true_and];done)|(simp only [*];omega)|(simp [*];done)|(simp [*];omega))] at hr)));cases hr;first|rfl|done|with_reducible assumption|exact⟨rfl,rfl,rfl⟩|(simp;done)|(simp;omega))
def Ti:Know Tryz.prog:=⟨119,Tj,ziT⟩
def Tf:Know Tryz.prog:=⟨119,fun I=>zx I (Tj I),zf ziT⟩
end Go.Proofs.YtkjepecoodjbmaaGreatDoor
namespace Go.Proofs.YtkjepecoodjbmaaGreatDoor
open Go Go.Sep Go.Ab
set_option maxRecDepth 100000
theorem zre: ∀ (s:Str) (n:Int),0≤n→(numG 16 n s).1+1≤(n+1) * 16 ^ s.length
 |[],n,h=>by simp [numG]
 | c ::l,n,h=>by
   have h16:(0:Int)<16 ^ l.length:=Int.pow_pos (by decide)
   have e:((n+1) * 16 ^ (c::l).length:Int)=((n+1) * 16) * 16 ^ l.length:=by rw [jh,Int.pow_succ,Int.mul_assoc,Int.mul_comm (16 ^ l.length) 16]
   rw [e,numG]
   split
   · have h1:(1:Int) * 1≤((n+1) * 16) * 16 ^ l.length:=Int.mul_le_mul (by omega) (by omega) (by decide) (by omega)
     simpa using h1
   · rename_i hc
     have h2:=zre l (n * 16+hexK c.toNat) (by omega)
     exact Int.le_trans h2 (Int.mul_le_mul_of_nonneg_right (by omega) (by omega))
theorem zlv (t:Str):(xW t).1≤16777215:=by
 unfold xW numA
 split
 · exact by decide
 · rename_i h
   have h1:=zre (Lib.trimS (cutB t 59).1 [32,9]) 0 (Int.le_refl _)
   have h2:(Lib.trimS (cutB t 59).1 [32,9]).length≤6:=by omega
   have h3:(16:Int) ^ (Lib.trimS (cutB t 59).1 [32,9]).length≤16 ^ 6:=by
    have:=Nat.pow_le_pow_right (show 0<16 by decide) h2
    exact_mod_cast this
   have h4:(16:Int) ^ 6=16777216:=by decide
   omega
structure ChI (s:Ch) (i:Nat):Prop where
 b:s.ln.b.length≤i
 a0:0≤s.all
 a1:s.all≤i
 t0:0≤s.tails
 t1:s.tails≤i
 l0: -(i:Int)≤s.left
 l1:s.left≤16777215
theorem zz5:ChI ch0 0:=⟨by decide,by decide,by decide,by decide,by decide,by decide,by decide⟩
theorem zAN {s:Ch} {i:Nat} (h:ChI s i) (c:UInt8):ChI (chF s c).1 (i+1):=by
 have hb:=zuU s.ln c;have h0:=h;obtain⟨h1,h2,h3,h4,h5,h6,h7⟩:=h;unfold chF
 split
 · exact⟨by show s.ln.b.length≤i+1;omega,h2,by show s.all≤_;omega,h4,by show s.tails≤_;omega,by show _≤s.left;omega,h7⟩
 split
 · constructor<;>simp only<;>omega
 split
 · constructor<;>simp only<;>omega
 split
 · constructor<;>simp only<;>omega
 split
 · have hl: ∀ t,(chL { s with ln:=(lnF s.ln c).1} t).1.ln=(lnF s.ln c).1:=fun t=>(znD _ _).1
   have key: ∀ t,ChI (chL { s with ln:=(lnF s.ln c).1} t).1 (i+1):=fun t=>by
    have hz:=qG t;have hz2:=zlv t;unfold chL
    repeat' split
    all_goals constructor
    all_goals simp only
    all_goals omega
   split
   · obtain⟨k1,k2,k3,k4,k5,k6,k7⟩:=key (lnF s.ln c).2.1
     exact⟨k1,k2,k3,k4,k5,k6,k7⟩
   · exact key _
 · constructor<;>simp only<;>omega
theorem znE {s:Ch} {i:Nat} (h:ChI s i) (hi:i≤1000000):s.ln.b.length≤1000000∧(-1000000≤s.left∧s.left≤100000000)∧(0≤s.all∧s.all≤1000000)∧0≤s.tails∧s.tails≤1000000:=by
 obtain⟨h1,h2,h3,h4,h5,h6,h7⟩:=h;omega
theorem zf9 {s:Ch} {i j:Nat} (h:ChI s i) (k:i≤j):ChI s j:=by
 obtain⟨h1,h2,h3,h4,h5,h6,h7⟩:=h
 exact⟨by omega,h2,by omega,h4,by omega,by omega,h7⟩
end Go.Proofs.YtkjepecoodjbmaaGreatDoor
namespace Go.Proofs.YtkjepecoodjbmaaGreatDoor
open Go Go.Sep Go.Ab
set_option maxRecDepth 100000
structure RqI (q:Rq) (i:Nat):Prop where
 lb:q.ln.b.length≤i
 ck: ∀ c,q.ck=some c→ChI c i
 p3:q.pos=3→q.ck≠none
 ow:q.pos=0∨q.pos=1→q.own=true
 fl:q.h.fields.length≤16
 ff: ∀ f ∈ q.h.fields,f.name.length≤i∧f.value.length≤i
 l0:0≤q.left
 l1:q.left≤4000
 l2:q.pos=2→1≤q.left
 on:q.out.length≤4 * i
theorem zAr:RqI rq0 0:=⟨by decide,(fun c h=>by cases h),(fun h=>by cases h),fun _=>rfl,by decide,(fun f h=>by cases h),by decide,by decide,(fun h=>by cases h),by decide⟩
theorem zlT {q:Rq} {i j:Nat} (h:RqI q i) (k:i≤j):RqI q j:=by
 obtain⟨h1,h2,h3,h4,h5,h6,h7,h8,h9,h10⟩:=h
 exact⟨by omega,fun c e=>zf9 (h2 c e) k,h3,h4,h5,fun f m=>by have:=h6 f m;omega,h7,h8,h9,by omega⟩
theorem zqk {q:Rq} {i:Nat} (h:RqI q i) {o:List Evt} (k:o.length≤4 * i):RqI { q with out:=o} i:=⟨h.lb,h.ck,h.p3,h.ow,h.fl,h.ff,h.l0,h.l1,h.l2,k⟩
theorem zjU (mi:Int) (f:List Fld): -1≤(lenM mi f).1∧(lenM mi f).1≤4000:=by
 have hs: ∀ (l:List Str) (a:Str) (n:Int),0≤n→0≤(sizM a n l).1:=by
  intro l
  induction l with
  |nil=>intro a n h;exact h
  | cons s r ih=>
    intro a n h;unfold sizM
    split
    · exact Int.le_refl _
    · split
      · exact Int.le_refl _
      · exact ih _ _ (vN s).1
 unfold lenM
 repeat' split
 all_goals simp only
 all_goals first
  |decide
  |(have:=hs (valsF f qB) ((valsF f qB).getD 0 []) 0 (by decide);omega)
theorem zz9 (s:Str):(begM s).2.fields=[]:=by
 unfold begM
 split
 · repeat' split
   all_goals rfl
 · rfl
theorem zuo {q:Rq} {i:Nat} (h:RqI q i) (k:Nat) (ho:q.out.length≤k):RqI { (yJ q).1 with out:=[],pos:=4} i∧((yJ q).2=0→RqI { (yJ q).1 with out:=[]} i)∧(yJ q).1.out.length≤k+2:=by
 have hl:=zjU q.h.minor q.h.fields;obtain⟨h1,h2,h3,h4,h5,h6,h7,h8,h9,h10⟩:=h;unfold yJ qA
 split
 · exact⟨⟨h1,h2,(fun h=>by cases h),(fun h=>by simp at h),h5,h6,h7,h8,(fun h=>by cases h),by simp⟩,(fun h=>by cases h),by simp only;omega⟩
 split
 · rename_i hz
   exact⟨⟨h1,h2,(fun h=>by cases h),(fun h=>by simp at h),h5,h6,h7,h8,(fun h=>by cases h),by simp⟩,fun h=>absurd h hz,by simp only;omega⟩
 split
 · exact⟨⟨h1,h2,(fun h=>by cases h),(fun h=>by simp at h),by simp [hd0],(fun f m=>by cases m),h7,h8,(fun h=>by cases h),by simp⟩,fun _=>⟨h1,h2,(fun h=>by cases h),fun _=>rfl,by simp [hd0],(fun f m=>by cases m),h7,h8,(fun h=>by cases h),by simp⟩,by simp;omega⟩
 split
 · exact⟨⟨h1,h2,(fun h=>by cases h),(fun h=>by simp at h),h5,h6,by simp only;omega,by simp only;omega,(fun h=>by cases h),by simp⟩,fun _=>⟨h1,h2,(fun h=>by cases h),(fun h=>by simp at h),h5,h6,by simp only;omega,by simp only;omega,fun _=>by simp only;omega,by simp⟩,by simp;omega⟩
 · exact⟨⟨h1,(fun c e=>by cases e;exact zf9 zz5 (jM _)),(fun h=>by cases h),(fun h=>by simp at h),h5,h6,h7,h8,(fun h=>by cases h),by simp⟩,fun _=>⟨h1,(fun c e=>by cases e;exact zf9 zz5 (jM _)),(fun _ h=>by cases h),(fun h=>by simp at h),h5,h6,h7,h8,(fun h=>by simp at h),by simp⟩,by simp;omega⟩
theorem zaw {q:Rq} {i:Nat} (h:RqI q i):RqI { q with out:=[],pos:=4} i:=⟨h.lb,h.ck,(fun h=>by cases h),(fun h=>by simp at h),h.fl,h.ff,h.l0,h.l1,(fun h=>by cases h),by simp⟩
theorem zui {q:Rq} {i:Nat} (h:RqI q i) (hp:q.pos=0∨q.pos=1) {s:Str} (hs:s.length≤i) (k:Nat) (ho:q.out.length≤k):RqI { (zY q s).1 with out:=[],pos:=4} i∧((zY q s).2=0→RqI { (zY q s).1 with out:=[]} i)∧(zY q s).1.out.length≤k+2:=by
 have h0:RqI { q with out:=[]} i:=zqk h (by simp)
 have hx:=zaw h;have hd:=zuo h k ho;have hpl:=zb4 s;have hb:=zz9 s;have how:=h.ow hp;unfold zY
 split
 · split
   · exact⟨hx,fun _=>h0,by simp only;omega⟩
   split
   · have h1:RqI { q with h:=(begM s).2,pos:=1,out:=[]} i:=⟨h.lb,h.ck,(fun h=>by cases h),fun _=>how,by simp [hb],(by simp [hb]),h.l0,h.l1,(fun h=>by cases h),by simp⟩
     have hd1:=zaw h1
     exact⟨hd1,fun _=>h1,by simp only;omega⟩
   split
   · have h1:RqI { q with h:=(begM s).2,out:=[]} i:=⟨h.lb,h.ck,h.p3,fun _=>how,by simp [hb],(by simp [hb]),h.l0,h.l1,h.l2,by simp⟩
     have hd1:=zaw h1
     exact⟨hd1,fun _=>h1,by simp only;omega⟩
   · exact⟨hx,fun _=>h0,by simp only;omega⟩
 · split
   · exact hd
   split
   · exact⟨hx,fun _=>h0,by simp only;omega⟩
   · rename_i h16
     have h1:RqI { q with h:= { q.h with fields:=q.h.fields++[(yj s).1]},out:=[]} i:=by
      refine⟨h.lb,h.ck,h.p3,h.ow,?_,?_,h.l0,h.l1,h.l2,by simp⟩
      · have:=h.fl;simp;omega
      · intro f hf
        rcases List.mem_append.1 hf with hf|hf
        · exact h.ff f hf
        · simp only [List.mem_singleton] at hf
          subst hf;omega
     have hd1:=zaw h1
     exact⟨hd1,fun _=>h1,by simp only;omega⟩
theorem zoc {q:Rq} {i:Nat} (h:RqI q i) (c:UInt8):RqI (rqF q c) (i+1):=by
 have hm:=zlT h (Nat.le_succ i);have hon:=h.on;unfold rqF
 split
 · rename_i hp
   have h2:=h.l2 hp
   split
   · exact⟨hm.lb,hm.ck,(fun h=>by cases h),fun _=>rfl,by simp [qA,hd0],(fun f m=>by cases m),(Int.le_refl _),(show(0:Int)≤4000 by decide),(fun h=>by cases h),by simp [qA];omega⟩
   · exact⟨hm.lb,hm.ck,hm.p3,hm.ow,hm.fl,hm.ff,by have:=h.l0;simp only;omega,by have:=h.l1;simp only;omega,fun _=>by simp only;omega,by simp;omega⟩
 split
 · rename_i hp
   have hc:ChI (chF (ckOf q) c).1 (i+1):=by
    unfold ckOf
    cases hq:q.ck with
    |none=>exact absurd hq (h.p3 hp)
    |some x=>exact zAN (h.ck x hq) c
   split
   · exact⟨hm.lb,(fun x e=>by cases e;exact hc),(fun h=>by cases h),(fun h=>by simp [vZ] at h),hm.fl,hm.ff,hm.l0,hm.l1,(fun h=>by cases h),by simp [vZ];omega⟩
   split
   · refine⟨hm.lb,(fun x e=>by cases e;exact hc),(fun h=>by cases h),fun _=>rfl,by simp [qA,hd0],(fun f m=>by cases m),hm.l0,hm.l1,(fun h=>by cases h),?_⟩
     simp only [qA]
     split<;>((try simp);omega)
   · refine⟨hm.lb,(fun x e=>by cases e;exact hc),(fun _ h=>by cases h),hm.ow,hm.fl,hm.ff,hm.l0,hm.l1,hm.l2,?_⟩
     show(if(chF (ckOf q) c).2.1≠[] then q.out++[evB (chF (ckOf q) c).2.1] else q.out).length≤4 * (i+1)
     split<;>((try simp);omega)
 split
 · rename_i hp
   have hlb:(lnF q.ln c).1.b.length≤i+1:=by have:=zuU q.ln c;have:=h.lb;omega
   have hll:(lnF q.ln c).2.1.length≤i+1:=by have:=Y3 q.ln c;have:=h.lb;omega
   have h1:RqI { q with ln:=(lnF q.ln c).1} (i+1):=⟨hlb,hm.ck,hm.p3,hm.ow,hm.fl,hm.ff,hm.l0,hm.l1,hm.l2,hm.on⟩
   split
   · exact⟨hlb,hm.ck,(fun h=>by cases h),(fun h=>by simp [vZ] at h),hm.fl,hm.ff,hm.l0,hm.l1,(fun h=>by cases h),by simp [vZ];omega⟩
   split
   · have hk:=zui h1 hp hll (4 * i) hon
     generalize zY { q with ln:=(lnF q.ln c).1} (lnF q.ln c).2.1=z at *
     obtain⟨⟨k1,k2,-,-,k5,k6,k7,k8,-,-⟩,kz,ko⟩:=hk
     split
     · exact⟨k1,k2,(fun h=>by cases h),(fun h=>by simp [vZ] at h),k5,k6,k7,k8,(fun h=>by cases h),by simp [vZ];omega⟩
     · rename_i hz
       obtain⟨k1,k2,k3,k4,k5,k6,k7,k8,k9,k10⟩:=kz (by simpa using hz)
       exact⟨k1,k2,k3,k4,k5,k6,k7,k8,k9,by omega⟩
   · exact h1
 · exact hm
end Go.Proofs.YtkjepecoodjbmaaGreatDoor
namespace Go.Proofs.YtkjepecoodjbmaaGreatDoor
open Go Go.Sep Go.Ab
set_option maxRecDepth 100000
def cfgQ:Cfg:= { sl:=[⟨207,0,.byte,some 5⟩,⟨160,5,.fld,some 108⟩,⟨160,9,.evt,some 34⟩]}
def zF (q:Rq):Prop:=q.out.length≤10000000
def zau (I:Alg):KU
 |[],[]=>some (.one ⟨I.hid (True),(.ret (.v (.one (.ptr 0 0)))),[.abs (.rq rq0)]⟩)
 |_,_=>none
theorem zlP:zu Tryz.prog 50 (zau alg):=by
 intro args hp r h;unfold zau at h;split at h<;>cases h
 simp only [CT.Good,zh];intro _
 refine spH Tryz.func50 (by kernel_rfl) { cfgQ with keep:=some [0]} [zaN,zaM] (by kernel_rfl) ?_
 intro I X hI hX
 refine orcL ?_;go_invoke;refine orcS (by kernel_rfl) ?_
 simp only [zi,Nat.reduceAdd];subst hI;simp only [nrmA,nrmB,nrlB,reduceCtorEq,HO.abs.injEq,Gh.rq.injEq,Rq.mk.injEq];rfl
def XK:Know Tryz.prog:=⟨50,zau,zlP⟩
def XJ:Know Tryz.prog:=⟨50,fun I=>zx I (zau I),zf zlP⟩
theorem zlM (ln:Ln) (p:Int) (m tg:Str) (hm:Int) (hf:List Fld) (hl le:Int) (out:List Evt) (k:Int) (ea eb:Str) (ei:Int) (ef:List Fld) (en:Int) (ebs ex ey ez et:Str) (ec:Int) (hneed:zF ⟨ln,p,⟨m,tg,hm,hf,hl⟩,le,none,true,out⟩):Spc Tryz.prog 117 [.v (.one (.ptr 0 0)),.v (.agg [.p (.int .i64 k),.p (.str ea),.p (.str eb),.p (.int .i64 ei),.p (.list .fld ef),.p (.int .i64 en),.p (.list .byte ebs),.p (.str ex),.p (.str ey),.p (.str ez),.p (.nl et),.p (.int .i64 ec)])] [.abs (.rq ⟨ln,p,⟨m,tg,hm,hf,hl⟩,le,none,true,out⟩)] (.ret (.tup [])) [.abs (.rq ⟨ln,p,⟨m,tg,hm,hf,hl⟩,le,none,true,(out++[⟨k,⟨ea,eb,ei,ef,en⟩,ebs,⟨ex,ey,ez,et⟩,ec⟩])⟩)]:=by
 unfold zF at hneed;simp only at hneed
 refine spH Tryz.func117 (by kernel_rfl) { cfgQ with keep:=some [0,1,3]} [] (by kernel_rfl) ?_
 intro I X hI hX
 refine orcL ?_;go_invoke;refine orcS (by kernel_rfl) ?_
 simp only [zi,Nat.reduceAdd];subst hI;simp only [nrmA,nrmB,nrlB,reduceCtorEq,HO.abs.injEq,Gh.rq.injEq,Rq.mk.injEq]
 (repeat' (first|refine ja ?_ ?_|intro _))<;>first|omega|exact jb|exact jc ‹False›|skip
 all_goals first
  |omega
  |rfl
  |with_reducible assumption
  |(simp only [jh,ji];omega)
  |(simp;done)
def XH (I:Alg):KU
 |[.v (.one (.ptr 0 0)),.v (.agg [.p (.int .i64 k),.p (.str ea),.p (.str eb),.p (.int .i64 ei),.p (.list .fld ef),.p (.int .i64 en),.p (.list .byte ebs),.p (.str ex),.p (.str ey),.p (.str ez),.p (.nl et),.p (.int .i64 ec)])],[.abs (.rq ⟨ln,p,⟨m,tg,hm,hf,hl⟩,le,none,true,out⟩)]=>(fun(m tg:Str) (hf:List Fld) (out:List Evt) (ea eb:Str) (ef:List Fld) (ebs ex ey ez et:Str)=>(some (.one ⟨I.hid (zF ⟨ln,p,⟨m,tg,hm,hf,hl⟩,le,none,true,out⟩),(.ret (.tup [])),[.abs (.rq ⟨ln,p,⟨m,tg,hm,hf,hl⟩,le,none,true,(I.hid (out++[⟨k,⟨ea,eb,ei,ef,en⟩,ebs,⟨ex,ey,ez,et⟩,ec⟩]))⟩)]⟩):Option CT)) m tg hf out ea eb ef ebs ex ey ez et
 |_,_=>none
theorem zdB:zu Tryz.prog 117 (XH alg):=by
 intro args hp r h;unfold XH at h
 split at h
 · cases h;exact fun hn=>zlM _ _ _ _ _ _ _ _ _ _ _ _ _ _ _ _ _ _ _ _ _ hn
 · cases h
def yc:Know Tryz.prog:=⟨117,XH,zdB⟩
def zZ:Know Tryz.prog:=⟨117,fun I=>zx I (XH I),zf zdB⟩
theorem zlN (ln:Ln) (p:Int) (m tg:Str) (hm:Int) (hf:List Fld) (hl le:Int) (out:List Evt) (k:Int) (ea eb:Str) (ei:Int) (ef:List Fld) (en:Int) (ebs ex ey ez et:Str) (ec:Int) (hneed:zF ⟨ln,p,⟨m,tg,hm,hf,hl⟩,le,none,false,out⟩):Spc Tryz.prog 117 [.v (.one (.ptr 0 0)),.v (.agg [.p (.int .i64 k),.p (.str ea),.p (.str eb),.p (.int .i64 ei),.p (.list .fld ef),.p (.int .i64 en),.p (.list .byte ebs),.p (.str ex),.p (.str ey),.p (.str ez),.p (.nl et),.p (.int .i64 ec)])] [.abs (.rq ⟨ln,p,⟨m,tg,hm,hf,hl⟩,le,none,false,out⟩)] (.ret (.tup [])) [.abs (.rq ⟨ln,p,⟨m,tg,hm,hf,hl⟩,le,none,false,(out++[⟨k,⟨ea,eb,ei,ef,en⟩,ebs,⟨ex,ey,ez,et⟩,ec⟩])⟩)]:=by
 unfold zF at hneed;simp only at hneed
 refine spH Tryz.func117 (by kernel_rfl) { cfgQ with keep:=some [0,1,3]} [yc,zZ] (by kernel_rfl) ?_
 intro I X hI hX
 refine orcL ?_;go_invoke;refine orcS (by kernel_rfl) ?_
 simp only [zi,Nat.reduceAdd];subst hI;simp only [nrmA,nrmB,nrlB,reduceCtorEq,HO.abs.injEq,Gh.rq.injEq,Rq.mk.injEq]
 (repeat' (first|refine ja ?_ ?_|intro _))<;>first|omega|exact jb|exact jc ‹False›|skip
 all_goals first
  |omega
  |rfl
  |with_reducible assumption
  |(simp only [jh,ji];omega)
  |(simp;done)
def XI (I:Alg):KU
 |[.v (.one (.ptr 0 0)),.v (.agg [.p (.int .i64 k),.p (.str ea),.p (.str eb),.p (.int .i64 ei),.p (.list .fld ef),.p (.int .i64 en),.p (.list .byte ebs),.p (.str ex),.p (.str ey),.p (.str ez),.p (.nl et),.p (.int .i64 ec)])],[.abs (.rq ⟨ln,p,⟨m,tg,hm,hf,hl⟩,le,none,false,out⟩)]=>(fun(m tg:Str) (hf:List Fld) (out:List Evt) (ea eb:Str) (ef:List Fld) (ebs ex ey ez et:Str)=>(some (.one ⟨I.hid (zF ⟨ln,p,⟨m,tg,hm,hf,hl⟩,le,none,false,out⟩),(.ret (.tup [])),[.abs (.rq ⟨ln,p,⟨m,tg,hm,hf,hl⟩,le,none,false,(I.hid (out++[⟨k,⟨ea,eb,ei,ef,en⟩,ebs,⟨ex,ey,ez,et⟩,ec⟩]))⟩)]⟩):Option CT)) m tg hf out ea eb ef ebs ex ey ez et
 |_,_=>none
theorem zdC:zu Tryz.prog 117 (XI alg):=by
 intro args hp r h;unfold XI at h
 split at h
 · cases h;exact fun hn=>zlN _ _ _ _ _ _ _ _ _ _ _ _ _ _ _ _ _ _ _ _ _ hn
 · cases h
def yw:Know Tryz.prog:=⟨117,XI,zdC⟩
def yu:Know Tryz.prog:=⟨117,fun I=>zx I (XI I),zf zdC⟩
theorem zlK (ln:Ln) (p:Int) (m tg:Str) (hm:Int) (hf:List Fld) (hl le:Int) (ch:Ch) (out:List Evt) (k:Int) (ea eb:Str) (ei:Int) (ef:List Fld) (en:Int) (ebs ex ey ez et:Str) (ec:Int) (hneed:zF ⟨ln,p,⟨m,tg,hm,hf,hl⟩,le,some ch,true,out⟩):Spc Tryz.prog 117 [.v (.one (.ptr 0 0)),.v (.agg [.p (.int .i64 k),.p (.str ea),.p (.str eb),.p (.int .i64 ei),.p (.list .fld ef),.p (.int .i64 en),.p (.list .byte ebs),.p (.str ex),.p (.str ey),.p (.str ez),.p (.nl et),.p (.int .i64 ec)])] [.abs (.rq ⟨ln,p,⟨m,tg,hm,hf,hl⟩,le,some ch,true,out⟩)] (.ret (.tup [])) [.abs (.rq ⟨ln,p,⟨m,tg,hm,hf,hl⟩,le,some ch,true,(out++[⟨k,⟨ea,eb,ei,ef,en⟩,ebs,⟨ex,ey,ez,et⟩,ec⟩])⟩)]:=by
 unfold zF at hneed;simp only at hneed
 refine spH Tryz.func117 (by kernel_rfl) { cfgQ with keep:=some [0,1,3]} [yc,zZ,yw,yu] (by kernel_rfl) ?_
 intro I X hI hX
 refine orcL ?_;go_invoke;refine orcS (by kernel_rfl) ?_
 simp only [zi,Nat.reduceAdd];subst hI;simp only [nrmA,nrmB,nrlB,reduceCtorEq,HO.abs.injEq,Gh.rq.injEq,Rq.mk.injEq]
 (repeat' (first|refine ja ?_ ?_|intro _))<;>first|omega|exact jb|exact jc ‹False›|skip
 all_goals first
  |omega
  |rfl
  |with_reducible assumption
  |(simp only [jh,ji];omega)
  |(simp;done)
def XF (I:Alg):KU
 |[.v (.one (.ptr 0 0)),.v (.agg [.p (.int .i64 k),.p (.str ea),.p (.str eb),.p (.int .i64 ei),.p (.list .fld ef),.p (.int .i64 en),.p (.list .byte ebs),.p (.str ex),.p (.str ey),.p (.str ez),.p (.nl et),.p (.int .i64 ec)])],[.abs (.rq ⟨ln,p,⟨m,tg,hm,hf,hl⟩,le,some ch,true,out⟩)]=>(fun(m tg:Str) (hf:List Fld) (out:List Evt) (ea eb:Str) (ef:List Fld) (ebs ex ey ez et:Str)=>(some (.one ⟨I.hid (zF ⟨ln,p,⟨m,tg,hm,hf,hl⟩,le,some ch,true,out⟩),(.ret (.tup [])),[.abs (.rq ⟨ln,p,⟨m,tg,hm,hf,hl⟩,le,some ch,true,(I.hid (out++[⟨k,⟨ea,eb,ei,ef,en⟩,ebs,⟨ex,ey,ez,et⟩,ec⟩]))⟩)]⟩):Option CT)) m tg hf out ea eb ef ebs ex ey ez et
 |_,_=>none
theorem zdz:zu Tryz.prog 117 (XF alg):=by
 intro args hp r h;unfold XF at h
 split at h
 · cases h;exact fun hn=>zlK _ _ _ _ _ _ _ _ _ _ _ _ _ _ _ _ _ _ _ _ _ _ hn
 · cases h
def yC:Know Tryz.prog:=⟨117,XF,zdz⟩
def yB:Know Tryz.prog:=⟨117,fun I=>zx I (XF I),zf zdz⟩
theorem zlL (ln:Ln) (p:Int) (m tg:Str) (hm:Int) (hf:List Fld) (hl le:Int) (ch:Ch) (out:List Evt) (k:Int) (ea eb:Str) (ei:Int) (ef:List Fld) (en:Int) (ebs ex ey ez et:Str) (ec:Int) (hneed:zF ⟨ln,p,⟨m,tg,hm,hf,hl⟩,le,some ch,false,out⟩):Spc Tryz.prog 117 [.v (.one (.ptr 0 0)),.v (.agg [.p (.int .i64 k),.p (.str ea),.p (.str eb),.p (.int .i64 ei),.p (.list .fld ef),.p (.int .i64 en),.p (.list .byte ebs),.p (.str ex),.p (.str ey),.p (.str ez),.p (.nl et),.p (.int .i64 ec)])] [.abs (.rq ⟨ln,p,⟨m,tg,hm,hf,hl⟩,le,some ch,false,out⟩)] (.ret (.tup [])) [.abs (.rq ⟨ln,p,⟨m,tg,hm,hf,hl⟩,le,some ch,false,(out++[⟨k,⟨ea,eb,ei,ef,en⟩,ebs,⟨ex,ey,ez,et⟩,ec⟩])⟩)]:=by
 unfold zF at hneed;simp only at hneed
 refine spH Tryz.func117 (by kernel_rfl) { cfgQ with keep:=some [0,1,3]} [yc,zZ,yw,yu,yC,yB] (by kernel_rfl) ?_
 intro I X hI hX
 refine orcL ?_;go_invoke;refine orcS (by kernel_rfl) ?_
 simp only [zi,Nat.reduceAdd];subst hI;simp only [nrmA,nrmB,nrlB,reduceCtorEq,HO.abs.injEq,Gh.rq.injEq,Rq.mk.injEq]
 (repeat' (first|refine ja ?_ ?_|intro _))<;>first|omega|exact jb|exact jc ‹False›|skip
 all_goals first
  |omega
  |rfl
  |with_reducible assumption
  |(simp only [jh,ji];omega)
  |(simp;done)
def XG (I:Alg):KU
 |[.v (.one (.ptr 0 0)),.v (.agg [.p (.int .i64 k),.p (.str ea),.p (.str eb),.p (.int .i64 ei),.p (.list .fld ef),.p (.int .i64 en),.p (.list .byte ebs),.p (.str ex),.p (.str ey),.p (.str ez),.p (.nl et),.p (.int .i64 ec)])],[.abs (.rq ⟨ln,p,⟨m,tg,hm,hf,hl⟩,le,some ch,false,out⟩)]=>(fun(m tg:Str) (hf:List Fld) (out:List Evt) (ea eb:Str) (ef:List Fld) (ebs ex ey ez et:Str)=>(some (.one ⟨I.hid (zF ⟨ln,p,⟨m,tg,hm,hf,hl⟩,le,some ch,false,out⟩),(.ret (.tup [])),[.abs (.rq ⟨ln,p,⟨m,tg,hm,hf,hl⟩,le,some ch,false,(I.hid (out++[⟨k,⟨ea,eb,ei,ef,en⟩,ebs,⟨ex,ey,ez,et⟩,ec⟩]))⟩)]⟩):Option CT)) m tg hf out ea eb ef ebs ex ey ez et
 |_,_=>none
theorem zdA:zu Tryz.prog 117 (XG alg):=by
 intro args hp r h;unfold XG at h
 split at h
 · cases h;exact fun hn=>zlL _ _ _ _ _ _ _ _ _ _ _ _ _ _ _ _ _ _ _ _ _ _ hn
 · cases h
def yI:Know Tryz.prog:=⟨117,XG,zdA⟩
def yH:Know Tryz.prog:=⟨117,fun I=>zx I (XG I),zf zdA⟩
def zat (I:Alg):KU
 |[.v (.one (.ptr 0 0)),.v (.agg [.p (.int .i64 k),.p (.str ea),.p (.str eb),.p (.int .i64 ei),.p (.list .fld ef),.p (.int .i64 en),.p (.list .byte ebs),.p (.str ex),.p (.str ey),.p (.str ez),.p (.nl et),.p (.int .i64 ec)])],[.abs (.rq q)]=>(fun(ea eb:Str) (ef:List Fld) (ebs ex ey ez et:Str)=>(some (.one ⟨I.hid (zF q),(.ret (.tup [])),[.abs (.rq (I.hid (zAq q ⟨k,⟨ea,eb,ei,ef,en⟩,ebs,⟨ex,ey,ez,et⟩,ec⟩)))]⟩):Option CT)) ea eb ef ebs ex ey ez et
 |_,_=>none
theorem zlO:zu Tryz.prog 117 (zat alg):=by
 intro args hp r h;unfold zat at h;split at h<;>cases h
 rename_i k ea eb ei ef en ebs ex ey ez et ec q
 revert ef;intro(ef:List Fld)
 simp only [CT.Good,zh];intro hneed;obtain⟨ln,p,⟨m,tg,hm,hf,hl⟩,le,ck,own,out⟩:=q
 cases ck with
 | none=>cases own with
   |true=>exact zlM ln p m tg hm hf hl le out k ea eb ei ef en ebs ex ey ez et ec hneed
   |false=>exact zlN ln p m tg hm hf hl le out k ea eb ei ef en ebs ex ey ez et ec hneed
 | some ch=>cases own with
   |true=>exact zlK ln p m tg hm hf hl le ch out k ea eb ei ef en ebs ex ey ez et ec hneed
   |false=>exact zlL ln p m tg hm hf hl le ch out k ea eb ei ef en ebs ex ey ez et ec hneed
def wL:Know Tryz.prog:=⟨117,zat,zlO⟩
def wK:Know Tryz.prog:=⟨117,fun I=>zx I (zat I),zf zlO⟩
theorem zqr (ln:Ln) (p:Int) (m tg:Str) (hm:Int) (hf:List Fld) (hl le:Int) (out:List Evt) (c:Int) (hneed:zF ⟨ln,p,⟨m,tg,hm,hf,hl⟩,le,none,true,out⟩):Spc Tryz.prog 120 [.v (.one (.ptr 0 0)),.v (.one (.p (.int .i64 c)))] [.abs (.rq ⟨ln,p,⟨m,tg,hm,hf,hl⟩,le,none,true,out⟩)] (.ret (.tup [])) [.abs (.rq ((vZ ⟨ln,p,⟨m,tg,hm,hf,hl⟩,le,none,true,out⟩ c)))]:=by
 unfold zF at hneed;simp only at hneed
 refine spH Tryz.func120 (by kernel_rfl) { cfgQ with keep:=some [0,1]} [yc,zZ,yw,yu,yC,yB,yI,yH,wL,wK] (by kernel_rfl) ?_
 intro I X hI hX
 refine orcL ?_;go_invoke;refine orcS (by kernel_rfl) ?_
 simp only [zi,Nat.reduceAdd];subst hI;simp only [nrmA,nrmB,nrlB,reduceCtorEq,HO.abs.injEq,Gh.rq.injEq,Rq.mk.injEq]
 (repeat' (first|refine ja ?_ ?_|intro _))<;>first|omega|exact jb|exact jc ‹False›|skip
 all_goals first
  |omega
  |rfl
  |with_reducible assumption
  |(simp only [jh,ji];omega)
  |(unfold zF;simp only;omega)
  |(simp;done)
theorem zqs (ln:Ln) (p:Int) (m tg:Str) (hm:Int) (hf:List Fld) (hl le:Int) (out:List Evt) (c:Int) (hneed:zF ⟨ln,p,⟨m,tg,hm,hf,hl⟩,le,none,false,out⟩):Spc Tryz.prog 120 [.v (.one (.ptr 0 0)),.v (.one (.p (.int .i64 c)))] [.abs (.rq ⟨ln,p,⟨m,tg,hm,hf,hl⟩,le,none,false,out⟩)] (.ret (.tup [])) [.abs (.rq ((vZ ⟨ln,p,⟨m,tg,hm,hf,hl⟩,le,none,false,out⟩ c)))]:=by
 unfold zF at hneed;simp only at hneed
 refine spH Tryz.func120 (by kernel_rfl) { cfgQ with keep:=some [0,1]} [yc,zZ,yw,yu,yC,yB,yI,yH,wL,wK] (by kernel_rfl) ?_
 intro I X hI hX
 refine orcL ?_;go_invoke;refine orcS (by kernel_rfl) ?_
 simp only [zi,Nat.reduceAdd];subst hI;simp only [nrmA,nrmB,nrlB,reduceCtorEq,HO.abs.injEq,Gh.rq.injEq,Rq.mk.injEq]
 (repeat' (first|refine ja ?_ ?_|intro _))<;>first|omega|exact jb|exact jc ‹False›|skip
 all_goals first
  |omega
  |rfl
  |with_reducible assumption
  |(simp only [jh,ji];omega)
  |(unfold zF;simp only;omega)
  |(simp;done)
theorem zqp (ln:Ln) (p:Int) (m tg:Str) (hm:Int) (hf:List Fld) (hl le:Int) (ch:Ch) (out:List Evt) (c:Int) (hneed:zF ⟨ln,p,⟨m,tg,hm,hf,hl⟩,le,some ch,true,out⟩):Spc Tryz.prog 120 [.v (.one (.ptr 0 0)),.v (.one (.p (.int .i64 c)))] [.abs (.rq ⟨ln,p,⟨m,tg,hm,hf,hl⟩,le,some ch,true,out⟩)] (.ret (.tup [])) [.abs (.rq ((vZ ⟨ln,p,⟨m,tg,hm,hf,hl⟩,le,some ch,true,out⟩ c)))]:=by
 unfold zF at hneed;simp only at hneed
 refine spH Tryz.func120 (by kernel_rfl) { cfgQ with keep:=some [0,1]} [yc,zZ,yw,yu,yC,yB,yI,yH,wL,wK] (by kernel_rfl) ?_
 intro I X hI hX
 refine orcL ?_;go_invoke;refine orcS (by kernel_rfl) ?_
 simp only [zi,Nat.reduceAdd];subst hI;simp only [nrmA,nrmB,nrlB,reduceCtorEq,HO.abs.injEq,Gh.rq.injEq,Rq.mk.injEq]
 (repeat' (first|refine ja ?_ ?_|intro _))<;>first|omega|exact jb|exact jc ‹False›|skip
 all_goals first
  |omega
  |rfl
  |with_reducible assumption
  |(simp only [jh,ji];omega)
  |(unfold zF;simp only;omega)
  |(simp;done)
theorem zqq (ln:Ln) (p:Int) (m tg:Str) (hm:Int) (hf:List Fld) (hl le:Int) (ch:Ch) (out:List Evt) (c:Int) (hneed:zF ⟨ln,p,⟨m,tg,hm,hf,hl⟩,le,some ch,false,out⟩):Spc Tryz.prog 120 [.v (.one (.ptr 0 0)),.v (.one (.p (.int .i64 c)))] [.abs (.rq ⟨ln,p,⟨m,tg,hm,hf,hl⟩,le,some ch,false,out⟩)] (.ret (.tup [])) [.abs (.rq ((vZ ⟨ln,p,⟨m,tg,hm,hf,hl⟩,le,some ch,false,out⟩ c)))]:=by
 unfold zF at hneed;simp only at hneed
 refine spH Tryz.func120 (by kernel_rfl) { cfgQ with keep:=some [0,1]} [yc,zZ,yw,yu,yC,yB,yI,yH,wL,wK] (by kernel_rfl) ?_
 intro I X hI hX
 refine orcL ?_;go_invoke;refine orcS (by kernel_rfl) ?_
 simp only [zi,Nat.reduceAdd];subst hI;simp only [nrmA,nrmB,nrlB,reduceCtorEq,HO.abs.injEq,Gh.rq.injEq,Rq.mk.injEq]
 (repeat' (first|refine ja ?_ ?_|intro _))<;>first|omega|exact jb|exact jc ‹False›|skip
 all_goals first
  |omega
  |rfl
  |with_reducible assumption
  |(simp only [jh,ji];omega)
  |(unfold zF;simp only;omega)
  |(simp;done)
def VY (I:Alg):KU
 |[.v (.one (.ptr 0 0)),.v (.one (.p (.int .i64 c)))],[.abs (.rq q)]=>some (.one ⟨I.hid (zF q),(.ret (.tup [])),[.abs (.rq (I.hid (vZ q c)))]⟩)
 |_,_=>none
theorem zgV:zu Tryz.prog 120 (VY alg):=by
 intro args hp r h;unfold VY at h;split at h<;>cases h
 rename_i c q;simp only [CT.Good,zh];intro hneed;obtain⟨ln,p,⟨m,tg,hm,hf,hl⟩,le,ck,own,out⟩:=q
 cases ck with
 | none=>cases own with
   |true=>exact zqr ln p m tg hm hf hl le out c hneed
   |false=>exact zqs ln p m tg hm hf hl le out c hneed
 | some ch=>cases own with
   |true=>exact zqp ln p m tg hm hf hl le ch out c hneed
   |false=>exact zqq ln p m tg hm hf hl le ch out c hneed
def VX:Know Tryz.prog:=⟨120,VY,zgV⟩
def VW:Know Tryz.prog:=⟨120,fun I=>zx I (VY I),zf zgV⟩
theorem zul (ln:Ln) (p:Int) (m tg:Str) (hm:Int) (hf:List Fld) (hl le:Int) (out:List Evt) (hneed:zF ⟨ln,p,⟨m,tg,hm,hf,hl⟩,le,none,true,out⟩):Spc Tryz.prog 118 [.v (.one (.ptr 0 0))] [.abs (.rq ⟨ln,p,⟨m,tg,hm,hf,hl⟩,le,none,true,out⟩)] (.ret (.tup [])) [.abs (.rq ((qA ⟨ln,p,⟨m,tg,hm,hf,hl⟩,le,none,true,out⟩)))]:=by
 unfold zF at hneed;simp only at hneed
 refine spH Tryz.func118 (by kernel_rfl) { cfgQ with keep:=some [0]} [yc,zZ,yw,yu,yC,yB,yI,yH,wL,wK] (by kernel_rfl) ?_
 intro I X hI hX
 refine orcL ?_;go_invoke;refine orcS (by kernel_rfl) ?_
 simp only [zi,Nat.reduceAdd];subst hI;simp only [nrmA,nrmB,nrlB,reduceCtorEq,HO.abs.injEq,Gh.rq.injEq,Rq.mk.injEq]
 (repeat' (first|refine ja ?_ ?_|intro _))<;>first|omega|exact jb|exact jc ‹False›|skip
 all_goals first
  |omega
  |rfl
  |with_reducible assumption
  |(simp only [jh,ji];omega)
  |(unfold zF;simp only;omega)
  |(simp;done)
theorem zum (ln:Ln) (p:Int) (m tg:Str) (hm:Int) (hf:List Fld) (hl le:Int) (out:List Evt) (hneed:zF ⟨ln,p,⟨m,tg,hm,hf,hl⟩,le,none,false,out⟩):Spc Tryz.prog 118 [.v (.one (.ptr 0 0))] [.abs (.rq ⟨ln,p,⟨m,tg,hm,hf,hl⟩,le,none,false,out⟩)] (.ret (.tup [])) [.abs (.rq ((qA ⟨ln,p,⟨m,tg,hm,hf,hl⟩,le,none,false,out⟩)))]:=by
 unfold zF at hneed;simp only at hneed
 refine spH Tryz.func118 (by kernel_rfl) { cfgQ with keep:=some [0]} [yc,zZ,yw,yu,yC,yB,yI,yH,wL,wK] (by kernel_rfl) ?_
 intro I X hI hX
 refine orcL ?_;go_invoke;refine orcS (by kernel_rfl) ?_
 simp only [zi,Nat.reduceAdd];subst hI;simp only [nrmA,nrmB,nrlB,reduceCtorEq,HO.abs.injEq,Gh.rq.injEq,Rq.mk.injEq]
 (repeat' (first|refine ja ?_ ?_|intro _))<;>first|omega|exact jb|exact jc ‹False›|skip
 all_goals first
  |omega
  |rfl
  |with_reducible assumption
  |(simp only [jh,ji];omega)
  |(unfold zF;simp only;omega)
  |(simp;done)
theorem zuj (ln:Ln) (p:Int) (m tg:Str) (hm:Int) (hf:List Fld) (hl le:Int) (ch:Ch) (out:List Evt) (hneed:zF ⟨ln,p,⟨m,tg,hm,hf,hl⟩,le,some ch,true,out⟩):Spc Tryz.prog 118 [.v (.one (.ptr 0 0))] [.abs (.rq ⟨ln,p,⟨m,tg,hm,hf,hl⟩,le,some ch,true,out⟩)] (.ret (.tup [])) [.abs (.rq ((qA ⟨ln,p,⟨m,tg,hm,hf,hl⟩,le,some ch,true,out⟩)))]:=by
 unfold zF at hneed;simp only at hneed
 refine spH Tryz.func118 (by kernel_rfl) { cfgQ with keep:=some [0]} [yc,zZ,yw,yu,yC,yB,yI,yH,wL,wK] (by kernel_rfl) ?_
 intro I X hI hX
 refine orcL ?_;go_invoke;refine orcS (by kernel_rfl) ?_
 simp only [zi,Nat.reduceAdd];subst hI;simp only [nrmA,nrmB,nrlB,reduceCtorEq,HO.abs.injEq,Gh.rq.injEq,Rq.mk.injEq]
 (repeat' (first|refine ja ?_ ?_|intro _))<;>first|omega|exact jb|exact jc ‹False›|skip
 all_goals first
  |omega
  |rfl
  |with_reducible assumption
  |(simp only [jh,ji];omega)
  |(unfold zF;simp only;omega)
  |(simp;done)
theorem zuk (ln:Ln) (p:Int) (m tg:Str) (hm:Int) (hf:List Fld) (hl le:Int) (ch:Ch) (out:List Evt) (hneed:zF ⟨ln,p,⟨m,tg,hm,hf,hl⟩,le,some ch,false,out⟩):Spc Tryz.prog 118 [.v (.one (.ptr 0 0))] [.abs (.rq ⟨ln,p,⟨m,tg,hm,hf,hl⟩,le,some ch,false,out⟩)] (.ret (.tup [])) [.abs (.rq ((qA ⟨ln,p,⟨m,tg,hm,hf,hl⟩,le,some ch,false,out⟩)))]:=by
 unfold zF at hneed;simp only at hneed
 refine spH Tryz.func118 (by kernel_rfl) { cfgQ with keep:=some [0]} [yc,zZ,yw,yu,yC,yB,yI,yH,wL,wK] (by kernel_rfl) ?_
 intro I X hI hX
 refine orcL ?_;go_invoke;refine orcS (by kernel_rfl) ?_
 simp only [zi,Nat.reduceAdd];subst hI;simp only [nrmA,nrmB,nrlB,reduceCtorEq,HO.abs.injEq,Gh.rq.injEq,Rq.mk.injEq]
 (repeat' (first|refine ja ?_ ?_|intro _))<;>first|omega|exact jb|exact jc ‹False›|skip
 all_goals first
  |omega
  |rfl
  |with_reducible assumption
  |(simp only [jh,ji];omega)
  |(unfold zF;simp only;omega)
  |(simp;done)
def zax (I:Alg):KU
 |[.v (.one (.ptr 0 0))],[.abs (.rq q)]=>some (.one ⟨I.hid (zF q),(.ret (.tup [])),[.abs (.rq (I.hid (qA q)))]⟩)
 |_,_=>none
theorem zlU:zu Tryz.prog 118 (zax alg):=by
 intro args hp r h;unfold zax at h;split at h<;>cases h
 rename_i q;simp only [CT.Good,zh];intro hneed;obtain⟨ln,p,⟨m,tg,hm,hf,hl⟩,le,ck,own,out⟩:=q
 cases ck with
 | none=>cases own with
   |true=>exact zul ln p m tg hm hf hl le out hneed
   |false=>exact zum ln p m tg hm hf hl le out hneed
 | some ch=>cases own with
   |true=>exact zuj ln p m tg hm hf hl le ch out hneed
   |false=>exact zuk ln p m tg hm hf hl le ch out hneed
def XM:Know Tryz.prog:=⟨118,zax,zlU⟩
def XL:Know Tryz.prog:=⟨118,fun I=>zx I (zax I),zf zlU⟩
theorem zqA (ln:Ln) (p:Int) (m tg:Str) (hm:Int) (hf:List Fld) (hl le:Int) (out:List Evt):Spc Tryz.prog 44 [.v (.one (.ptr 0 0))] [.abs (.rq ⟨ln,p,⟨m,tg,hm,hf,hl⟩,le,none,true,out⟩)] (.ret (.v (.one (.p (.bool ((decide (Rq.pos ⟨ln,p,⟨m,tg,hm,hf,hl⟩,le,none,true,out⟩=4)))))))) [.abs (.rq ⟨ln,p,⟨m,tg,hm,hf,hl⟩,le,none,true,out⟩)]:=by
 refine spH Tryz.func44 (by kernel_rfl) { cfgQ with keep:=some [0,2]} [] (by kernel_rfl) ?_
 intro I X hI hX
 refine orcL ?_;go_invoke;refine orcS (by kernel_rfl) ?_
 simp only [zi,Nat.reduceAdd];subst hI;simp only [nrmA,nrmB,nrlB,reduceCtorEq,HO.abs.injEq,Gh.rq.injEq,Rq.mk.injEq]
 (repeat' (first|refine ja ?_ ?_|intro _))<;>first|omega|exact jb|exact jc ‹False›|skip
 all_goals first
  |omega
  |rfl
  |with_reducible assumption
  |(simp only [jh,ji];omega)
  |(simp;done)
theorem zqB (ln:Ln) (p:Int) (m tg:Str) (hm:Int) (hf:List Fld) (hl le:Int) (out:List Evt):Spc Tryz.prog 44 [.v (.one (.ptr 0 0))] [.abs (.rq ⟨ln,p,⟨m,tg,hm,hf,hl⟩,le,none,false,out⟩)] (.ret (.v (.one (.p (.bool ((decide (Rq.pos ⟨ln,p,⟨m,tg,hm,hf,hl⟩,le,none,false,out⟩=4)))))))) [.abs (.rq ⟨ln,p,⟨m,tg,hm,hf,hl⟩,le,none,false,out⟩)]:=by
 refine spH Tryz.func44 (by kernel_rfl) { cfgQ with keep:=some [0,2]} [] (by kernel_rfl) ?_
 intro I X hI hX
 refine orcL ?_;go_invoke;refine orcS (by kernel_rfl) ?_
 simp only [zi,Nat.reduceAdd];subst hI;simp only [nrmA,nrmB,nrlB,reduceCtorEq,HO.abs.injEq,Gh.rq.injEq,Rq.mk.injEq]
 (repeat' (first|refine ja ?_ ?_|intro _))<;>first|omega|exact jb|exact jc ‹False›|skip
 all_goals first
  |omega
  |rfl
  |with_reducible assumption
  |(simp only [jh,ji];omega)
  |(simp;done)
theorem zqy (ln:Ln) (p:Int) (m tg:Str) (hm:Int) (hf:List Fld) (hl le:Int) (ch:Ch) (out:List Evt):Spc Tryz.prog 44 [.v (.one (.ptr 0 0))] [.abs (.rq ⟨ln,p,⟨m,tg,hm,hf,hl⟩,le,some ch,true,out⟩)] (.ret (.v (.one (.p (.bool ((decide (Rq.pos ⟨ln,p,⟨m,tg,hm,hf,hl⟩,le,some ch,true,out⟩=4)))))))) [.abs (.rq ⟨ln,p,⟨m,tg,hm,hf,hl⟩,le,some ch,true,out⟩)]:=by
 refine spH Tryz.func44 (by kernel_rfl) { cfgQ with keep:=some [0,2]} [] (by kernel_rfl) ?_
 intro I X hI hX
 refine orcL ?_;go_invoke;refine orcS (by kernel_rfl) ?_
 simp only [zi,Nat.reduceAdd];subst hI;simp only [nrmA,nrmB,nrlB,reduceCtorEq,HO.abs.injEq,Gh.rq.injEq,Rq.mk.injEq]
 (repeat' (first|refine ja ?_ ?_|intro _))<;>first|omega|exact jb|exact jc ‹False›|skip
 all_goals first
  |omega
  |rfl
  |with_reducible assumption
  |(simp only [jh,ji];omega)
  |(simp;done)
theorem zqz (ln:Ln) (p:Int) (m tg:Str) (hm:Int) (hf:List Fld) (hl le:Int) (ch:Ch) (out:List Evt):Spc Tryz.prog 44 [.v (.one (.ptr 0 0))] [.abs (.rq ⟨ln,p,⟨m,tg,hm,hf,hl⟩,le,some ch,false,out⟩)] (.ret (.v (.one (.p (.bool ((decide (Rq.pos ⟨ln,p,⟨m,tg,hm,hf,hl⟩,le,some ch,false,out⟩=4)))))))) [.abs (.rq ⟨ln,p,⟨m,tg,hm,hf,hl⟩,le,some ch,false,out⟩)]:=by
 refine spH Tryz.func44 (by kernel_rfl) { cfgQ with keep:=some [0,2]} [] (by kernel_rfl) ?_
 intro I X hI hX
 refine orcL ?_;go_invoke;refine orcS (by kernel_rfl) ?_
 simp only [zi,Nat.reduceAdd];subst hI;simp only [nrmA,nrmB,nrlB,reduceCtorEq,HO.abs.injEq,Gh.rq.injEq,Rq.mk.injEq]
 (repeat' (first|refine ja ?_ ?_|intro _))<;>first|omega|exact jb|exact jc ‹False›|skip
 all_goals first
  |omega
  |rfl
  |with_reducible assumption
  |(simp only [jh,ji];omega)
  |(simp;done)
def V3 (I:Alg):KU
 |[.v (.one (.ptr 0 0))],[.abs (.rq q)]=>some (.one ⟨I.hid (True),(.ret (.v (.one (.p (.bool (I.hid (decide (Rq.pos q=4)))))))),[.abs (.rq (I.hid (q)))]⟩)
 |_,_=>none
theorem zgZ:zu Tryz.prog 44 (V3 alg):=by
 intro args hp r h;unfold V3 at h;split at h<;>cases h
 rename_i q;simp only [CT.Good,zh];intro _;obtain⟨ln,p,⟨m,tg,hm,hf,hl⟩,le,ck,own,out⟩:=q
 cases ck with
 | none=>cases own with
   |true=>exact zqA ln p m tg hm hf hl le out
   |false=>exact zqB ln p m tg hm hf hl le out
 | some ch=>cases own with
   |true=>exact zqy ln p m tg hm hf hl le ch out
   |false=>exact zqz ln p m tg hm hf hl le ch out
def zbX:Know Tryz.prog:=⟨44,V3,zgZ⟩
def zbW:Know Tryz.prog:=⟨44,fun I=>zx I (V3 I),zf zgZ⟩
end Go.Proofs.YtkjepecoodjbmaaGreatDoor
namespace Go.Ab
open Go Go.Sep
variable [Facts]
theorem Spc.zzk {Pr:Program} {f:Nat} {args:List D} {hp:List HO} {u:U} {E:Nat} {l:List u.den} (hl:l.length≤maxLen) (hf: ∃ fn,Pr.funcs[f]? =some fn∧(fn.name == "runtime.NumGoroutine")=false∧fn.body.isNone=false)
  (h: ∀ (S:Frz) (bs:List Value) (w:World) (vs:List Value),Facts.p w→MDs S bs args vs→∃ cs:Array Value,cs.size=l.length * u.size∧(∀ (i:Nat) (x:u.den) (j:Nat) (p:P) (v:Value),l[i]? =some x→(enc alg u x)[j]? =some p→cs.toList[i * u.size+j]? =some v→MP S p v)∧Calls Pr f vs.toArray w fun e w'=>e=.returned (.slice (some ⟨w.heap.size,0,none⟩) l.length l.length)∧w'=w.alloc (.cells cs E)):Spc Pr f args hp (.ret (.v (.one (.row hp.length)))) (hp++[.row u E l]):=by
 refine⟨hf,fun S K fr w vs hH hM hA=> ?_⟩;obtain⟨cs,hcs,hx,hc⟩:=h S _ w vs (At.frz hA).facts hM;refine hc.mono fun e w' he=> ?_;obtain⟨rfl,rfl⟩:=he
 have he:Ext (K.map CO.base) ((K++[CO.row E u.size (some ⟨w.heap.size,0,none⟩) l.length l.length cs.toList]).map CO.base):=by rw [List.map_append];exact Ext.append _ _
 refine⟨S,K++[CO.row E u.size (some ⟨w.heap.size,0,none⟩) l.length l.length cs.toList],Frz.le.refl S,he,(hH.mono (Frz.le.refl S) he).push (.row (by rw [Array.length_toList];exact hcs) hx),?_,?_⟩
 · have h1:=hA.zbi E u.size l.length cs (0,0) hcs hl (tJ _)
   exact At.more h1
 · refine⟨?_,some ⟨w.heap.size,0,none⟩,l.length,l.length,rfl⟩
   rw [hH.1];exact xw _ _
end Go.Ab
namespace Go.Proofs.YtkjepecoodjbmaaGreatDoor
open Go Go.Sep Go.Ab
set_option maxRecDepth 100000
theorem index_one: ∀ (s:Str) (c:UInt8),c ∉ s→Lib.index s [c]= -1
 |[],c,_=>rfl
 | b::l,c,h=>by
   have h1: ¬ b=c:=fun e=>h (by rw [e];exact List.mem_cons_self)
   have h2:c ∉ l:=fun e=>h (List.mem_cons_of_mem _ e)
   have h0:(c == b)=false:=by simpa using fun e:c=b=>h1 e.symm
   have h3:([c]:Str).isPrefixOf (b::l)=false:=by simp [List.isPrefixOf,h0]
   unfold Lib.index;rw [h3,index_one l c h2];rfl
theorem zmM: ∀ (p r:Str) (c:UInt8),c ∉ p→Lib.index (p++c::r) [c]=p.length
 |[],r,c,_=>by simp [Lib.index,List.isPrefixOf]
 | b::l,r,c,h=>by
   have h1: ¬ b=c:=fun e=>h (by rw [e];exact List.mem_cons_self)
   have h2:c ∉ l:=fun e=>h (List.mem_cons_of_mem _ e)
   have h0:(c == b)=false:=by simpa using fun e:c=b=>h1 e.symm
   have h3:([c]:Str).isPrefixOf (b::(l++c::r))=false:=by simp [List.isPrefixOf,h0]
   rw [List.cons_append];unfold Lib.index;rw [h3,zmM l r c h2]
   have: ¬ ((l.length:Int) == -1)=true:=fun e=>by have:=beq_iff_eq.1 e;omega
   rw [if_neg (by simp),if_neg this]
   simp
theorem zbH: ∀ (s:Str),(32:UInt8) ∉ s→zD s=[s]
 |[],_=>rfl
 | b::l,h=>by
   have h1: ¬ b=32:=fun e=>h (by rw [e];exact List.mem_cons_self)
   have h2:(32:UInt8) ∉ l:=fun e=>h (List.mem_cons_of_mem _ e);rw [zD,if_neg h1,zbH l h2]
theorem zdq: ∀ (p r:Str),(32:UInt8) ∉ p→zD (p++32::r)=p::zD r
 |[],r,_=>by simp [zD]
 | b::l,r,h=>by
   have h1: ¬ b=32:=fun e=>h (by rw [e];exact List.mem_cons_self)
   have h2:(32:UInt8) ∉ l:=fun e=>h (List.mem_cons_of_mem _ e);rw [List.cons_append,zD,if_neg h1,zdq l r h2]
theorem zwO: ∀ (s:Str) (c:UInt8),c ∈ s→∃ p r,s=p++c::r∧c ∉ p
 | b ::l,c,h=>by
   by_cases e:b=c
   · exact⟨[],l,by rw [e];rfl,by simp⟩
   · have h2:c ∈ l:=by
      rcases List.mem_cons.1 h with h|h
      · exact absurd h.symm e
      · exact h
     obtain⟨p,r,rfl,h3⟩:=zwO l c h2;refine⟨b::p,r,rfl,fun h4=> ?_⟩
     rcases List.mem_cons.1 h4 with h4|h4
     · exact e h4.symm
     · exact h3 h4
theorem zgE: ∀ (n:Nat) (s:Str),s.length≤n→∀ k,s.count 32≤k→Lib.splitK [32] 0 k s=zD s
 | 0,s,hs,k,_=>by
   have:s=[]:=List.length_eq_zero_iff.1 (by omega)
   subst this
   cases k<;>rfl
 | n + 1,s,hs,k,hk=>by
   by_cases hm:(32:UInt8) ∈ s
   · obtain⟨p,r,rfl,hp⟩:=zwO s 32 hm
     have hc:(p++32::r).count 32=r.count 32+1:=by
      rw [List.count_append,List.count_eq_zero.2 hp,List.count_cons_self];omega
     rw [hc] at hk
     cases k with
     |zero=>omega
     | succ k=>
       rw [zdq p r hp];unfold Lib.splitK;rw [zmM p r 32 hp]
       have: ¬ ((p.length:Int) == -1)=true:=fun e=>by have:=beq_iff_eq.1 e;omega
       rw [if_neg this];simp only [jJ,Nat.add_zero,jh,ji,Nat.zero_add]
       rw [List.take_left,show p.length+1=(p++[(32:UInt8)]).length by simp,show p++32::r=(p++[32])++r by simp,List.drop_left]
       congr 1
       refine zgE n r ?_ k (by omega)
       simp only [jk,jh] at hs;omega
   · rw [zbH s hm]
     cases k with
     |zero=>rfl
     | succ k=>
       unfold Lib.splitK;rw [index_one s 32 hm];rfl
theorem count_one (s:Str):Lib.count s [32]=s.count 32:=Lib.count_one 32 s
theorem zbI: ∀ (s:Str),(zD s).length=s.count 32+1
 |[]=>rfl
 | c ::r=>by
   have ih:=zbI r;rw [zD]
   split
   · rename_i h;subst h;rw [jh,ih,List.count_cons_self]
   · rename_i h
     rw [List.count_cons_of_ne (by simpa using h)]
     cases hq:zD r with
     |nil=>exact absurd hq (Xz r)
     |cons w ws=>rw [hq] at ih;simpa using ih
theorem zpG {S:Frz} {l:List Str} (hl: ∀ x ∈ l,x.length≤maxLen) {vs:List Value} (hv:vs=l.map fun x=>Value.string (Sep.S x)): ∀ (i:Nat) (x:Str) (j:Nat) (p:P) (v:Value),l[i]? =some x→(enc alg .str x)[j]? =some p→vs[i * U.str.size+j]? =some v→MP S p v:=by
 intro i x j p v hi hj hv2
 cases j with
 | zero=>
   simp only [enc,List.getElem?_cons_zero,jw] at hj;subst hj
   rw [hv,show i * U.str.size+0=i by simp [U.size],List.getElem?_map,hi] at hv2
   cases hv2;exact .str _ (hl x (List.mem_of_getElem? hi))
 |succ j=>simp [enc] at hj
theorem sQ: ∀ (s:Str),∀ x ∈ zD s,x.length≤s.length
 |[],x,h=>by simp [zD] at h;subst h;simp
 | c ::r,x,h=>by
   have ih:=sQ r;rw [zD] at h
   split at h
   · rcases List.mem_cons.1 h with rfl|h
     · simp
     · have:=ih x h;simp;omega
   · cases hq:zD r with
     |nil=>exact absurd hq (Xz r)
     | cons w ws=>
       rw [hq] at h ih
       rcases List.mem_cons.1 h with rfl|h
       · have:=ih w List.mem_cons_self;simp;omega
       · have:=ih x (List.mem_cons_of_mem _ h);simp;omega
def zaa (I:Alg):KU
 |[.v (.one (.p (.str s))),.v (.one (.p (.str ([32]))))],[]=>(fun(s:Str)=>(some (.one ⟨I.hid (s.length≤1000000),(.ret (.v (.one (.row 0)))),[.row .str 9 (I.hid (zD s))]⟩):Option CT)) s
 |_,_=>none
theorem zli:zu Tryz.prog 210 (zaa alg):=by
 intro args hp r h;unfold zaa at h;split at h<;>cases h
 rename_i s;simp only [CT.Good,zh];intro hneed;have hlen:=zbI s;have hcl:s.count 32≤s.length:=List.count_le_length
 refine Spc.zzk (hp:=[]) (u:=.str) (by rw [hlen];unfold maxLen;omega) ⟨_,Tryz.func210,by kernel_rfl,by kernel_rfl⟩ fun S bs w vs hW hM=> ?_
 obtain⟨v,r,rfl⟩: ∃ v r,vs=v::r:=by cases vs with|nil=>exact hM.elim|cons v r=>exact⟨v,r,rfl⟩
 obtain⟨h1,hM⟩:=hM
 obtain⟨v2,r2,rfl⟩: ∃ v r2,r=v::r2:=by cases r with|nil=>exact hM.elim|cons v r=>exact⟨v,r,rfl⟩
 obtain⟨h2,hM⟩:=hM
 obtain rfl:r2=[]:=by cases r2 with|nil=>rfl|cons v r=>exact hM.elim
 obtain⟨mx,hmx⟩:=hW.2
 cases h1 with
 | str _ hl1=>
   cases h2 with
   | str _ hl2=>
     have hc:=Tryz.strings_Split (Sep.S s) (Sep.S [32]) mx w (by show s.length<_;omega) hmx (by decide)
     have hk:Lib.countB (Sep.S s) (Sep.S [32])=s.count 32:=count_one s
     have hd:(Lib.splitB (Sep.S [32]) 0 (Lib.countB (Sep.S s) (Sep.S [32])) (Sep.S s)).map (fun b=>b.data.toList)=zD s:=by
      rw [Lib.splitB_data,hk];exact zgE s.length s (jL _) _ (jL _)
     have hv:(Lib.splitB (Sep.S [32]) 0 (Lib.countB (Sep.S s) (Sep.S [32])) (Sep.S s)).map Value.string=(zD s).map fun x=>Value.string (Sep.S x):=by
      rw [← hd,List.map_map]
      exact List.map_congr_left fun b _=>by simp [Sep.S]
     refine⟨((Lib.splitB (Sep.S [32]) 0 (Lib.countB (Sep.S s) (Sep.S [32])) (Sep.S s)).map Value.string).toArray,?_,?_,hc.mono fun e w' h=> ?_⟩
     · rw [hv];simp [U.size]
     · exact zpG (fun x hx=>by have:=sQ s x hx;unfold maxLen;omega) (by rw [hv])
     · obtain⟨he,hw⟩:=h
       rw [hk] at he;rw [hlen];exact⟨he,hw⟩
def zlh:Know Tryz.prog:=⟨210,zaa,zli⟩
def zlg:Know Tryz.prog:=⟨210,fun I=>zx I (zaa I),zf zli⟩
end Go.Proofs.YtkjepecoodjbmaaGreatDoor
namespace Go.Proofs.YtkjepecoodjbmaaGreatDoor
open Go Go.Sep Go.Ab
set_option maxRecDepth 100000
theorem zpr (s:Str):decide (0≤Lib.indexByte s 9)=s.contains 9:=by
 have h: ∀ s:Str,(0≤Lib.indexByte s 9)↔s.contains 9=true:=by
  intro s
  induction s with
  |nil=>simp [Lib.indexByte]
  | cons b l ih=>
    have hb:=yF l 9;unfold Lib.indexByte
    by_cases e:b=9
    · subst e;simp
    · have e2:(b == 9)=false:=by simpa using e
      have e3:((9:UInt8) == b)=false:=by simpa using fun h:9=b=>e h.symm
      rw [e2,if_neg (by simp),List.contains_cons,e3,Bool.false_or,← ih]
      split
      · rename_i h;have:=beq_iff_eq.1 h;omega
      · rename_i h;have: ¬ Lib.indexByte l 9= -1:=fun e=>h (by rw [e];rfl);omega
 rw [Bool.eq_iff_iff,decide_eq_true_eq];exact h s
theorem zpq (s:Str):(0≤Lib.indexByte s 9)↔s.contains 9=true:=by rw [← zpr,decide_eq_true_iff]
theorem zl5 (b:Str):Lib.hasPrefix b [47]=decide (b.head?=some 47):=by
 cases b with
 |nil=>rfl
 | cons c r=>
   unfold Lib.hasPrefix
   by_cases h:c=47
   · subst h;simp [List.isPrefixOf]
   · simp [List.isPrefixOf,h];exact fun e=>h e.symm
def rP (q:Rq) (s:Str):Rq:=
 if(begM s).1=0 then { q with h:=(begM s).2,pos:=1} else if(begM s).1=11 then { q with h:=(begM s).2} else q
def uy (q:Rq):Prop:=q.own=true
theorem zur (ln:Ln) (p:Int) (m tg:Str) (hm:Int) (hf:List Fld) (hl le:Int) (out:List Evt) (s:Str) (hneed:uy ⟨ln,p,⟨m,tg,hm,hf,hl⟩,le,none,true,out⟩∧s.length≤1000000):Spc Tryz.prog 171 [.v (.one (.ptr 0 0)),.v (.one (.p (.str s)))] [.abs (.rq ⟨ln,p,⟨m,tg,hm,hf,hl⟩,le,none,true,out⟩)] (.ret (.v (.one (.p (.int .i64 ((begM s).1)))))) [.abs (.rq ((rP ⟨ln,p,⟨m,tg,hm,hf,hl⟩,le,none,true,out⟩ s)))]:=by
 obtain⟨-,hs⟩:=hneed;generalize hr:begM s=r;obtain⟨rc,⟨rm,rt,ri,rf,rl⟩⟩:=r;unfold rP;rw [hr];unfold begM at hr;have hsm:=sQ s
 refine spH Tryz.func171 (by kernel_rfl) { cfgQ with keep:=some [0,1,4,5,39]} [rF,rE,zlh,zlg,xO,xN,QC,QB] (by kernel_rfl) ?_
 intro I X hI hX
 refine orcL ?_;go_invoke;refine orcS (by kernel_rfl) ?_
 simp only [zi,Nat.reduceAdd];subst hI;simp only [nrmA,nrmB,nrlB,reduceCtorEq,HO.abs.injEq,Gh.rq.injEq,Rq.mk.injEq];generalize zD s=L at *
 by_cases h3:L.length=3
 · obtain⟨a,b,c,rfl⟩: ∃ a b c,L=[a,b,c]:=by
    match L,h3 with
    |[a,b,c],_=>exact⟨a,b,c,rfl⟩
   have ha:=hsm a (by simp)
   have hb:=hsm b (by simp)
   clear hsm h3;simp only [show Int.toNat 1=1 from rfl,show Int.toNat 2=2 from rfl,List.getD_cons_zero,List.getD_cons_succ,zl5,zpr,zpq,Bool.decide_eq_true] at hr ⊢
   by_cases q1:wZ a=false
   · rw [if_pos q1] at hr
     simp only [Prod.mk.injEq,hd0,Hd.mk.injEq] at hr;obtain⟨rfl,rfl,rfl,rfl,rfl,rfl⟩:=hr
     (repeat' (first|refine ja ?_ ?_|intro _))<;>first|omega|exact jb|exact jc ‹False›|skip
     all_goals first|omega|rfl|(simp only [jh,ji];omega)|(simp_all;done)|trace_state
   rw [if_neg q1] at hr
   by_cases q2:b.head?≠some 47∨b.contains 9=true
   · rw [if_pos q2] at hr
     simp only [Prod.mk.injEq,hd0,Hd.mk.injEq] at hr;obtain⟨rfl,rfl,rfl,rfl,rfl,rfl⟩:=hr
     (repeat' (first|refine ja ?_ ?_|intro _))<;>first|omega|exact jb|exact jc ‹False›|skip
     all_goals first|omega|rfl|(simp only [jh,ji];omega)|(simp_all;done)|trace_state
   rw [if_neg q2] at hr
   by_cases q3:c=qf
   · rw [if_pos q3] at hr
     simp only [Prod.mk.injEq,Hd.mk.injEq] at hr;obtain⟨rfl,rfl,rfl,rfl,rfl,rfl⟩:=hr;unfold qf at q3
     (repeat' (first|refine ja ?_ ?_|intro _))<;>first|omega|exact jb|exact jc ‹False›|skip
     all_goals first|omega|rfl|(simp only [jh,ji];omega)|(simp_all;done)|trace_state
   rw [if_neg q3] at hr
   by_cases q4:c=UB
   · rw [if_pos q4] at hr
     simp only [Prod.mk.injEq,Hd.mk.injEq] at hr;obtain⟨rfl,rfl,rfl,rfl,rfl,rfl⟩:=hr;unfold qf at q3;unfold UB at q4
     (repeat' (first|refine ja ?_ ?_|intro _))<;>first|omega|exact jb|exact jc ‹False›|skip
     all_goals first|omega|rfl|(simp only [jh,ji];omega)|(simp_all;done)|trace_state
   rw [if_neg q4] at hr;simp only [Prod.mk.injEq,Hd.mk.injEq] at hr;obtain⟨rfl,rfl,rfl,rfl,rfl,rfl⟩:=hr;unfold qf at q3;unfold UB at q4
   (repeat' (first|refine ja ?_ ?_|intro _))<;>first|omega|exact jb|exact jc ‹False›|skip
   all_goals first|omega|rfl|(simp only [jh,ji];omega)|(simp_all;done)|trace_state
 · have hr2:(5,hd0)=((rc,⟨rm,rt,ri,rf,rl⟩):Int × Hd):=by
    rw [← hr]
    split
    · exact absurd rfl h3
    · rfl
   simp only [Prod.mk.injEq,hd0,Hd.mk.injEq] at hr2;obtain⟨rfl,rfl,rfl,rfl,rfl,rfl⟩:=hr2
   (repeat' (first|refine ja ?_ ?_|intro _))<;>first|omega|exact jb|exact jc ‹False›|skip
   all_goals first|omega|rfl|(simp only [jh,ji];omega)|trace_state
theorem zus (ln:Ln) (p:Int) (m tg:Str) (hm:Int) (hf:List Fld) (hl le:Int) (out:List Evt) (s:Str) (hneed:uy ⟨ln,p,⟨m,tg,hm,hf,hl⟩,le,none,false,out⟩∧s.length≤1000000):Spc Tryz.prog 171 [.v (.one (.ptr 0 0)),.v (.one (.p (.str s)))] [.abs (.rq ⟨ln,p,⟨m,tg,hm,hf,hl⟩,le,none,false,out⟩)] (.ret (.v (.one (.p (.int .i64 ((begM s).1)))))) [.abs (.rq ((rP ⟨ln,p,⟨m,tg,hm,hf,hl⟩,le,none,false,out⟩ s)))]:=by
 exact absurd hneed.1 (fun h=>by unfold uy at h;cases h)
theorem zup (ln:Ln) (p:Int) (m tg:Str) (hm:Int) (hf:List Fld) (hl le:Int) (ch:Ch) (out:List Evt) (s:Str) (hneed:uy ⟨ln,p,⟨m,tg,hm,hf,hl⟩,le,some ch,true,out⟩∧s.length≤1000000):Spc Tryz.prog 171 [.v (.one (.ptr 0 0)),.v (.one (.p (.str s)))] [.abs (.rq ⟨ln,p,⟨m,tg,hm,hf,hl⟩,le,some ch,true,out⟩)] (.ret (.v (.one (.p (.int .i64 ((begM s).1)))))) [.abs (.rq ((rP ⟨ln,p,⟨m,tg,hm,hf,hl⟩,le,some ch,true,out⟩ s)))]:=by
 obtain⟨-,hs⟩:=hneed;generalize hr:begM s=r;obtain⟨rc,⟨rm,rt,ri,rf,rl⟩⟩:=r;unfold rP;rw [hr];unfold begM at hr;have hsm:=sQ s
 refine spH Tryz.func171 (by kernel_rfl) { cfgQ with keep:=some [0,1,4,5,39]} [rF,rE,zlh,zlg,xO,xN,QC,QB] (by kernel_rfl) ?_
 intro I X hI hX
 refine orcL ?_;go_invoke;refine orcS (by kernel_rfl) ?_
 simp only [zi,Nat.reduceAdd];subst hI;simp only [nrmA,nrmB,nrlB,reduceCtorEq,HO.abs.injEq,Gh.rq.injEq,Rq.mk.injEq];generalize zD s=L at *
 by_cases h3:L.length=3
 · obtain⟨a,b,c,rfl⟩: ∃ a b c,L=[a,b,c]:=by
    match L,h3 with
    |[a,b,c],_=>exact⟨a,b,c,rfl⟩
   have ha:=hsm a (by simp)
   have hb:=hsm b (by simp)
   clear hsm h3;simp only [show Int.toNat 1=1 from rfl,show Int.toNat 2=2 from rfl,List.getD_cons_zero,List.getD_cons_succ,zl5,zpr,zpq,Bool.decide_eq_true] at hr ⊢
   by_cases q1:wZ a=false
   · rw [if_pos q1] at hr
     simp only [Prod.mk.injEq,hd0,Hd.mk.injEq] at hr;obtain⟨rfl,rfl,rfl,rfl,rfl,rfl⟩:=hr
     (repeat' (first|refine ja ?_ ?_|intro _))<;>first|omega|exact jb|exact jc ‹False›|skip
     all_goals first|omega|rfl|(simp only [jh,ji];omega)|(simp_all;done)|trace_state
   rw [if_neg q1] at hr
   by_cases q2:b.head?≠some 47∨b.contains 9=true
   · rw [if_pos q2] at hr
     simp only [Prod.mk.injEq,hd0,Hd.mk.injEq] at hr;obtain⟨rfl,rfl,rfl,rfl,rfl,rfl⟩:=hr
     (repeat' (first|refine ja ?_ ?_|intro _))<;>first|omega|exact jb|exact jc ‹False›|skip
     all_goals first|omega|rfl|(simp only [jh,ji];omega)|(simp_all;done)|trace_state
   rw [if_neg q2] at hr
   by_cases q3:c=qf
   · rw [if_pos q3] at hr
     simp only [Prod.mk.injEq,Hd.mk.injEq] at hr;obtain⟨rfl,rfl,rfl,rfl,rfl,rfl⟩:=hr;unfold qf at q3
     (repeat' (first|refine ja ?_ ?_|intro _))<;>first|omega|exact jb|exact jc ‹False›|skip
     all_goals first|omega|rfl|(simp only [jh,ji];omega)|(simp_all;done)|trace_state
   rw [if_neg q3] at hr
   by_cases q4:c=UB
   · rw [if_pos q4] at hr
     simp only [Prod.mk.injEq,Hd.mk.injEq] at hr;obtain⟨rfl,rfl,rfl,rfl,rfl,rfl⟩:=hr;unfold qf at q3;unfold UB at q4
     (repeat' (first|refine ja ?_ ?_|intro _))<;>first|omega|exact jb|exact jc ‹False›|skip
     all_goals first|omega|rfl|(simp only [jh,ji];omega)|(simp_all;done)|trace_state
   rw [if_neg q4] at hr;simp only [Prod.mk.injEq,Hd.mk.injEq] at hr;obtain⟨rfl,rfl,rfl,rfl,rfl,rfl⟩:=hr;unfold qf at q3;unfold UB at q4
   (repeat' (first|refine ja ?_ ?_|intro _))<;>first|omega|exact jb|exact jc ‹False›|skip
   all_goals first|omega|rfl|(simp only [jh,ji];omega)|(simp_all;done)|trace_state
 · have hr2:(5,hd0)=((rc,⟨rm,rt,ri,rf,rl⟩):Int × Hd):=by
    rw [← hr]
    split
    · exact absurd rfl h3
    · rfl
   simp only [Prod.mk.injEq,hd0,Hd.mk.injEq] at hr2;obtain⟨rfl,rfl,rfl,rfl,rfl,rfl⟩:=hr2
   (repeat' (first|refine ja ?_ ?_|intro _))<;>first|omega|exact jb|exact jc ‹False›|skip
   all_goals first|omega|rfl|(simp only [jh,ji];omega)|trace_state
theorem zuq (ln:Ln) (p:Int) (m tg:Str) (hm:Int) (hf:List Fld) (hl le:Int) (ch:Ch) (out:List Evt) (s:Str) (hneed:uy ⟨ln,p,⟨m,tg,hm,hf,hl⟩,le,some ch,false,out⟩∧s.length≤1000000):Spc Tryz.prog 171 [.v (.one (.ptr 0 0)),.v (.one (.p (.str s)))] [.abs (.rq ⟨ln,p,⟨m,tg,hm,hf,hl⟩,le,some ch,false,out⟩)] (.ret (.v (.one (.p (.int .i64 ((begM s).1)))))) [.abs (.rq ((rP ⟨ln,p,⟨m,tg,hm,hf,hl⟩,le,some ch,false,out⟩ s)))]:=by
 exact absurd hneed.1 (fun h=>by unfold uy at h;cases h)
def zay (I:Alg):KU
 |[.v (.one (.ptr 0 0)),.v (.one (.p (.str s)))],[.abs (.rq q)]=>(fun(s:Str)=>(some (.one ⟨I.hid (uy q∧s.length≤1000000),(.ret (.v (.one (.p (.int .i64 (I.hid ((begM s).1))))))),[.abs (.rq (I.hid (rP q s)))]⟩):Option CT)) s
 |_,_=>none
theorem zlX:zu Tryz.prog 171 (zay alg):=by
 intro args hp r h;unfold zay at h;split at h<;>cases h
 rename_i s q;simp only [CT.Good,zh];intro hneed;obtain⟨ln,p,⟨m,tg,hm,hf,hl⟩,le,ck,own,out⟩:=q
 cases ck with
 | none=>cases own with
   |true=>exact zur ln p m tg hm hf hl le out s hneed
   |false=>exact zus ln p m tg hm hf hl le out s hneed
 | some ch=>cases own with
   |true=>exact zup ln p m tg hm hf hl le ch out s hneed
   |false=>exact zuq ln p m tg hm hf hl le ch out s hneed
def zlW:Know Tryz.prog:=⟨171,zay,zlX⟩
def zlV:Know Tryz.prog:=⟨171,fun I=>zx I (zay I),zf zlX⟩
def FsOk (f:List Fld):Prop:=f.length≤1000∧∀ x ∈ f,x.name.length≤1000000∧x.value.length≤1000000
theorem Zt (f:List Fld) (n:Str):(valsF f n).length≤f.length:=by
 unfold valsF
 first|exact Nat.le_trans (List.length_map ..).le (List.length_filter_le _ _)|(rw [List.length_map];exact List.length_filter_le _ _)|exact List.length_filterMap_le _ _
theorem zlw (a:Str) (n:Int) (l:List Str) (i:Nat) (h: ¬ i<l.length):sizM a n (l.drop i)=(n,0):=by
 rw [jF (by omega)];rfl
theorem zgJ (a:Str) (n:Int) (l:List Str) (i:Nat) (h:i<l.length):sizM a n (l.drop i)=if(numA (l.getD i []) 10 9).2=false then(0,7) else if l.getD i []≠a then(0,12) else sizM a (numA (l.getD i []) 10 9).1 (l.drop (i+1)):=by
 rw [jE h,show l.getD i []=l[i] by simp [h]];rfl
def zav (I:Alg):KU
 |[.v (.agg [.p (.str m),.p (.str t),.p (.int .i64 mi),.p (.list .fld f),.p (.int .i64 le)])],[]=>(fun(m t:Str) (f:List Fld)=>(some (.one ⟨I.hid (FsOk f),(.ret (.tup [.one (.p (.int .i64 (I.hid ((lenM mi f).1)))),.one (.p (.int .i64 (I.hid ((lenM mi f).2))))])),[]⟩):Option CT)) m t f
 |_,_=>none
theorem zlS:zu Tryz.prog 212 (zav alg):=by
 intro args hp r h;unfold zav at h;split at h<;>cases h
 rename_i m t mi f le
 revert f;intro(f:List Fld)
 simp only [CT.Good,zh];intro hneed;obtain⟨hf1,hf2⟩:=hneed;generalize hr:lenM mi f=r;obtain⟨rn,rc⟩:=r
 refine spH Tryz.func212 (by kernel_rfl) { keep:=some [0,1,2,3,4,5,6,7,8,9,10,45,46,47]} [wX,wW,Vo,Vm,rM,rJ] (by kernel_rfl) ?_
 intro I X hI hX
 refine orcL ?_;go_invoke;refine orcS (by kernel_rfl) ?_
 simp only [zi,Nat.reduceAdd]
 have hh: ∀ {α:Type} (x:α),I.hid x=x:=by subst hI;intros;rfl
 have hln: ∀ (l:List Str),I.len l=(l.length:Int):=by subst hI;intros;rfl
 simp only [hh,hln];unfold lenM at hr;rw [show Vt=[116,114,97,110,115,102,101,114,45,101,110,99,111,100,105,110,103] from rfl,show qB=[99,111,110,116,101,110,116,45,108,101,110,103,116,104] from rfl] at hr;have hL1:=Zt f [99,111,110,116,101,110,116,45,108,101,110,103,116,104];have hT1:=Zt f [116,114,97,110,115,102,101,114,45,101,110,99,111,100,105,110,103]
 have hT2: ∀ x ∈ valsF f [116,114,97,110,115,102,101,114,45,101,110,99,111,100,105,110,103],x.length≤1000000:=by
  intro x hx;unfold valsF at hx;rw [List.mem_map] at hx;obtain⟨y,hy,rfl⟩:=hx;exact(hf2 y (List.mem_filter.1 hy).1).2
 generalize valsF f [99,111,110,116,101,110,116,45,108,101,110,103,116,104]=L at *;generalize valsF f [116,114,97,110,115,102,101,114,45,101,110,99,111,100,105,110,103]=T at *
 have keyL: ∀ (k:Int) (st:St),k=(L.length:Int)→(if(sizM (L.getD 0 []) 0 L).2≠0 then(0,(sizM (L.getD 0 []) 0 L).2) else if 4000<(sizM (L.getD 0 []) 0 L).1 then(0,4) else((sizM (L.getD 0 []) 0 L).1,0))=(rn,rc)→cutM { keep:=some [0,1,2,3,4,5,6,7,8,9,10,45,46,47]} 0 [4,6,45,46,47] st=some ⟨[(4,.v (.one (.row 0))),(6,.v (.one (.p (.int .i64 0)))),(45,.v (.one (.row 0))),(46,.v (.one (.p (.int .i64 k)))),(47,.v (.one (.p (.int .i64 0))))],[.row .str 9 L],75,none⟩→Ok Tryz.prog X (fun o h=>o=(.ret (.tup [.one (.p (.int .i64 rn)),.one (.p (.int .i64 rc))]))∧h=[]) (leaf I tab { keep:=some [0,1,2,3,4,5,6,7,8,9,10,45,46,47]} [⟨vI Tryz.f212,finK I tab { keep:=some [0,1,2,3,4,5,6,7,8,9,10,45,46,47]} 0 Tryz.f212⟩] 0 [1,1,1,1,0,1,0] st):=by
  intro k st hk hm hst
  refine lpH hI [wX,wW,Vo,Vm,rM,rJ] hX [4,6,45,46,47] (fun(g:Nat × Int)=>match g with|(i,n)=>i≤L.length∧(if(sizM (L.getD 0 []) n (L.drop i)).2≠0 then(0,(sizM (L.getD 0 []) n (L.drop i)).2) else if 4000<(sizM (L.getD 0 []) n (L.drop i)).1 then(0,4) else((sizM (L.getD 0 []) n (L.drop i)).1,0))=(rn,rc)) (fun(g:Nat × Int)=>match g with|(i,n)=>⟨[(4,.v (.one (.row 0))),(6,.v (.one (.p (.int .i64 n)))),(45,.v (.one (.row 0))),(46,.v (.one (.p (.int .i64 k)))),(47,.v (.one (.p (.int .i64 i))))],[.row .str 9 L],75,none⟩) (fun(g:Nat × Int)=>match g with|(i,n)=>L.length - i) (0,0) (by kernel_rfl) hst ?_ ?_
  · exact⟨jM _,hm⟩
  clear hm hst hr;rintro⟨i,n⟩ ⟨h1,hm⟩ A hA;simp only at hA
  refine orcL ?_;go_invoke;refine orcS (by kernel_rfl) ?_
  simp only [zi,Nat.reduceAdd];subst hI;simp only [nrmA,nrmB]
  by_cases hi:i<L.length
  · rw [zgJ _ _ _ _ hi] at hm
    have h0:i=0→L.getD i []=L.getD 0 []:=fun h=>by rw [h]
    have hn:=vN (L.getD i []);have hgo:=hA (i+1,(numA (L.getD i []) 10 9).1);generalize L.getD i []=x at *;generalize L.getD 0 []=y at *;generalize numA x 10 9=na at *;obtain⟨na,nb⟩:=na;simp only at hm hgo hn
    cases nb with
    | false=>
      rw [if_pos rfl] at hm;simp only [ne_eq,Int.reduceEq,jg,if_true,Prod.mk.injEq] at hm;obtain⟨rfl,rfl⟩:=hm
      (repeat' (first|refine ja ?_ ?_|intro _))<;>first|omega|exact jb|exact jc ‹False›|skip
      all_goals first|omega|rfl|contradiction|(simp_all;done)|trace_state
    | true=>
      simp only [je,if_false] at hm
      by_cases hxy:x=y
      · simp only [if_neg (fun h:x≠y=>h hxy)] at hm
        have hg:=hgo ⟨by omega,hm⟩ (by omega)
        (repeat' (first|refine ja ?_ ?_|intro _))<;>first|omega|exact jb|exact jc ‹False›|skip
        all_goals first|omega|exact hg|contradiction|(exfalso;exact ‹¬ x=y› hxy)|trace_state
      · simp only [if_pos (show x≠y from hxy),ne_eq,Int.reduceEq,jg,if_true,Prod.mk.injEq] at hm
        obtain⟨rfl,rfl⟩:=hm;have hi0: ¬ i=0:=fun h=>hxy (h0 h)
        (repeat' (first|refine ja ?_ ?_|intro _))<;>first|omega|exact jb|exact jc ‹False›|skip
        all_goals first|omega|rfl|contradiction|(exfalso;exact hxy ‹x=y›)|trace_state
  · rw [zlw _ _ _ _ hi] at hm
    simp only [ne_eq,jf,if_false] at hm
    by_cases h4:4000<n
    · rw [if_pos h4] at hm
      simp only [Prod.mk.injEq] at hm;obtain⟨rfl,rfl⟩:=hm
      (repeat' (first|refine ja ?_ ?_|intro _))<;>first|omega|exact jb|exact jc ‹False›|skip
      all_goals first|omega|rfl|trace_state
    · rw [if_neg h4] at hm
      simp only [Prod.mk.injEq] at hm;obtain⟨rfl,rfl⟩:=hm
      (repeat' (first|refine ja ?_ ?_|intro _))<;>first|omega|exact jb|exact jc ‹False›|skip
      all_goals first|omega|rfl|trace_state
 subst hI;have hT0:T.length=0↔T=[]:=List.length_eq_zero_iff;have hLz:L.length=0↔L=[]:=List.length_eq_zero_iff;simp only [nrmA,nrmB]
 have hg0:0<T.length→(T.getD 0 []).length≤1000000:=fun h=>hT2 _ (by rw [show T.getD 0 []=T[0] by simp [h]];exact List.getElem_mem h)
 by_cases q1:T=[]
 · rw [if_neg (fun h=>h q1)] at hr
   have q2:=hT0.2 q1;clear hg0 hT2
   (repeat' (first|refine ja ?_ ?_|intro _))<;>first|omega|exact jb|exact jc ‹False›|skip
   all_goals first
    |omega
    |((with_reducible show Ok _ _ _ _);(try(exfalso;omega));exact keyL _ _ rfl hr (by kernel_rfl))
    |exact⟨hf1,by decide,hf2⟩
    |exact hf1
    |(exact(hf2 _ ‹_›).1)
    |(exact(hf2 _ ‹_›).2)
    |decide
 · rw [if_pos q1] at hr
   have q2: ¬ T.length=0:=fun h=>q1 (hT0.1 h);clear keyL
   by_cases q3:L≠[]∨mi=0
   · rw [if_pos q3] at hr
     simp only [Prod.mk.injEq] at hr;obtain⟨rfl,rfl⟩:=hr
     have q4:L.length=0→mi=0:=fun h=>by
      rcases q3 with q3|q3
      · exact absurd (hLz.1 h) q3
      · exact q3
     (repeat' (first|refine ja ?_ ?_|intro _))<;>first|omega|exact jb|exact jc ‹False›|skip
     all_goals first|omega|rfl|(exact(hf2 _ ‹_›).1)|(exact(hf2 _ ‹_›).2)|decide|trace_state
   · rw [if_neg q3] at hr
     simp only [not_or,ne_eq,Decidable.not_not] at q3;have q4:=hLz.2 q3.1
     by_cases q5:1<T.length∨lowS (T.getD 0 [])≠Tn
     · rw [if_pos q5] at hr
       unfold Tn at q5;simp only [Prod.mk.injEq] at hr;obtain⟨rfl,rfl⟩:=hr
       (repeat' (first|refine ja ?_ ?_|intro _))<;>first|omega|exact jb|exact jc ‹False›|skip
       all_goals first|omega|rfl|(exact(hf2 _ ‹_›).1)|(exact(hf2 _ ‹_›).2)|decide|exact hg0 (by omega)|(exfalso;rcases q5 with q5|q5<;>first|omega|exact q5 ‹_›)|trace_state
     · rw [if_neg q5] at hr
       unfold Tn at q5;simp only [not_or,ne_eq,Decidable.not_not] at q5;simp only [Prod.mk.injEq] at hr;obtain⟨rfl,rfl⟩:=hr
       (repeat' (first|refine ja ?_ ?_|intro _))<;>first|omega|exact jb|exact jc ‹False›|skip
       all_goals first|omega|rfl|(exact(hf2 _ ‹_›).1)|(exact(hf2 _ ‹_›).2)|decide|exact hg0 (by omega)|(exfalso;exact ‹¬ _=_› q5.2)|trace_state
def zlR:Know Tryz.prog:=⟨212,zav,zlS⟩
def zlQ:Know Tryz.prog:=⟨212,fun I=>zx I (zav I),zf zlS⟩
end Go.Proofs.YtkjepecoodjbmaaGreatDoor
namespace Go.Proofs.YtkjepecoodjbmaaGreatDoor
open Go Go.Sep Go.Ab
set_option maxRecDepth 100000
def rqFs (q:Rq):Prop:=FsOk q.h.fields∧q.out.length≤9000000
theorem zqw (ln:Ln) (p:Int) (m tg:Str) (hm:Int) (hf:List Fld) (hl le:Int) (out:List Evt) (hneed:uy ⟨ln,p,⟨m,tg,hm,hf,hl⟩,le,none,true,out⟩∧rqFs ⟨ln,p,⟨m,tg,hm,hf,hl⟩,le,none,true,out⟩):Spc Tryz.prog 172 [.v (.one (.ptr 0 0))] [.abs (.rq ⟨ln,p,⟨m,tg,hm,hf,hl⟩,le,none,true,out⟩)] (.ret (.v (.one (.p (.int .i64 ((yJ ⟨ln,p,⟨m,tg,hm,hf,hl⟩,le,none,true,out⟩).2)))))) [.abs (.rq (((yJ ⟨ln,p,⟨m,tg,hm,hf,hl⟩,le,none,true,out⟩).1)))]:=by
 obtain⟨-,hfs,hfw⟩:=hneed;simp only at hfs hfw;obtain⟨hf1,hf2⟩:=hfs;generalize hr:yJ ⟨ln,p,⟨m,tg,hm,hf,hl⟩,le,none,true,out⟩=r;obtain⟨rq,rc⟩:=r
 have hhl:ZF.length≤1000000:=by decide
 refine spH Tryz.func172 (by kernel_rfl) { cfgQ with fz:=[117],keep:=some [0,2,4,5]} [Xf,Xe,znB,znA,yc,zZ,yw,yu,yC,yB,yI,yH,wL,wK,XM,XL,zlR,zlQ] (by kernel_rfl) ?_
 intro I X hI hX
 refine orcL ?_;go_invoke;refine orcS (by kernel_rfl) ?_
 simp only [zi,Nat.reduceAdd];subst hI;unfold yJ zj5 at hr;simp only at hr;rw [show([104,111,115,116]:Str)=ZF from rfl];simp only [nrmA,nrmB,nrlB,reduceCtorEq,HO.abs.injEq,Gh.rq.injEq,Rq.mk.injEq];have hln:=zjU hm hf;generalize oneF (valsF hf ZF)=oc at *;obtain⟨ov,oc⟩:=oc;simp only at hr ⊢;generalize lenM hm hf=z at *;obtain⟨zn,zc⟩:=z;simp only at hr hln ⊢
 by_cases q1:(decide (oc=9)||decide (oc=10)&&decide (hm=1))=true
 · rw [if_pos q1] at hr
   simp only [Prod.mk.injEq] at hr;obtain⟨rfl,rfl⟩:=hr;simp only [Bool.or_eq_true,jK,decide_eq_true_eq] at q1
   (repeat' (first|refine ja ?_ ?_|intro _))<;>first|omega|exact jb|exact jc ‹False›|skip
   all_goals first|omega|rfl|exact hf1|exact⟨hf1,hf2⟩|(exact(hf2 _ ‹_›).1)|(exact(hf2 _ ‹_›).2)|(unfold zF;simp only;omega)|trace_state
 rw [if_neg q1] at hr;simp only [Bool.or_eq_true,jK,decide_eq_true_eq] at q1
 by_cases q2:zc=0
 · rw [if_neg (fun h=>h q2)] at hr
   by_cases q3:zn=0
   · rw [if_pos q3] at hr
     simp only [Prod.mk.injEq] at hr;obtain⟨rfl,rfl⟩:=hr;subst q3
     (repeat' (first|refine ja ?_ ?_|intro _))<;>first|omega|exact jb|exact jc ‹False›|skip
     all_goals first|omega|rfl|exact hf1|exact⟨hf1,hf2⟩|(exact(hf2 _ ‹_›).1)|(exact(hf2 _ ‹_›).2)|(unfold zF;simp;omega)|trace_state
   rw [if_neg q3] at hr
   by_cases q4:0<zn
   · rw [if_pos q4] at hr
     simp only [Prod.mk.injEq] at hr;obtain⟨rfl,rfl⟩:=hr
     (repeat' (first|refine ja ?_ ?_|intro _))<;>first|omega|exact jb|exact jc ‹False›|skip
     all_goals first|omega|rfl|exact hf1|exact⟨hf1,hf2⟩|(exact(hf2 _ ‹_›).1)|(exact(hf2 _ ‹_›).2)|(unfold zF;simp;omega)|trace_state
   · rw [if_neg q4] at hr
     simp only [Prod.mk.injEq] at hr;obtain⟨rfl,rfl⟩:=hr
     (repeat' (first|refine ja ?_ ?_|intro _))<;>first|omega|exact jb|exact jc ‹False›|skip
     all_goals first|omega|rfl|exact hf1|exact⟨hf1,hf2⟩|(exact(hf2 _ ‹_›).1)|(exact(hf2 _ ‹_›).2)|(unfold zF;simp;omega)|trace_state
 · rw [if_pos q2] at hr
   simp only [Prod.mk.injEq] at hr;obtain⟨rfl,rfl⟩:=hr
   (repeat' (first|refine ja ?_ ?_|intro _))<;>first|omega|exact jb|exact jc ‹False›|skip
   all_goals first|omega|rfl|exact hf1|exact⟨hf1,hf2⟩|(exact(hf2 _ ‹_›).1)|(exact(hf2 _ ‹_›).2)|(unfold zF;simp only;omega)|trace_state
theorem zqx (ln:Ln) (p:Int) (m tg:Str) (hm:Int) (hf:List Fld) (hl le:Int) (out:List Evt) (hneed:uy ⟨ln,p,⟨m,tg,hm,hf,hl⟩,le,none,false,out⟩∧rqFs ⟨ln,p,⟨m,tg,hm,hf,hl⟩,le,none,false,out⟩):Spc Tryz.prog 172 [.v (.one (.ptr 0 0))] [.abs (.rq ⟨ln,p,⟨m,tg,hm,hf,hl⟩,le,none,false,out⟩)] (.ret (.v (.one (.p (.int .i64 ((yJ ⟨ln,p,⟨m,tg,hm,hf,hl⟩,le,none,false,out⟩).2)))))) [.abs (.rq (((yJ ⟨ln,p,⟨m,tg,hm,hf,hl⟩,le,none,false,out⟩).1)))]:=by
 exact absurd hneed.1 (fun h=>by unfold uy at h;cases h)
theorem zqu (ln:Ln) (p:Int) (m tg:Str) (hm:Int) (hf:List Fld) (hl le:Int) (ch:Ch) (out:List Evt) (hneed:uy ⟨ln,p,⟨m,tg,hm,hf,hl⟩,le,some ch,true,out⟩∧rqFs ⟨ln,p,⟨m,tg,hm,hf,hl⟩,le,some ch,true,out⟩):Spc Tryz.prog 172 [.v (.one (.ptr 0 0))] [.abs (.rq ⟨ln,p,⟨m,tg,hm,hf,hl⟩,le,some ch,true,out⟩)] (.ret (.v (.one (.p (.int .i64 ((yJ ⟨ln,p,⟨m,tg,hm,hf,hl⟩,le,some ch,true,out⟩).2)))))) [.abs (.rq (((yJ ⟨ln,p,⟨m,tg,hm,hf,hl⟩,le,some ch,true,out⟩).1)))]:=by
 obtain⟨-,hfs,hfw⟩:=hneed;simp only at hfs hfw;obtain⟨hf1,hf2⟩:=hfs;generalize hr:yJ ⟨ln,p,⟨m,tg,hm,hf,hl⟩,le,some ch,true,out⟩=r;obtain⟨rq,rc⟩:=r
 have hhl:ZF.length≤1000000:=by decide
 refine spH Tryz.func172 (by kernel_rfl) { cfgQ with fz:=[117],keep:=some [0,2,4,5]} [Xf,Xe,znB,znA,yc,zZ,yw,yu,yC,yB,yI,yH,wL,wK,XM,XL,zlR,zlQ] (by kernel_rfl) ?_
 intro I X hI hX
 refine orcL ?_;go_invoke;refine orcS (by kernel_rfl) ?_
 simp only [zi,Nat.reduceAdd];subst hI;unfold yJ zj5 at hr;simp only at hr;rw [show([104,111,115,116]:Str)=ZF from rfl];simp only [nrmA,nrmB,nrlB,reduceCtorEq,HO.abs.injEq,Gh.rq.injEq,Rq.mk.injEq];have hln:=zjU hm hf;generalize oneF (valsF hf ZF)=oc at *;obtain⟨ov,oc⟩:=oc;simp only at hr ⊢;generalize lenM hm hf=z at *;obtain⟨zn,zc⟩:=z;simp only at hr hln ⊢
 by_cases q1:(decide (oc=9)||decide (oc=10)&&decide (hm=1))=true
 · rw [if_pos q1] at hr
   simp only [Prod.mk.injEq] at hr;obtain⟨rfl,rfl⟩:=hr;simp only [Bool.or_eq_true,jK,decide_eq_true_eq] at q1
   (repeat' (first|refine ja ?_ ?_|intro _))<;>first|omega|exact jb|exact jc ‹False›|skip
   all_goals first|omega|rfl|exact hf1|exact⟨hf1,hf2⟩|(exact(hf2 _ ‹_›).1)|(exact(hf2 _ ‹_›).2)|(unfold zF;simp only;omega)|trace_state
 rw [if_neg q1] at hr;simp only [Bool.or_eq_true,jK,decide_eq_true_eq] at q1
 by_cases q2:zc=0
 · rw [if_neg (fun h=>h q2)] at hr
   by_cases q3:zn=0
   · rw [if_pos q3] at hr
     simp only [Prod.mk.injEq] at hr;obtain⟨rfl,rfl⟩:=hr;subst q3
     (repeat' (first|refine ja ?_ ?_|intro _))<;>first|omega|exact jb|exact jc ‹False›|skip
     all_goals first|omega|rfl|exact hf1|exact⟨hf1,hf2⟩|(exact(hf2 _ ‹_›).1)|(exact(hf2 _ ‹_›).2)|(unfold zF;simp;omega)|trace_state
   rw [if_neg q3] at hr
   by_cases q4:0<zn
   · rw [if_pos q4] at hr
     simp only [Prod.mk.injEq] at hr;obtain⟨rfl,rfl⟩:=hr
     (repeat' (first|refine ja ?_ ?_|intro _))<;>first|omega|exact jb|exact jc ‹False›|skip
     all_goals first|omega|rfl|exact hf1|exact⟨hf1,hf2⟩|(exact(hf2 _ ‹_›).1)|(exact(hf2 _ ‹_›).2)|(unfold zF;simp;omega)|trace_state
   · rw [if_neg q4] at hr
     simp only [Prod.mk.injEq] at hr;obtain⟨rfl,rfl⟩:=hr
     (repeat' (first|refine ja ?_ ?_|intro _))<;>first|omega|exact jb|exact jc ‹False›|skip
     all_goals first|omega|rfl|exact hf1|exact⟨hf1,hf2⟩|(exact(hf2 _ ‹_›).1)|(exact(hf2 _ ‹_›).2)|(unfold zF;simp;omega)|trace_state
 · rw [if_pos q2] at hr
   simp only [Prod.mk.injEq] at hr;obtain⟨rfl,rfl⟩:=hr
   (repeat' (first|refine ja ?_ ?_|intro _))<;>first|omega|exact jb|exact jc ‹False›|skip
   all_goals first|omega|rfl|exact hf1|exact⟨hf1,hf2⟩|(exact(hf2 _ ‹_›).1)|(exact(hf2 _ ‹_›).2)|(unfold zF;simp only;omega)|trace_state
theorem zqv (ln:Ln) (p:Int) (m tg:Str) (hm:Int) (hf:List Fld) (hl le:Int) (ch:Ch) (out:List Evt) (hneed:uy ⟨ln,p,⟨m,tg,hm,hf,hl⟩,le,some ch,false,out⟩∧rqFs ⟨ln,p,⟨m,tg,hm,hf,hl⟩,le,some ch,false,out⟩):Spc Tryz.prog 172 [.v (.one (.ptr 0 0))] [.abs (.rq ⟨ln,p,⟨m,tg,hm,hf,hl⟩,le,some ch,false,out⟩)] (.ret (.v (.one (.p (.int .i64 ((yJ ⟨ln,p,⟨m,tg,hm,hf,hl⟩,le,some ch,false,out⟩).2)))))) [.abs (.rq (((yJ ⟨ln,p,⟨m,tg,hm,hf,hl⟩,le,some ch,false,out⟩).1)))]:=by
 exact absurd hneed.1 (fun h=>by unfold uy at h;cases h)
def VZ (I:Alg):KU
 |[.v (.one (.ptr 0 0))],[.abs (.rq q)]=>some (.one ⟨I.hid (uy q∧rqFs q),(.ret (.v (.one (.p (.int .i64 (I.hid ((yJ q).2))))))),[.abs (.rq (I.hid ((yJ q).1)))]⟩)
 |_,_=>none
theorem zgY:zu Tryz.prog 172 (VZ alg):=by
 intro args hp r h;unfold VZ at h;split at h<;>cases h
 rename_i q;simp only [CT.Good,zh];intro hneed;obtain⟨ln,p,⟨m,tg,hm,hf,hl⟩,le,ck,own,out⟩:=q
 cases ck with
 | none=>cases own with
   |true=>exact zqw ln p m tg hm hf hl le out hneed
   |false=>exact zqx ln p m tg hm hf hl le out hneed
 | some ch=>cases own with
   |true=>exact zqu ln p m tg hm hf hl le ch out hneed
   |false=>exact zqv ln p m tg hm hf hl le ch out hneed
def zgX:Know Tryz.prog:=⟨172,VZ,zgY⟩
def zgW:Know Tryz.prog:=⟨172,fun I=>zx I (VZ I),zf zgY⟩
theorem zqi (ln:Ln) (p:Int) (m tg:Str) (hm:Int) (hf:List Fld) (hl le:Int) (out:List Evt) (s:Str) (hneed:uy ⟨ln,p,⟨m,tg,hm,hf,hl⟩,le,none,true,out⟩∧rqFs ⟨ln,p,⟨m,tg,hm,hf,hl⟩,le,none,true,out⟩∧s.length≤1000000):Spc Tryz.prog 122 [.v (.one (.ptr 0 0)),.v (.one (.p (.str s)))] [.abs (.rq ⟨ln,p,⟨m,tg,hm,hf,hl⟩,le,none,true,out⟩)] (.ret (.v (.one (.p (.int .i64 ((zY ⟨ln,p,⟨m,tg,hm,hf,hl⟩,le,none,true,out⟩ s).2)))))) [.abs (.rq (((zY ⟨ln,p,⟨m,tg,hm,hf,hl⟩,le,none,true,out⟩ s).1)))]:=by
 obtain⟨-,hfs,hs⟩:=hneed;have hfs0:=hfs;obtain⟨hfs,hfw⟩:=hfs;simp only at hfs hfw;obtain⟨hf1,hf2⟩:=hfs;generalize hr:zY ⟨ln,p,⟨m,tg,hm,hf,hl⟩,le,none,true,out⟩ s=r;obtain⟨rq,rc⟩:=r
 refine spH Tryz.func122 (by kernel_rfl) { cfgQ with seam:=[],keep:=some [0,1,4,5,6]} [Uc,Ub,zlW,zlV,zgX,zgW] (by kernel_rfl) ?_
 intro I X hI hX
 refine orcL ?_;go_invoke;refine orcS (by kernel_rfl) ?_
 simp only [zi,Nat.reduceAdd];subst hI;unfold zY at hr;simp only at hr;simp only [nrmA,nrmB,nrlB,reduceCtorEq,HO.abs.injEq,Gh.rq.injEq,Rq.mk.injEq];have hdn:(yJ ⟨ln,p,⟨m,tg,hm,hf,hl⟩,le,none,true,out⟩)=yJ ⟨ln,p,⟨m,tg,hm,hf,hl⟩,le,none,true,out⟩:=rfl
 by_cases q1:p=0
 · rw [if_pos q1] at hr
   by_cases q2:s=[]
   · rw [if_pos q2] at hr
     simp only [Prod.mk.injEq] at hr;obtain⟨rfl,rfl⟩:=hr
     (repeat' (first|refine ja ?_ ?_|intro _))<;>first|omega|exact jb|exact jc ‹False›|skip
     all_goals first|omega|rfl|(exfalso;exact ‹¬ s=[]› q2)|trace_state
   rw [if_neg q2] at hr
   have hbg:(rP ⟨ln,p,⟨m,tg,hm,hf,hl⟩,le,none,true,out⟩ s,(begM s).1)=(rq,rc):=by
    rw [← hr];unfold rP
    by_cases c0:(begM s).1=0
    · rw [if_pos c0,if_pos c0,c0]
    · rw [if_neg c0,if_neg c0]
      by_cases c1:(begM s).1=11
      · rw [if_pos c1,if_pos c1,c1]
      · rw [if_neg c1,if_neg c1]
   simp only [Prod.mk.injEq] at hbg
   (repeat' (first|refine ja ?_ ?_|intro _))<;>first|omega|exact jb|exact jc ‹False›|skip
   all_goals first|omega|exact hbg.1|exact hbg.2|exact⟨rfl,hs⟩|rfl|(exfalso;exact q2 ‹s=[]›)|(simp only [uy];done)|exact hs|trace_state
 · rw [if_neg q1] at hr
   by_cases q2:s=[]
   · rw [if_pos q2] at hr
     (repeat' (first|refine ja ?_ ?_|intro _))<;>first|omega|exact jb|exact jc ‹False›|skip
     all_goals first|omega|(rw [hr];done)|(rw [hr])|rfl|exact hfs0|exact hf1|(exact(hf2 _ ‹_›).1)|(exact(hf2 _ ‹_›).2)|(exfalso;exact ‹¬ s=[]› q2)|trace_state
   rw [if_neg q2] at hr
   by_cases q3:hf.length=16
   · rw [if_pos q3] at hr
     simp only [Prod.mk.injEq] at hr;obtain⟨rfl,rfl⟩:=hr
     (repeat' (first|refine ja ?_ ?_|intro _))<;>first|omega|exact jb|exact jc ‹False›|skip
     all_goals first|omega|rfl|(exfalso;exact q2 ‹s=[]›)|trace_state
   · rw [if_neg q3] at hr
     simp only [Prod.mk.injEq] at hr;obtain⟨rfl,rfl⟩:=hr
     (repeat' (first|refine ja ?_ ?_|intro _))<;>first|omega|exact jb|exact jc ‹False›|skip
     all_goals first|omega|rfl|exact hs|(simp only [jh,ji];omega)|(exfalso;exact q2 ‹s=[]›)|trace_state
theorem zqj (ln:Ln) (p:Int) (m tg:Str) (hm:Int) (hf:List Fld) (hl le:Int) (out:List Evt) (s:Str) (hneed:uy ⟨ln,p,⟨m,tg,hm,hf,hl⟩,le,none,false,out⟩∧rqFs ⟨ln,p,⟨m,tg,hm,hf,hl⟩,le,none,false,out⟩∧s.length≤1000000):Spc Tryz.prog 122 [.v (.one (.ptr 0 0)),.v (.one (.p (.str s)))] [.abs (.rq ⟨ln,p,⟨m,tg,hm,hf,hl⟩,le,none,false,out⟩)] (.ret (.v (.one (.p (.int .i64 ((zY ⟨ln,p,⟨m,tg,hm,hf,hl⟩,le,none,false,out⟩ s).2)))))) [.abs (.rq (((zY ⟨ln,p,⟨m,tg,hm,hf,hl⟩,le,none,false,out⟩ s).1)))]:=by
 exact absurd hneed.1 (fun h=>by unfold uy at h;cases h)
theorem zqg (ln:Ln) (p:Int) (m tg:Str) (hm:Int) (hf:List Fld) (hl le:Int) (ch:Ch) (out:List Evt) (s:Str) (hneed:uy ⟨ln,p,⟨m,tg,hm,hf,hl⟩,le,some ch,true,out⟩∧rqFs ⟨ln,p,⟨m,tg,hm,hf,hl⟩,le,some ch,true,out⟩∧s.length≤1000000):Spc Tryz.prog 122 [.v (.one (.ptr 0 0)),.v (.one (.p (.str s)))] [.abs (.rq ⟨ln,p,⟨m,tg,hm,hf,hl⟩,le,some ch,true,out⟩)] (.ret (.v (.one (.p (.int .i64 ((zY ⟨ln,p,⟨m,tg,hm,hf,hl⟩,le,some ch,true,out⟩ s).2)))))) [.abs (.rq (((zY ⟨ln,p,⟨m,tg,hm,hf,hl⟩,le,some ch,true,out⟩ s).1)))]:=by
 obtain⟨-,hfs,hs⟩:=hneed;have hfs0:=hfs;obtain⟨hfs,hfw⟩:=hfs;simp only at hfs hfw;obtain⟨hf1,hf2⟩:=hfs;generalize hr:zY ⟨ln,p,⟨m,tg,hm,hf,hl⟩,le,some ch,true,out⟩ s=r;obtain⟨rq,rc⟩:=r
 refine spH Tryz.func122 (by kernel_rfl) { cfgQ with seam:=[],keep:=some [0,1,4,5,6]} [Uc,Ub,zlW,zlV,zgX,zgW] (by kernel_rfl) ?_
 intro I X hI hX
 refine orcL ?_;go_invoke;refine orcS (by kernel_rfl) ?_
 simp only [zi,Nat.reduceAdd];subst hI;unfold zY at hr;simp only at hr;simp only [nrmA,nrmB,nrlB,reduceCtorEq,HO.abs.injEq,Gh.rq.injEq,Rq.mk.injEq];have hdn:(yJ ⟨ln,p,⟨m,tg,hm,hf,hl⟩,le,some ch,true,out⟩)=yJ ⟨ln,p,⟨m,tg,hm,hf,hl⟩,le,some ch,true,out⟩:=rfl
 by_cases q1:p=0
 · rw [if_pos q1] at hr
   by_cases q2:s=[]
   · rw [if_pos q2] at hr
     simp only [Prod.mk.injEq] at hr;obtain⟨rfl,rfl⟩:=hr
     (repeat' (first|refine ja ?_ ?_|intro _))<;>first|omega|exact jb|exact jc ‹False›|skip
     all_goals first|omega|rfl|(exfalso;exact ‹¬ s=[]› q2)|trace_state
   rw [if_neg q2] at hr
   have hbg:(rP ⟨ln,p,⟨m,tg,hm,hf,hl⟩,le,some ch,true,out⟩ s,(begM s).1)=(rq,rc):=by
    rw [← hr];unfold rP
    by_cases c0:(begM s).1=0
    · rw [if_pos c0,if_pos c0,c0]
    · rw [if_neg c0,if_neg c0]
      by_cases c1:(begM s).1=11
      · rw [if_pos c1,if_pos c1,c1]
      · rw [if_neg c1,if_neg c1]
   simp only [Prod.mk.injEq] at hbg
   (repeat' (first|refine ja ?_ ?_|intro _))<;>first|omega|exact jb|exact jc ‹False›|skip
   all_goals first|omega|exact hbg.1|exact hbg.2|exact⟨rfl,hs⟩|rfl|(exfalso;exact q2 ‹s=[]›)|(simp only [uy];done)|exact hs|trace_state
 · rw [if_neg q1] at hr
   by_cases q2:s=[]
   · rw [if_pos q2] at hr
     (repeat' (first|refine ja ?_ ?_|intro _))<;>first|omega|exact jb|exact jc ‹False›|skip
     all_goals first|omega|(rw [hr];done)|(rw [hr])|rfl|exact hfs0|exact hf1|(exact(hf2 _ ‹_›).1)|(exact(hf2 _ ‹_›).2)|(exfalso;exact ‹¬ s=[]› q2)|trace_state
   rw [if_neg q2] at hr
   by_cases q3:hf.length=16
   · rw [if_pos q3] at hr
     simp only [Prod.mk.injEq] at hr;obtain⟨rfl,rfl⟩:=hr
     (repeat' (first|refine ja ?_ ?_|intro _))<;>first|omega|exact jb|exact jc ‹False›|skip
     all_goals first|omega|rfl|(exfalso;exact q2 ‹s=[]›)|trace_state
   · rw [if_neg q3] at hr
     simp only [Prod.mk.injEq] at hr;obtain⟨rfl,rfl⟩:=hr
     (repeat' (first|refine ja ?_ ?_|intro _))<;>first|omega|exact jb|exact jc ‹False›|skip
     all_goals first|omega|rfl|exact hs|(simp only [jh,ji];omega)|(exfalso;exact q2 ‹s=[]›)|trace_state
theorem zqh (ln:Ln) (p:Int) (m tg:Str) (hm:Int) (hf:List Fld) (hl le:Int) (ch:Ch) (out:List Evt) (s:Str) (hneed:uy ⟨ln,p,⟨m,tg,hm,hf,hl⟩,le,some ch,false,out⟩∧rqFs ⟨ln,p,⟨m,tg,hm,hf,hl⟩,le,some ch,false,out⟩∧s.length≤1000000):Spc Tryz.prog 122 [.v (.one (.ptr 0 0)),.v (.one (.p (.str s)))] [.abs (.rq ⟨ln,p,⟨m,tg,hm,hf,hl⟩,le,some ch,false,out⟩)] (.ret (.v (.one (.p (.int .i64 ((zY ⟨ln,p,⟨m,tg,hm,hf,hl⟩,le,some ch,false,out⟩ s).2)))))) [.abs (.rq (((zY ⟨ln,p,⟨m,tg,hm,hf,hl⟩,le,some ch,false,out⟩ s).1)))]:=by
 exact absurd hneed.1 (fun h=>by unfold uy at h;cases h)
def VS (I:Alg):KU
 |[.v (.one (.ptr 0 0)),.v (.one (.p (.str s)))],[.abs (.rq q)]=>(fun(s:Str)=>(some (.one ⟨I.hid (uy q∧rqFs q∧s.length≤1000000),(.ret (.v (.one (.p (.int .i64 (I.hid ((zY q s).2))))))),[.abs (.rq (I.hid ((zY q s).1)))]⟩):Option CT)) s
 |_,_=>none
theorem zgS:zu Tryz.prog 122 (VS alg):=by
 intro args hp r h;unfold VS at h;split at h<;>cases h
 rename_i s q;simp only [CT.Good,zh];intro hneed;obtain⟨ln,p,⟨m,tg,hm,hf,hl⟩,le,ck,own,out⟩:=q
 cases ck with
 | none=>cases own with
   |true=>exact zqi ln p m tg hm hf hl le out s hneed
   |false=>exact zqj ln p m tg hm hf hl le out s hneed
 | some ch=>cases own with
   |true=>exact zqg ln p m tg hm hf hl le ch out s hneed
   |false=>exact zqh ln p m tg hm hf hl le ch out s hneed
def VR:Know Tryz.prog:=⟨122,VS,zgS⟩
def VQ:Know Tryz.prog:=⟨122,fun I=>zx I (VS I),zf zgS⟩
theorem zz4 (k:Int) (hneed:False):Spc Tryz.prog 119 [.v (.one (.p (.val (.pointer none)))),.v (.one (.p (.int .u8 k)))] [] (.ret (.tup [.one (.p (.list .byte ([]))),.one (.p (.bool false)),.one (.p (.int .i64 0))])) []:=hneed.elim
def zbe (I:Alg):KU
 |[.v (.one (.p (.val (.pointer none)))),.v (.one (.p (.int .u8 k)))],[]=>some (.one ⟨I.hid (False),(.ret (.tup [.one (.p (.list .byte (I.hid ([])))),.one (.p (.bool false)),.one (.p (.int .i64 0))])),[]⟩)
 |_,_=>none
theorem znz:zu Tryz.prog 119 (zbe alg):=by
 intro args hp r h;unfold zbe at h
 split at h
 · cases h;exact fun hn=>zz4 _ hn
 · cases h
def zbd:Know Tryz.prog:=⟨119,zbe,znz⟩
def zbc:Know Tryz.prog:=⟨119,fun I=>zx I (zbe I),zf znz⟩
def rqN (q:Rq):Prop:=∃ i:Nat,i≤1000000∧RqI q i
theorem zdD (q:Rq) (s:Str):(zY q s).1.out.length≤q.out.length+2:=by
 unfold zY yJ qA
 repeat' split
 all_goals(simp only [jk,jh,ji];omega)
theorem zqE (ln:Ln) (p:Int) (m tg:Str) (hm:Int) (hf:List Fld) (hl le:Int) (out:List Evt) (k:Int) (hneed:rqN ⟨ln,p,⟨m,tg,hm,hf,hl⟩,le,none,true,out⟩∧0≤k∧k≤255):Spc Tryz.prog 80 [.v (.one (.ptr 0 0)),.v (.one (.p (.int .u8 k)))] [.abs (.rq ⟨ln,p,⟨m,tg,hm,hf,hl⟩,le,none,true,out⟩)] (.ret (.tup [])) [.abs (.rq ((rqF ⟨ln,p,⟨m,tg,hm,hf,hl⟩,le,none,true,out⟩ (UInt8.ofNat k.toNat))))]:=by
 obtain⟨⟨i,hi,hI0⟩,hk0,hk1⟩:=hneed;obtain⟨g1,g2,g3,g4,g5,g6,g7,g8,g9,g10⟩:=hI0;simp only at g1 g2 g3 g4 g5 g6 g7 g8 g9 g10
 have hfs:FsOk hf:=⟨by omega,fun f hm=>by have:=g6 f hm;omega⟩
 have hll:=Y3 ln (UInt8.ofNat k.toNat);generalize hr:rqF ⟨ln,p,⟨m,tg,hm,hf,hl⟩,le,none,true,out⟩ (UInt8.ofNat k.toNat)=r
 refine spH Tryz.func80 (by kernel_rfl) { cfgQ with fz:=[117],keep:=some [0,1,4,5,6,7,8,9,13,62]} [rY,rX,Ti,Tf,zbd,zbc,yc,zZ,yw,yu,yC,yB,yI,yH,wL,wK,VX,VW,XM,XL,VR,VQ] (by kernel_rfl) ?_
 intro I X hI hX
 refine orcL ?_;go_invoke;refine orcS (by kernel_rfl) ?_
 simp only [zi,Nat.reduceAdd];subst hI;unfold rqF at hr;simp only at hr;simp only [nrmA,nrmB,nrlB,reduceCtorEq,HO.abs.injEq,Gh.rq.injEq,Rq.mk.injEq];generalize UInt8.ofNat k.toNat=c at *;have hz2:lnF ⟨ln.b,ln.cr,ln.code⟩ c=lnF ln c:=rfl;simp only [hz2];clear hz2 g2
 by_cases q1:p=2
 · rw [if_pos q1] at hr
   have h9:=g9 q1
   by_cases q2:le - 1=0
   · rw [if_pos q2] at hr
     subst hr
     have q3:le=1:=by omega
     subst q3
     (repeat' (first|refine ja ?_ ?_|intro _))<;>first|omega|exact jb|exact jc ‹False›|skip
     all_goals first|omega|rfl|(unfold zF;simp;omega)|(unfold zF;simp only;omega)|trace_state
   · rw [if_neg q2] at hr
     subst hr
     (repeat' (first|refine ja ?_ ?_|intro _))<;>first|omega|exact jb|exact jc ‹False›|skip
     all_goals first|omega|rfl|(unfold zF;simp;omega)|(unfold zF;simp only;omega)|trace_state
 rw [if_neg q1] at hr
 by_cases q4:p=3
 · exact absurd rfl (g3 q4)
 rw [if_neg q4] at hr
 by_cases q8:p=0∨p=1
 · rw [if_pos q8] at hr
   have hl: ∀ (l:Ln) (s:Str),zY ⟨⟨l.b,l.cr,l.code⟩,p,⟨m,tg,hm,hf,hl⟩,le,none,true,out⟩ s=zY ⟨l,p,⟨m,tg,hm,hf,hl⟩,le,none,true,out⟩ s:=fun l s=>rfl;simp only [hl];clear hl;generalize lnF ln c=z at *;obtain⟨l2,s,is,e⟩:=z;simp only at hr hll ⊢;have hlo:(zY ⟨l2,p,⟨m,tg,hm,hf,hl⟩,le,none,true,out⟩ s).1.out.length≤out.length+2:=zdD _ _;generalize zY ⟨l2,p,⟨m,tg,hm,hf,hl⟩,le,none,true,out⟩ s=y at *;obtain⟨y,ye⟩:=y;simp only at hr hlo ⊢
   by_cases q5:e=0
   · rw [if_neg (fun h=>h q5)] at hr
     cases is with
     | true=>
       rw [if_pos rfl] at hr
       by_cases q6:ye=0
       · rw [if_neg (fun h=>h q6)] at hr
         subst hr
         (repeat' (first|refine ja ?_ ?_|intro _))<;>first|omega|exact jb|exact jc ‹False›|skip
         all_goals first|omega|rfl|contradiction|exact⟨rfl,⟨hfs,by simp only;omega⟩,by omega⟩|(simp only [uy];done)|exact hfs.1|(exact(hfs.2 _ ‹_›).1)|(exact(hfs.2 _ ‹_›).2)|(unfold zF;omega)|(simp only;omega)|trace_state
       · rw [if_pos q6] at hr
         subst hr
         (repeat' (first|refine ja ?_ ?_|intro _))<;>first|omega|exact jb|exact jc ‹False›|skip
         all_goals first|omega|rfl|contradiction|exact⟨rfl,⟨hfs,by simp only;omega⟩,by omega⟩|(simp only [uy];done)|exact hfs.1|(exact(hfs.2 _ ‹_›).1)|(exact(hfs.2 _ ‹_›).2)|(unfold zF;omega)|(simp only;omega)|trace_state
     | false=>
       rw [if_neg Bool.false_ne_true] at hr;subst hr
       (repeat' (first|refine ja ?_ ?_|intro _))<;>first|omega|exact jb|exact jc ‹False›|skip
       all_goals first|omega|rfl|contradiction|trace_state
   · rw [if_pos q5] at hr
     subst hr
     (repeat' (first|refine ja ?_ ?_|intro _))<;>first|omega|exact jb|exact jc ‹False›|skip
     all_goals first|omega|rfl|contradiction|(unfold zF;simp only;omega)|trace_state
 rw [if_neg q8] at hr;subst hr
 (repeat' (first|refine ja ?_ ?_|intro _))<;>first|omega|exact jb|exact jc ‹False›|skip
 all_goals first|omega|rfl|contradiction|trace_state
theorem zqF (ln:Ln) (p:Int) (m tg:Str) (hm:Int) (hf:List Fld) (hl le:Int) (out:List Evt) (k:Int) (hneed:rqN ⟨ln,p,⟨m,tg,hm,hf,hl⟩,le,none,false,out⟩∧0≤k∧k≤255):Spc Tryz.prog 80 [.v (.one (.ptr 0 0)),.v (.one (.p (.int .u8 k)))] [.abs (.rq ⟨ln,p,⟨m,tg,hm,hf,hl⟩,le,none,false,out⟩)] (.ret (.tup [])) [.abs (.rq ((rqF ⟨ln,p,⟨m,tg,hm,hf,hl⟩,le,none,false,out⟩ (UInt8.ofNat k.toNat))))]:=by
 obtain⟨⟨i,hi,hI0⟩,hk0,hk1⟩:=hneed;obtain⟨g1,g2,g3,g4,g5,g6,g7,g8,g9,g10⟩:=hI0;simp only at g1 g2 g3 g4 g5 g6 g7 g8 g9 g10
 have hfs:FsOk hf:=⟨by omega,fun f hm=>by have:=g6 f hm;omega⟩
 have hll:=Y3 ln (UInt8.ofNat k.toNat);generalize hr:rqF ⟨ln,p,⟨m,tg,hm,hf,hl⟩,le,none,false,out⟩ (UInt8.ofNat k.toNat)=r
 refine spH Tryz.func80 (by kernel_rfl) { cfgQ with fz:=[117],keep:=some [0,1,4,5,6,7,8,9,13,62]} [rY,rX,Ti,Tf,zbd,zbc,yc,zZ,yw,yu,yC,yB,yI,yH,wL,wK,VX,VW,XM,XL,VR,VQ] (by kernel_rfl) ?_
 intro I X hI hX
 refine orcL ?_;go_invoke;refine orcS (by kernel_rfl) ?_
 simp only [zi,Nat.reduceAdd];subst hI;unfold rqF at hr;simp only at hr;simp only [nrmA,nrmB,nrlB,reduceCtorEq,HO.abs.injEq,Gh.rq.injEq,Rq.mk.injEq];generalize UInt8.ofNat k.toNat=c at *;have hz2:lnF ⟨ln.b,ln.cr,ln.code⟩ c=lnF ln c:=rfl;simp only [hz2];clear hz2 g2
 by_cases q1:p=2
 · rw [if_pos q1] at hr
   have h9:=g9 q1
   by_cases q2:le - 1=0
   · rw [if_pos q2] at hr
     subst hr
     have q3:le=1:=by omega
     subst q3
     (repeat' (first|refine ja ?_ ?_|intro _))<;>first|omega|exact jb|exact jc ‹False›|skip
     all_goals first|omega|rfl|(unfold zF;simp;omega)|(unfold zF;simp only;omega)|trace_state
   · rw [if_neg q2] at hr
     subst hr
     (repeat' (first|refine ja ?_ ?_|intro _))<;>first|omega|exact jb|exact jc ‹False›|skip
     all_goals first|omega|rfl|(unfold zF;simp;omega)|(unfold zF;simp only;omega)|trace_state
 rw [if_neg q1] at hr
 by_cases q4:p=3
 · exact absurd rfl (g3 q4)
 rw [if_neg q4] at hr
 by_cases q8:p=0∨p=1
 · exact absurd (g4 q8) (by simp)
 rw [if_neg q8] at hr;subst hr
 (repeat' (first|refine ja ?_ ?_|intro _))<;>first|omega|exact jb|exact jc ‹False›|skip
 all_goals first|omega|rfl|contradiction|trace_state
theorem zqC (ln:Ln) (p:Int) (m tg:Str) (hm:Int) (hf:List Fld) (hl le:Int) (ch:Ch) (out:List Evt) (k:Int) (hneed:rqN ⟨ln,p,⟨m,tg,hm,hf,hl⟩,le,some ch,true,out⟩∧0≤k∧k≤255):Spc Tryz.prog 80 [.v (.one (.ptr 0 0)),.v (.one (.p (.int .u8 k)))] [.abs (.rq ⟨ln,p,⟨m,tg,hm,hf,hl⟩,le,some ch,true,out⟩)] (.ret (.tup [])) [.abs (.rq ((rqF ⟨ln,p,⟨m,tg,hm,hf,hl⟩,le,some ch,true,out⟩ (UInt8.ofNat k.toNat))))]:=by
 obtain⟨⟨i,hi,hI0⟩,hk0,hk1⟩:=hneed;obtain⟨g1,g2,g3,g4,g5,g6,g7,g8,g9,g10⟩:=hI0;simp only at g1 g2 g3 g4 g5 g6 g7 g8 g9 g10
 have hfs:FsOk hf:=⟨by omega,fun f hm=>by have:=g6 f hm;omega⟩
 have hll:=Y3 ln (UInt8.ofNat k.toNat);generalize hr:rqF ⟨ln,p,⟨m,tg,hm,hf,hl⟩,le,some ch,true,out⟩ (UInt8.ofNat k.toNat)=r
 refine spH Tryz.func80 (by kernel_rfl) { cfgQ with fz:=[117],keep:=some [0,1,4,5,6,7,8,9,13,62]} [rY,rX,Ti,Tf,zbd,zbc,yc,zZ,yw,yu,yC,yB,yI,yH,wL,wK,VX,VW,XM,XL,VR,VQ] (by kernel_rfl) ?_
 intro I X hI hX
 refine orcL ?_;go_invoke;refine orcS (by kernel_rfl) ?_
 simp only [zi,Nat.reduceAdd];subst hI;unfold rqF at hr;simp only at hr;simp only [nrmA,nrmB,nrlB,reduceCtorEq,HO.abs.injEq,Gh.rq.injEq,Rq.mk.injEq];generalize UInt8.ofNat k.toNat=c at *;have hni:=znE (g2 ch rfl) hi;have hz:chF ⟨⟨ch.ln.b,ch.ln.cr,ch.ln.code⟩,ch.pos,ch.left,ch.all,ch.tails,ch.code⟩ c=chF ch c:=rfl;have hck:ckOf ⟨ln,p,⟨m,tg,hm,hf,hl⟩,le,some ch,true,out⟩=ch:=rfl;simp only [hz];rw [hck] at hr;clear hz hck;have hz2:lnF ⟨ln.b,ln.cr,ln.code⟩ c=lnF ln c:=rfl;simp only [hz2];clear hz2 g2
 by_cases q1:p=2
 · rw [if_pos q1] at hr
   have h9:=g9 q1
   by_cases q2:le - 1=0
   · rw [if_pos q2] at hr
     subst hr
     have q3:le=1:=by omega
     subst q3
     (repeat' (first|refine ja ?_ ?_|intro _))<;>first|omega|exact jb|exact jc ‹False›|skip
     all_goals first|omega|rfl|(unfold zF;simp;omega)|(unfold zF;simp only;omega)|trace_state
   · rw [if_neg q2] at hr
     subst hr
     (repeat' (first|refine ja ?_ ?_|intro _))<;>first|omega|exact jb|exact jc ‹False›|skip
     all_goals first|omega|rfl|(unfold zF;simp;omega)|(unfold zF;simp only;omega)|trace_state
 rw [if_neg q1] at hr
 by_cases q4:p=3
 · rw [if_pos q4] at hr
   generalize chF ch c=z at *;obtain⟨⟨⟨zb,zc,zo⟩,z1,z2,z3,z4,z5⟩,d,ov,e⟩:=z;simp only at hr ⊢;have hd0:d.length=0↔d=[]:=List.length_eq_zero_iff
   by_cases q5:e=0
   · rw [if_neg (fun h=>h q5)] at hr
     cases ov with
     | true=>
       rw [if_pos rfl] at hr
       by_cases q6:d=[]
       · rw [if_neg (fun h=>h q6)] at hr
         have q7:=hd0.2 q6;subst hr
         (repeat' (first|refine ja ?_ ?_|intro _))<;>first|omega|exact jb|exact jc ‹False›|skip
         all_goals first|omega|rfl|(unfold zF;simp;omega)|(unfold zF;simp only;omega)|contradiction|exact⟨⟨hk0,hk1⟩,hni⟩|trace_state
       · rw [if_pos q6] at hr
         have q7: ¬ d.length=0:=fun h=>q6 (hd0.1 h);subst hr
         (repeat' (first|refine ja ?_ ?_|intro _))<;>first|omega|exact jb|exact jc ‹False›|skip
         all_goals first|omega|rfl|(unfold zF;simp;omega)|(unfold zF;simp only;omega)|contradiction|exact⟨⟨hk0,hk1⟩,hni⟩|trace_state
     | false=>
       rw [if_neg Bool.false_ne_true] at hr
       by_cases q6:d=[]
       · rw [if_neg (fun h=>h q6)] at hr
         have q7:=hd0.2 q6;subst hr
         (repeat' (first|refine ja ?_ ?_|intro _))<;>first|omega|exact jb|exact jc ‹False›|skip
         all_goals first|omega|rfl|(unfold zF;simp;omega)|(unfold zF;simp only;omega)|contradiction|exact⟨⟨hk0,hk1⟩,hni⟩|trace_state
       · rw [if_pos q6] at hr
         have q7: ¬ d.length=0:=fun h=>q6 (hd0.1 h);subst hr
         (repeat' (first|refine ja ?_ ?_|intro _))<;>first|omega|exact jb|exact jc ‹False›|skip
         all_goals first|omega|rfl|(unfold zF;simp;omega)|(unfold zF;simp only;omega)|contradiction|exact⟨⟨hk0,hk1⟩,hni⟩|trace_state
   · rw [if_pos q5] at hr
     subst hr
     (repeat' (first|refine ja ?_ ?_|intro _))<;>first|omega|exact jb|exact jc ‹False›|skip
     all_goals first|omega|rfl|(unfold zF;simp;omega)|(unfold zF;simp only;omega)|contradiction|exact⟨⟨hk0,hk1⟩,hni⟩|trace_state
 rw [if_neg q4] at hr
 by_cases q8:p=0∨p=1
 · rw [if_pos q8] at hr
   have hl: ∀ (l:Ln) (s:Str),zY ⟨⟨l.b,l.cr,l.code⟩,p,⟨m,tg,hm,hf,hl⟩,le,some ch,true,out⟩ s=zY ⟨l,p,⟨m,tg,hm,hf,hl⟩,le,some ch,true,out⟩ s:=fun l s=>rfl;simp only [hl];clear hl;generalize lnF ln c=z at *;obtain⟨l2,s,is,e⟩:=z;simp only at hr hll ⊢;have hlo:(zY ⟨l2,p,⟨m,tg,hm,hf,hl⟩,le,some ch,true,out⟩ s).1.out.length≤out.length+2:=zdD _ _;generalize zY ⟨l2,p,⟨m,tg,hm,hf,hl⟩,le,some ch,true,out⟩ s=y at *;obtain⟨y,ye⟩:=y;simp only at hr hlo ⊢
   by_cases q5:e=0
   · rw [if_neg (fun h=>h q5)] at hr
     cases is with
     | true=>
       rw [if_pos rfl] at hr
       by_cases q6:ye=0
       · rw [if_neg (fun h=>h q6)] at hr
         subst hr
         (repeat' (first|refine ja ?_ ?_|intro _))<;>first|omega|exact jb|exact jc ‹False›|skip
         all_goals first|omega|rfl|contradiction|exact⟨rfl,⟨hfs,by simp only;omega⟩,by omega⟩|(simp only [uy];done)|exact hfs.1|(exact(hfs.2 _ ‹_›).1)|(exact(hfs.2 _ ‹_›).2)|(unfold zF;omega)|(simp only;omega)|trace_state
       · rw [if_pos q6] at hr
         subst hr
         (repeat' (first|refine ja ?_ ?_|intro _))<;>first|omega|exact jb|exact jc ‹False›|skip
         all_goals first|omega|rfl|contradiction|exact⟨rfl,⟨hfs,by simp only;omega⟩,by omega⟩|(simp only [uy];done)|exact hfs.1|(exact(hfs.2 _ ‹_›).1)|(exact(hfs.2 _ ‹_›).2)|(unfold zF;omega)|(simp only;omega)|trace_state
     | false=>
       rw [if_neg Bool.false_ne_true] at hr;subst hr
       (repeat' (first|refine ja ?_ ?_|intro _))<;>first|omega|exact jb|exact jc ‹False›|skip
       all_goals first|omega|rfl|contradiction|trace_state
   · rw [if_pos q5] at hr
     subst hr
     (repeat' (first|refine ja ?_ ?_|intro _))<;>first|omega|exact jb|exact jc ‹False›|skip
     all_goals first|omega|rfl|contradiction|(unfold zF;simp only;omega)|trace_state
 rw [if_neg q8] at hr;subst hr
 (repeat' (first|refine ja ?_ ?_|intro _))<;>first|omega|exact jb|exact jc ‹False›|skip
 all_goals first|omega|rfl|contradiction|trace_state
theorem zqD (ln:Ln) (p:Int) (m tg:Str) (hm:Int) (hf:List Fld) (hl le:Int) (ch:Ch) (out:List Evt) (k:Int) (hneed:rqN ⟨ln,p,⟨m,tg,hm,hf,hl⟩,le,some ch,false,out⟩∧0≤k∧k≤255):Spc Tryz.prog 80 [.v (.one (.ptr 0 0)),.v (.one (.p (.int .u8 k)))] [.abs (.rq ⟨ln,p,⟨m,tg,hm,hf,hl⟩,le,some ch,false,out⟩)] (.ret (.tup [])) [.abs (.rq ((rqF ⟨ln,p,⟨m,tg,hm,hf,hl⟩,le,some ch,false,out⟩ (UInt8.ofNat k.toNat))))]:=by
 obtain⟨⟨i,hi,hI0⟩,hk0,hk1⟩:=hneed;obtain⟨g1,g2,g3,g4,g5,g6,g7,g8,g9,g10⟩:=hI0;simp only at g1 g2 g3 g4 g5 g6 g7 g8 g9 g10
 have hfs:FsOk hf:=⟨by omega,fun f hm=>by have:=g6 f hm;omega⟩
 have hll:=Y3 ln (UInt8.ofNat k.toNat);generalize hr:rqF ⟨ln,p,⟨m,tg,hm,hf,hl⟩,le,some ch,false,out⟩ (UInt8.ofNat k.toNat)=r
 refine spH Tryz.func80 (by kernel_rfl) { cfgQ with fz:=[117],keep:=some [0,1,4,5,6,7,8,9,13,62]} [rY,rX,Ti,Tf,zbd,zbc,yc,zZ,yw,yu,yC,yB,yI,yH,wL,wK,VX,VW,XM,XL,VR,VQ] (by kernel_rfl) ?_
 intro I X hI hX
 refine orcL ?_;go_invoke;refine orcS (by kernel_rfl) ?_
 simp only [zi,Nat.reduceAdd];subst hI;unfold rqF at hr;simp only at hr;simp only [nrmA,nrmB,nrlB,reduceCtorEq,HO.abs.injEq,Gh.rq.injEq,Rq.mk.injEq];generalize UInt8.ofNat k.toNat=c at *;have hni:=znE (g2 ch rfl) hi;have hz:chF ⟨⟨ch.ln.b,ch.ln.cr,ch.ln.code⟩,ch.pos,ch.left,ch.all,ch.tails,ch.code⟩ c=chF ch c:=rfl;have hck:ckOf ⟨ln,p,⟨m,tg,hm,hf,hl⟩,le,some ch,false,out⟩=ch:=rfl;simp only [hz];rw [hck] at hr;clear hz hck;have hz2:lnF ⟨ln.b,ln.cr,ln.code⟩ c=lnF ln c:=rfl;simp only [hz2];clear hz2 g2
 by_cases q1:p=2
 · rw [if_pos q1] at hr
   have h9:=g9 q1
   by_cases q2:le - 1=0
   · rw [if_pos q2] at hr
     subst hr
     have q3:le=1:=by omega
     subst q3
     (repeat' (first|refine ja ?_ ?_|intro _))<;>first|omega|exact jb|exact jc ‹False›|skip
     all_goals first|omega|rfl|(unfold zF;simp;omega)|(unfold zF;simp only;omega)|trace_state
   · rw [if_neg q2] at hr
     subst hr
     (repeat' (first|refine ja ?_ ?_|intro _))<;>first|omega|exact jb|exact jc ‹False›|skip
     all_goals first|omega|rfl|(unfold zF;simp;omega)|(unfold zF;simp only;omega)|trace_state
 rw [if_neg q1] at hr
 by_cases q4:p=3
 · rw [if_pos q4] at hr
   generalize chF ch c=z at *;obtain⟨⟨⟨zb,zc,zo⟩,z1,z2,z3,z4,z5⟩,d,ov,e⟩:=z;simp only at hr ⊢;have hd0:d.length=0↔d=[]:=List.length_eq_zero_iff
   by_cases q5:e=0
   · rw [if_neg (fun h=>h q5)] at hr
     cases ov with
     | true=>
       rw [if_pos rfl] at hr
       by_cases q6:d=[]
       · rw [if_neg (fun h=>h q6)] at hr
         have q7:=hd0.2 q6;subst hr
         (repeat' (first|refine ja ?_ ?_|intro _))<;>first|omega|exact jb|exact jc ‹False›|skip
         all_goals first|omega|rfl|(unfold zF;simp;omega)|(unfold zF;simp only;omega)|contradiction|exact⟨⟨hk0,hk1⟩,hni⟩|trace_state
       · rw [if_pos q6] at hr
         have q7: ¬ d.length=0:=fun h=>q6 (hd0.1 h);subst hr
         (repeat' (first|refine ja ?_ ?_|intro _))<;>first|omega|exact jb|exact jc ‹False›|skip
         all_goals first|omega|rfl|(unfold zF;simp;omega)|(unfold zF;simp only;omega)|contradiction|exact⟨⟨hk0,hk1⟩,hni⟩|trace_state
     | false=>
       rw [if_neg Bool.false_ne_true] at hr
       by_cases q6:d=[]
       · rw [if_neg (fun h=>h q6)] at hr
         have q7:=hd0.2 q6;subst hr
         (repeat' (first|refine ja ?_ ?_|intro _))<;>first|omega|exact jb|exact jc ‹False›|skip
         all_goals first|omega|rfl|(unfold zF;simp;omega)|(unfold zF;simp only;omega)|contradiction|exact⟨⟨hk0,hk1⟩,hni⟩|trace_state
       · rw [if_pos q6] at hr
         have q7: ¬ d.length=0:=fun h=>q6 (hd0.1 h);subst hr
         (repeat' (first|refine ja ?_ ?_|intro _))<;>first|omega|exact jb|exact jc ‹False›|skip
         all_goals first|omega|rfl|(unfold zF;simp;omega)|(unfold zF;simp only;omega)|contradiction|exact⟨⟨hk0,hk1⟩,hni⟩|trace_state
   · rw [if_pos q5] at hr
     subst hr
     (repeat' (first|refine ja ?_ ?_|intro _))<;>first|omega|exact jb|exact jc ‹False›|skip
     all_goals first|omega|rfl|(unfold zF;simp;omega)|(unfold zF;simp only;omega)|contradiction|exact⟨⟨hk0,hk1⟩,hni⟩|trace_state
 rw [if_neg q4] at hr
 by_cases q8:p=0∨p=1
 · exact absurd (g4 q8) (by simp)
 rw [if_neg q8] at hr;subst hr
 (repeat' (first|refine ja ?_ ?_|intro _))<;>first|omega|exact jb|exact jc ‹False›|skip
 all_goals first|omega|rfl|contradiction|trace_state
def V4 (I:Alg):KU
 |[.v (.one (.ptr 0 0)),.v (.one (.p (.int .u8 k)))],[.abs (.rq q)]=>some (.one ⟨I.hid (rqN q∧0≤k∧k≤255),(.ret (.tup [])),[.abs (.rq (I.hid (rqF q (UInt8.ofNat k.toNat))))]⟩)
 |_,_=>none
theorem zg0:zu Tryz.prog 80 (V4 alg):=by
 intro args hp r h;unfold V4 at h;split at h<;>cases h
 rename_i k q;simp only [CT.Good,zh];intro hneed;obtain⟨ln,p,⟨m,tg,hm,hf,hl⟩,le,ck,own,out⟩:=q
 cases ck with
 | none=>cases own with
   |true=>exact zqE ln p m tg hm hf hl le out k hneed
   |false=>exact zqF ln p m tg hm hf hl le out k hneed
 | some ch=>cases own with
   |true=>exact zqC ln p m tg hm hf hl le ch out k hneed
   |false=>exact zqD ln p m tg hm hf hl le ch out k hneed
def uY:Know Tryz.prog:=⟨80,V4,zg0⟩
def uX:Know Tryz.prog:=⟨80,fun I=>zx I (V4 I),zf zg0⟩
end Go.Proofs.YtkjepecoodjbmaaGreatDoor

namespace Go.Proofs.YtkjepecoodjbmaaGreatDoor
open Go Go.Sep Go.Ab
set_option maxRecDepth 100000
theorem zod (q:Rq):zH (yJ q).1.out≤zH q.out:=by
 unfold yJ qA
 repeat' split
 all_goals simp [zH,evH,evE]
theorem zob (q:Rq) (s:Str):zH (zY q s).1.out≤zH q.out:=by
 have hd:=zod q;unfold zY
 repeat' split
 all_goals first|exact hd|exact jL _
theorem zbV (q:Rq) (c:UInt8):zH (rqF q c).out≤zH q.out+1:=by
 have hl:=zob { q with ln:=(lnF q.ln c).1} (lnF q.ln c).2.1
 have hd:=(zvR (s:=ckOf q) (c:=c)).1;unfold rqF
 split
 · split
   · simp only [qA,yA,xk,evB,evE,jh,ji];omega
   · simp only [yA,xk,evB,jh,ji];omega
 split
 · split
   · simp only [vZ,yA,xk,evF,ji];omega
   split
   · simp only [qA,yA,xk,evE,ji]
     split
     · simp only [yA,xk,evB];omega
     · omega
   · show zH (if(chF (ckOf q) c).2.1≠[] then q.out++[evB (chF (ckOf q) c).2.1] else q.out)≤_
     split
     · simp only [yA,xk,evB];omega
     · omega
 split
 · split
   · simp only [vZ,yA,xk,evF,ji];omega
   split
   · split
     · simp only [vZ,yA,xk,evF,ji];simp only at hl;omega
     · simp only at hl;omega
   · exact Nat.le_succ _
 · exact Nat.le_succ _
def rqAt (q:Rq) (b:Str) (n i:Nat):Prop:=RqI (qy { q with out:=[]} (b.take i)) (n+i)∧zH (qy { q with out:=[]} (b.take i)).out≤i
theorem zlY {q:Rq} {n:Nat} (h:RqI { q with out:=[]} n) (b:Str):rqAt q b n 0:=⟨h,by simp [qy,zH]⟩
theorem zfd (q:Rq) (b:Str) {i:Nat} (h:i<b.length):qy q (b.take (i+1))=rqF (qy q (b.take i)) (b.getD i 0):=by
 rw [show b.getD i 0=b[i] by simp [h],jB h]
 unfold qy;rw [List.foldl_append];rfl
def rqN0 (q:Rq) (b:Str):Prop:=∃ n,RqI { q with out:=[]} n∧n+b.length≤1000000
theorem zqn (ln:Ln) (p:Int) (m tg:Str) (hm:Int) (hf:List Fld) (hl le:Int) (out:List Evt) (b:Str) (hneed:rqN0 ⟨ln,p,⟨m,tg,hm,hf,hl⟩,le,none,true,out⟩ b):Spc Tryz.prog 45 [.v (.one (.ptr 0 0)),.v (.one (.p (.list .byte b)))] [.abs (.rq ⟨ln,p,⟨m,tg,hm,hf,hl⟩,le,none,true,out⟩)] (.ret (.v (.one (.row 1)))) [.abs (.rq ((zT ⟨ln,p,⟨m,tg,hm,hf,hl⟩,le,none,true,out⟩ b))),.row .evt 34 ((yO (zT ⟨ln,p,⟨m,tg,hm,hf,hl⟩,le,none,true,out⟩ b).out))]:=by
 obtain⟨n,hI0,hnb⟩:=hneed;have hat:=zlY hI0 b
 refine spH Tryz.func45 (by kernel_rfl) { cfgQ with fz:=[],keep:=some [0,1,4,6,10,11,12]} [uY,uX,xZ,xY] (by kernel_rfl) ?_
 intro I X hI hX
 refine orcL ?_;go_invoke;refine orcS (by kernel_rfl) ?_
 simp only [zi,Nat.reduceAdd]
 have hr:({ (⟨ln,p,⟨m,tg,hm,hf,hl⟩,le,none,true,out⟩:Rq) with out:=[]}:Rq)=(⟨ln,p,⟨m,tg,hm,hf,hl⟩,le,none,true,[]⟩:Rq):=rfl
 unfold rqAt at hat;unfold zT;rw [hr] at hat ⊢
 refine lpH hI [uY,uX,xZ,xY] hX [0,1,10,11,12] (fun(g:Nat × Rq)=>match g with|(i,r)=>i≤b.length∧r=qy (⟨ln,p,⟨m,tg,hm,hf,hl⟩,le,none,true,[]⟩:Rq) (b.take i)∧RqI r (n+i)∧zH r.out≤i) (fun(g:Nat × Rq)=>match g with|(i,r)=>⟨[(0,.v (.one (.ptr 0 0))),(1,.v (.one (.p (.list .byte b)))),(10,.v (.one (.p (.list .byte b)))),(11,.v (.one (.p (.int .i64 ((I.len (α:=UInt8) b)))))),(12,.v (.one (.p (.int .i64 i))))],[.abs (.rq r)],25,none⟩) (fun(g:Nat × Rq)=>match g with|(i,r)=>b.length - i) (0,(⟨ln,p,⟨m,tg,hm,hf,hl⟩,le,none,true,[]⟩:Rq)) (by kernel_rfl) (by kernel_rfl) ?_ ?_
 · exact⟨jM _,rfl,hat.1,hat.2⟩
 rintro⟨i,⟨ln2,p2,⟨m2,t2,hm2,hf2,hl2⟩,le2,ck2,own2,out2⟩⟩ ⟨h1,h2,h3,h4⟩ A hA;simp only at hA h1 h2 h3 h4
 have hrn:i<b.length→rqN _:=fun h=>⟨n+i,by omega,h3⟩
 have hgo:i<b.length→_:=fun h=>hA (i+1,rqF ⟨ln2,p2,⟨m2,t2,hm2,hf2,hl2⟩,le2,ck2,own2,out2⟩ (b.getD i 0)) ⟨by simp only;omega,by simp only;rw [zfd _ _ h,← h2],by simp only;exact zoc h3 _,by simp only;have:=zbV ⟨ln2,p2,⟨m2,t2,hm2,hf2,hl2⟩,le2,ck2,own2,out2⟩ (b.getD i 0);simp only at this;omega⟩ (by simp only;omega)
 have hend: ¬ i<b.length→_:=fun h=>h2.trans (by rw [jq (by omega)])
 rcases ck2 with _|ch2<;>rcases own2 with _|_
 · have h0:=h1
   refine orcL ?_;go_invoke;refine orcS (by kernel_rfl) ?_
   simp only [zi,Nat.reduceAdd];subst hI;simp only [nrmA,nrmB,nrlB,reduceCtorEq,HO.abs.injEq,Gh.rq.injEq,Rq.mk.injEq]
   by_cases hi:i<b.length
   · have hg:=hgo hi
     have hn:=hrn hi
     (repeat' (first|refine ja ?_ ?_|intro _))<;>first|omega|exact jb|exact jc ‹False›|skip
     all_goals first|omega|exact hg|exact hn|contradiction|(have:=(b.getD i 0).toNat_lt;omega)|trace_state
   · have hg:=hend hi
     rw [← hg];have hon:=h3.on;simp only at hon
     (repeat' (first|refine ja ?_ ?_|intro _))<;>first|omega|exact jb|exact jc ‹False›|skip
     all_goals first|omega|rfl|contradiction|exact⟨by omega,by omega⟩|trace_state
 · have h0:=h1
   refine orcL ?_;go_invoke;refine orcS (by kernel_rfl) ?_
   simp only [zi,Nat.reduceAdd];subst hI;simp only [nrmA,nrmB,nrlB,reduceCtorEq,HO.abs.injEq,Gh.rq.injEq,Rq.mk.injEq]
   by_cases hi:i<b.length
   · have hg:=hgo hi
     have hn:=hrn hi
     (repeat' (first|refine ja ?_ ?_|intro _))<;>first|omega|exact jb|exact jc ‹False›|skip
     all_goals first|omega|exact hg|exact hn|contradiction|(have:=(b.getD i 0).toNat_lt;omega)|trace_state
   · have hg:=hend hi
     rw [← hg];have hon:=h3.on;simp only at hon
     (repeat' (first|refine ja ?_ ?_|intro _))<;>first|omega|exact jb|exact jc ‹False›|skip
     all_goals first|omega|rfl|contradiction|exact⟨by omega,by omega⟩|trace_state
 · have h0:=h1
   refine orcL ?_;go_invoke;refine orcS (by kernel_rfl) ?_
   simp only [zi,Nat.reduceAdd];subst hI;simp only [nrmA,nrmB,nrlB,reduceCtorEq,HO.abs.injEq,Gh.rq.injEq,Rq.mk.injEq]
   by_cases hi:i<b.length
   · have hg:=hgo hi
     have hn:=hrn hi
     (repeat' (first|refine ja ?_ ?_|intro _))<;>first|omega|exact jb|exact jc ‹False›|skip
     all_goals first|omega|exact hg|exact hn|contradiction|(have:=(b.getD i 0).toNat_lt;omega)|trace_state
   · have hg:=hend hi
     rw [← hg];have hon:=h3.on;simp only at hon
     (repeat' (first|refine ja ?_ ?_|intro _))<;>first|omega|exact jb|exact jc ‹False›|skip
     all_goals first|omega|rfl|contradiction|exact⟨by omega,by omega⟩|trace_state
 · have h0:=h1
   refine orcL ?_;go_invoke;refine orcS (by kernel_rfl) ?_
   simp only [zi,Nat.reduceAdd];subst hI;simp only [nrmA,nrmB,nrlB,reduceCtorEq,HO.abs.injEq,Gh.rq.injEq,Rq.mk.injEq]
   by_cases hi:i<b.length
   · have hg:=hgo hi
     have hn:=hrn hi
     (repeat' (first|refine ja ?_ ?_|intro _))<;>first|omega|exact jb|exact jc ‹False›|skip
     all_goals first|omega|exact hg|exact hn|contradiction|(have:=(b.getD i 0).toNat_lt;omega)|trace_state
   · have hg:=hend hi
     rw [← hg];have hon:=h3.on;simp only at hon
     (repeat' (first|refine ja ?_ ?_|intro _))<;>first|omega|exact jb|exact jc ‹False›|skip
     all_goals first|omega|rfl|contradiction|exact⟨by omega,by omega⟩|trace_state
theorem zqo (ln:Ln) (p:Int) (m tg:Str) (hm:Int) (hf:List Fld) (hl le:Int) (out:List Evt) (b:Str) (hneed:rqN0 ⟨ln,p,⟨m,tg,hm,hf,hl⟩,le,none,false,out⟩ b):Spc Tryz.prog 45 [.v (.one (.ptr 0 0)),.v (.one (.p (.list .byte b)))] [.abs (.rq ⟨ln,p,⟨m,tg,hm,hf,hl⟩,le,none,false,out⟩)] (.ret (.v (.one (.row 1)))) [.abs (.rq ((zT ⟨ln,p,⟨m,tg,hm,hf,hl⟩,le,none,false,out⟩ b))),.row .evt 34 ((yO (zT ⟨ln,p,⟨m,tg,hm,hf,hl⟩,le,none,false,out⟩ b).out))]:=by
 obtain⟨n,hI0,hnb⟩:=hneed;have hat:=zlY hI0 b
 refine spH Tryz.func45 (by kernel_rfl) { cfgQ with fz:=[],keep:=some [0,1,4,6,10,11,12]} [uY,uX,xZ,xY] (by kernel_rfl) ?_
 intro I X hI hX
 refine orcL ?_;go_invoke;refine orcS (by kernel_rfl) ?_
 simp only [zi,Nat.reduceAdd]
 have hr:({ (⟨ln,p,⟨m,tg,hm,hf,hl⟩,le,none,false,out⟩:Rq) with out:=[]}:Rq)=(⟨ln,p,⟨m,tg,hm,hf,hl⟩,le,none,false,[]⟩:Rq):=rfl
 unfold rqAt at hat;unfold zT;rw [hr] at hat ⊢
 refine lpH hI [uY,uX,xZ,xY] hX [0,1,10,11,12] (fun(g:Nat × Rq)=>match g with|(i,r)=>i≤b.length∧r=qy (⟨ln,p,⟨m,tg,hm,hf,hl⟩,le,none,false,[]⟩:Rq) (b.take i)∧RqI r (n+i)∧zH r.out≤i) (fun(g:Nat × Rq)=>match g with|(i,r)=>⟨[(0,.v (.one (.ptr 0 0))),(1,.v (.one (.p (.list .byte b)))),(10,.v (.one (.p (.list .byte b)))),(11,.v (.one (.p (.int .i64 ((I.len (α:=UInt8) b)))))),(12,.v (.one (.p (.int .i64 i))))],[.abs (.rq r)],25,none⟩) (fun(g:Nat × Rq)=>match g with|(i,r)=>b.length - i) (0,(⟨ln,p,⟨m,tg,hm,hf,hl⟩,le,none,false,[]⟩:Rq)) (by kernel_rfl) (by kernel_rfl) ?_ ?_
 · exact⟨jM _,rfl,hat.1,hat.2⟩
 rintro⟨i,⟨ln2,p2,⟨m2,t2,hm2,hf2,hl2⟩,le2,ck2,own2,out2⟩⟩ ⟨h1,h2,h3,h4⟩ A hA;simp only at hA h1 h2 h3 h4
 have hrn:i<b.length→rqN _:=fun h=>⟨n+i,by omega,h3⟩
 have hgo:i<b.length→_:=fun h=>hA (i+1,rqF ⟨ln2,p2,⟨m2,t2,hm2,hf2,hl2⟩,le2,ck2,own2,out2⟩ (b.getD i 0)) ⟨by simp only;omega,by simp only;rw [zfd _ _ h,← h2],by simp only;exact zoc h3 _,by simp only;have:=zbV ⟨ln2,p2,⟨m2,t2,hm2,hf2,hl2⟩,le2,ck2,own2,out2⟩ (b.getD i 0);simp only at this;omega⟩ (by simp only;omega)
 have hend: ¬ i<b.length→_:=fun h=>h2.trans (by rw [jq (by omega)])
 rcases ck2 with _|ch2<;>rcases own2 with _|_
 · have h0:=h1
   refine orcL ?_;go_invoke;refine orcS (by kernel_rfl) ?_
   simp only [zi,Nat.reduceAdd];subst hI;simp only [nrmA,nrmB,nrlB,reduceCtorEq,HO.abs.injEq,Gh.rq.injEq,Rq.mk.injEq]
   by_cases hi:i<b.length
   · have hg:=hgo hi
     have hn:=hrn hi
     (repeat' (first|refine ja ?_ ?_|intro _))<;>first|omega|exact jb|exact jc ‹False›|skip
     all_goals first|omega|exact hg|exact hn|contradiction|(have:=(b.getD i 0).toNat_lt;omega)|trace_state
   · have hg:=hend hi
     rw [← hg];have hon:=h3.on;simp only at hon
     (repeat' (first|refine ja ?_ ?_|intro _))<;>first|omega|exact jb|exact jc ‹False›|skip
     all_goals first|omega|rfl|contradiction|exact⟨by omega,by omega⟩|trace_state
 · have h0:=h1
   refine orcL ?_;go_invoke;refine orcS (by kernel_rfl) ?_
   simp only [zi,Nat.reduceAdd];subst hI;simp only [nrmA,nrmB,nrlB,reduceCtorEq,HO.abs.injEq,Gh.rq.injEq,Rq.mk.injEq]
   by_cases hi:i<b.length
   · have hg:=hgo hi
     have hn:=hrn hi
     (repeat' (first|refine ja ?_ ?_|intro _))<;>first|omega|exact jb|exact jc ‹False›|skip
     all_goals first|omega|exact hg|exact hn|contradiction|(have:=(b.getD i 0).toNat_lt;omega)|trace_state
   · have hg:=hend hi
     rw [← hg];have hon:=h3.on;simp only at hon
     (repeat' (first|refine ja ?_ ?_|intro _))<;>first|omega|exact jb|exact jc ‹False›|skip
     all_goals first|omega|rfl|contradiction|exact⟨by omega,by omega⟩|trace_state
 · have h0:=h1
   refine orcL ?_;go_invoke;refine orcS (by kernel_rfl) ?_
   simp only [zi,Nat.reduceAdd];subst hI;simp only [nrmA,nrmB,nrlB,reduceCtorEq,HO.abs.injEq,Gh.rq.injEq,Rq.mk.injEq]
   by_cases hi:i<b.length
   · have hg:=hgo hi
     have hn:=hrn hi
     (repeat' (first|refine ja ?_ ?_|intro _))<;>first|omega|exact jb|exact jc ‹False›|skip
     all_goals first|omega|exact hg|exact hn|contradiction|(have:=(b.getD i 0).toNat_lt;omega)|trace_state
   · have hg:=hend hi
     rw [← hg];have hon:=h3.on;simp only at hon
     (repeat' (first|refine ja ?_ ?_|intro _))<;>first|omega|exact jb|exact jc ‹False›|skip
     all_goals first|omega|rfl|contradiction|exact⟨by omega,by omega⟩|trace_state
 · have h0:=h1
   refine orcL ?_;go_invoke;refine orcS (by kernel_rfl) ?_
   simp only [zi,Nat.reduceAdd];subst hI;simp only [nrmA,nrmB,nrlB,reduceCtorEq,HO.abs.injEq,Gh.rq.injEq,Rq.mk.injEq]
   by_cases hi:i<b.length
   · have hg:=hgo hi
     have hn:=hrn hi
     (repeat' (first|refine ja ?_ ?_|intro _))<;>first|omega|exact jb|exact jc ‹False›|skip
     all_goals first|omega|exact hg|exact hn|contradiction|(have:=(b.getD i 0).toNat_lt;omega)|trace_state
   · have hg:=hend hi
     rw [← hg];have hon:=h3.on;simp only at hon
     (repeat' (first|refine ja ?_ ?_|intro _))<;>first|omega|exact jb|exact jc ‹False›|skip
     all_goals first|omega|rfl|contradiction|exact⟨by omega,by omega⟩|trace_state
theorem zql (ln:Ln) (p:Int) (m tg:Str) (hm:Int) (hf:List Fld) (hl le:Int) (ch:Ch) (out:List Evt) (b:Str) (hneed:rqN0 ⟨ln,p,⟨m,tg,hm,hf,hl⟩,le,some ch,true,out⟩ b):Spc Tryz.prog 45 [.v (.one (.ptr 0 0)),.v (.one (.p (.list .byte b)))] [.abs (.rq ⟨ln,p,⟨m,tg,hm,hf,hl⟩,le,some ch,true,out⟩)] (.ret (.v (.one (.row 1)))) [.abs (.rq ((zT ⟨ln,p,⟨m,tg,hm,hf,hl⟩,le,some ch,true,out⟩ b))),.row .evt 34 ((yO (zT ⟨ln,p,⟨m,tg,hm,hf,hl⟩,le,some ch,true,out⟩ b).out))]:=by
 obtain⟨n,hI0,hnb⟩:=hneed;have hat:=zlY hI0 b
 refine spH Tryz.func45 (by kernel_rfl) { cfgQ with fz:=[],keep:=some [0,1,4,6,10,11,12]} [uY,uX,xZ,xY] (by kernel_rfl) ?_
 intro I X hI hX
 refine orcL ?_;go_invoke;refine orcS (by kernel_rfl) ?_
 simp only [zi,Nat.reduceAdd]
 have hr:({ (⟨ln,p,⟨m,tg,hm,hf,hl⟩,le,some ch,true,out⟩:Rq) with out:=[]}:Rq)=(⟨ln,p,⟨m,tg,hm,hf,hl⟩,le,some ch,true,[]⟩:Rq):=rfl
 unfold rqAt at hat;unfold zT;rw [hr] at hat ⊢
 refine lpH hI [uY,uX,xZ,xY] hX [0,1,10,11,12] (fun(g:Nat × Rq)=>match g with|(i,r)=>i≤b.length∧r=qy (⟨ln,p,⟨m,tg,hm,hf,hl⟩,le,some ch,true,[]⟩:Rq) (b.take i)∧RqI r (n+i)∧zH r.out≤i) (fun(g:Nat × Rq)=>match g with|(i,r)=>⟨[(0,.v (.one (.ptr 0 0))),(1,.v (.one (.p (.list .byte b)))),(10,.v (.one (.p (.list .byte b)))),(11,.v (.one (.p (.int .i64 ((I.len (α:=UInt8) b)))))),(12,.v (.one (.p (.int .i64 i))))],[.abs (.rq r)],25,none⟩) (fun(g:Nat × Rq)=>match g with|(i,r)=>b.length - i) (0,(⟨ln,p,⟨m,tg,hm,hf,hl⟩,le,some ch,true,[]⟩:Rq)) (by kernel_rfl) (by kernel_rfl) ?_ ?_
 · exact⟨jM _,rfl,hat.1,hat.2⟩
 rintro⟨i,⟨ln2,p2,⟨m2,t2,hm2,hf2,hl2⟩,le2,ck2,own2,out2⟩⟩ ⟨h1,h2,h3,h4⟩ A hA;simp only at hA h1 h2 h3 h4
 have hrn:i<b.length→rqN _:=fun h=>⟨n+i,by omega,h3⟩
 have hgo:i<b.length→_:=fun h=>hA (i+1,rqF ⟨ln2,p2,⟨m2,t2,hm2,hf2,hl2⟩,le2,ck2,own2,out2⟩ (b.getD i 0)) ⟨by simp only;omega,by simp only;rw [zfd _ _ h,← h2],by simp only;exact zoc h3 _,by simp only;have:=zbV ⟨ln2,p2,⟨m2,t2,hm2,hf2,hl2⟩,le2,ck2,own2,out2⟩ (b.getD i 0);simp only at this;omega⟩ (by simp only;omega)
 have hend: ¬ i<b.length→_:=fun h=>h2.trans (by rw [jq (by omega)])
 rcases ck2 with _|ch2<;>rcases own2 with _|_
 · have h0:=h1
   refine orcL ?_;go_invoke;refine orcS (by kernel_rfl) ?_
   simp only [zi,Nat.reduceAdd];subst hI;simp only [nrmA,nrmB,nrlB,reduceCtorEq,HO.abs.injEq,Gh.rq.injEq,Rq.mk.injEq]
   by_cases hi:i<b.length
   · have hg:=hgo hi
     have hn:=hrn hi
     (repeat' (first|refine ja ?_ ?_|intro _))<;>first|omega|exact jb|exact jc ‹False›|skip
     all_goals first|omega|exact hg|exact hn|contradiction|(have:=(b.getD i 0).toNat_lt;omega)|trace_state
   · have hg:=hend hi
     rw [← hg];have hon:=h3.on;simp only at hon
     (repeat' (first|refine ja ?_ ?_|intro _))<;>first|omega|exact jb|exact jc ‹False›|skip
     all_goals first|omega|rfl|contradiction|exact⟨by omega,by omega⟩|trace_state
 · have h0:=h1
   refine orcL ?_;go_invoke;refine orcS (by kernel_rfl) ?_
   simp only [zi,Nat.reduceAdd];subst hI;simp only [nrmA,nrmB,nrlB,reduceCtorEq,HO.abs.injEq,Gh.rq.injEq,Rq.mk.injEq]
   by_cases hi:i<b.length
   · have hg:=hgo hi
     have hn:=hrn hi
     (repeat' (first|refine ja ?_ ?_|intro _))<;>first|omega|exact jb|exact jc ‹False›|skip
     all_goals first|omega|exact hg|exact hn|contradiction|(have:=(b.getD i 0).toNat_lt;omega)|trace_state
   · have hg:=hend hi
     rw [← hg];have hon:=h3.on;simp only at hon
     (repeat' (first|refine ja ?_ ?_|intro _))<;>first|omega|exact jb|exact jc ‹False›|skip
     all_goals first|omega|rfl|contradiction|exact⟨by omega,by omega⟩|trace_state
 · have h0:=h1
   refine orcL ?_;go_invoke;refine orcS (by kernel_rfl) ?_
   simp only [zi,Nat.reduceAdd];subst hI;simp only [nrmA,nrmB,nrlB,reduceCtorEq,HO.abs.injEq,Gh.rq.injEq,Rq.mk.injEq]
   by_cases hi:i<b.length
   · have hg:=hgo hi
     have hn:=hrn hi
     (repeat' (first|refine ja ?_ ?_|intro _))<;>first|omega|exact jb|exact jc ‹False›|skip
     all_goals first|omega|exact hg|exact hn|contradiction|(have:=(b.getD i 0).toNat_lt;omega)|trace_state
   · have hg:=hend hi
     rw [← hg];have hon:=h3.on;simp only at hon
     (repeat' (first|refine ja ?_ ?_|intro _))<;>first|omega|exact jb|exact jc ‹False›|skip
     all_goals first|omega|rfl|contradiction|exact⟨by omega,by omega⟩|trace_state
 · have h0:=h1
   refine orcL ?_;go_invoke;refine orcS (by kernel_rfl) ?_
   simp only [zi,Nat.reduceAdd];subst hI;simp only [nrmA,nrmB,nrlB,reduceCtorEq,HO.abs.injEq,Gh.rq.injEq,Rq.mk.injEq]
   by_cases hi:i<b.length
   · have hg:=hgo hi
     have hn:=hrn hi
     (repeat' (first|refine ja ?_ ?_|intro _))<;>first|omega|exact jb|exact jc ‹False›|skip
     all_goals first|omega|exact hg|exact hn|contradiction|(have:=(b.getD i 0).toNat_lt;omega)|trace_state
   · have hg:=hend hi
     rw [← hg];have hon:=h3.on;simp only at hon
     (repeat' (first|refine ja ?_ ?_|intro _))<;>first|omega|exact jb|exact jc ‹False›|skip
     all_goals first|omega|rfl|contradiction|exact⟨by omega,by omega⟩|trace_state
theorem zqm (ln:Ln) (p:Int) (m tg:Str) (hm:Int) (hf:List Fld) (hl le:Int) (ch:Ch) (out:List Evt) (b:Str) (hneed:rqN0 ⟨ln,p,⟨m,tg,hm,hf,hl⟩,le,some ch,false,out⟩ b):Spc Tryz.prog 45 [.v (.one (.ptr 0 0)),.v (.one (.p (.list .byte b)))] [.abs (.rq ⟨ln,p,⟨m,tg,hm,hf,hl⟩,le,some ch,false,out⟩)] (.ret (.v (.one (.row 1)))) [.abs (.rq ((zT ⟨ln,p,⟨m,tg,hm,hf,hl⟩,le,some ch,false,out⟩ b))),.row .evt 34 ((yO (zT ⟨ln,p,⟨m,tg,hm,hf,hl⟩,le,some ch,false,out⟩ b).out))]:=by
 obtain⟨n,hI0,hnb⟩:=hneed;have hat:=zlY hI0 b
 refine spH Tryz.func45 (by kernel_rfl) { cfgQ with fz:=[],keep:=some [0,1,4,6,10,11,12]} [uY,uX,xZ,xY] (by kernel_rfl) ?_
 intro I X hI hX
 refine orcL ?_;go_invoke;refine orcS (by kernel_rfl) ?_
 simp only [zi,Nat.reduceAdd]
 have hr:({ (⟨ln,p,⟨m,tg,hm,hf,hl⟩,le,some ch,false,out⟩:Rq) with out:=[]}:Rq)=(⟨ln,p,⟨m,tg,hm,hf,hl⟩,le,some ch,false,[]⟩:Rq):=rfl
 unfold rqAt at hat;unfold zT;rw [hr] at hat ⊢
 refine lpH hI [uY,uX,xZ,xY] hX [0,1,10,11,12] (fun(g:Nat × Rq)=>match g with|(i,r)=>i≤b.length∧r=qy (⟨ln,p,⟨m,tg,hm,hf,hl⟩,le,some ch,false,[]⟩:Rq) (b.take i)∧RqI r (n+i)∧zH r.out≤i) (fun(g:Nat × Rq)=>match g with|(i,r)=>⟨[(0,.v (.one (.ptr 0 0))),(1,.v (.one (.p (.list .byte b)))),(10,.v (.one (.p (.list .byte b)))),(11,.v (.one (.p (.int .i64 ((I.len (α:=UInt8) b)))))),(12,.v (.one (.p (.int .i64 i))))],[.abs (.rq r)],25,none⟩) (fun(g:Nat × Rq)=>match g with|(i,r)=>b.length - i) (0,(⟨ln,p,⟨m,tg,hm,hf,hl⟩,le,some ch,false,[]⟩:Rq)) (by kernel_rfl) (by kernel_rfl) ?_ ?_
 · exact⟨jM _,rfl,hat.1,hat.2⟩
 rintro⟨i,⟨ln2,p2,⟨m2,t2,hm2,hf2,hl2⟩,le2,ck2,own2,out2⟩⟩ ⟨h1,h2,h3,h4⟩ A hA;simp only at hA h1 h2 h3 h4
 have hrn:i<b.length→rqN _:=fun h=>⟨n+i,by omega,h3⟩
 have hgo:i<b.length→_:=fun h=>hA (i+1,rqF ⟨ln2,p2,⟨m2,t2,hm2,hf2,hl2⟩,le2,ck2,own2,out2⟩ (b.getD i 0)) ⟨by simp only;omega,by simp only;rw [zfd _ _ h,← h2],by simp only;exact zoc h3 _,by simp only;have:=zbV ⟨ln2,p2,⟨m2,t2,hm2,hf2,hl2⟩,le2,ck2,own2,out2⟩ (b.getD i 0);simp only at this;omega⟩ (by simp only;omega)
 have hend: ¬ i<b.length→_:=fun h=>h2.trans (by rw [jq (by omega)])
 rcases ck2 with _|ch2<;>rcases own2 with _|_
 · have h0:=h1
   refine orcL ?_;go_invoke;refine orcS (by kernel_rfl) ?_
   simp only [zi,Nat.reduceAdd];subst hI;simp only [nrmA,nrmB,nrlB,reduceCtorEq,HO.abs.injEq,Gh.rq.injEq,Rq.mk.injEq]
   by_cases hi:i<b.length
   · have hg:=hgo hi
     have hn:=hrn hi
     (repeat' (first|refine ja ?_ ?_|intro _))<;>first|omega|exact jb|exact jc ‹False›|skip
     all_goals first|omega|exact hg|exact hn|contradiction|(have:=(b.getD i 0).toNat_lt;omega)|trace_state
   · have hg:=hend hi
     rw [← hg];have hon:=h3.on;simp only at hon
     (repeat' (first|refine ja ?_ ?_|intro _))<;>first|omega|exact jb|exact jc ‹False›|skip
     all_goals first|omega|rfl|contradiction|exact⟨by omega,by omega⟩|trace_state
 · have h0:=h1
   refine orcL ?_;go_invoke;refine orcS (by kernel_rfl) ?_
   simp only [zi,Nat.reduceAdd];subst hI;simp only [nrmA,nrmB,nrlB,reduceCtorEq,HO.abs.injEq,Gh.rq.injEq,Rq.mk.injEq]
   by_cases hi:i<b.length
   · have hg:=hgo hi
     have hn:=hrn hi
     (repeat' (first|refine ja ?_ ?_|intro _))<;>first|omega|exact jb|exact jc ‹False›|skip
     all_goals first|omega|exact hg|exact hn|contradiction|(have:=(b.getD i 0).toNat_lt;omega)|trace_state
   · have hg:=hend hi
     rw [← hg];have hon:=h3.on;simp only at hon
     (repeat' (first|refine ja ?_ ?_|intro _))<;>first|omega|exact jb|exact jc ‹False›|skip
     all_goals first|omega|rfl|contradiction|exact⟨by omega,by omega⟩|trace_state
 · have h0:=h1
   refine orcL ?_;go_invoke;refine orcS (by kernel_rfl) ?_
   simp only [zi,Nat.reduceAdd];subst hI;simp only [nrmA,nrmB,nrlB,reduceCtorEq,HO.abs.injEq,Gh.rq.injEq,Rq.mk.injEq]
   by_cases hi:i<b.length
   · have hg:=hgo hi
     have hn:=hrn hi
     (repeat' (first|refine ja ?_ ?_|intro _))<;>first|omega|exact jb|exact jc ‹False›|skip
     all_goals first|omega|exact hg|exact hn|contradiction|(have:=(b.getD i 0).toNat_lt;omega)|trace_state
   · have hg:=hend hi
     rw [← hg];have hon:=h3.on;simp only at hon
     (repeat' (first|refine ja ?_ ?_|intro _))<;>first|omega|exact jb|exact jc ‹False›|skip
     all_goals first|omega|rfl|contradiction|exact⟨by omega,by omega⟩|trace_state
 · have h0:=h1
   refine orcL ?_;go_invoke;refine orcS (by kernel_rfl) ?_
   simp only [zi,Nat.reduceAdd];subst hI;simp only [nrmA,nrmB,nrlB,reduceCtorEq,HO.abs.injEq,Gh.rq.injEq,Rq.mk.injEq]
   by_cases hi:i<b.length
   · have hg:=hgo hi
     have hn:=hrn hi
     (repeat' (first|refine ja ?_ ?_|intro _))<;>first|omega|exact jb|exact jc ‹False›|skip
     all_goals first|omega|exact hg|exact hn|contradiction|(have:=(b.getD i 0).toNat_lt;omega)|trace_state
   · have hg:=hend hi
     rw [← hg];have hon:=h3.on;simp only at hon
     (repeat' (first|refine ja ?_ ?_|intro _))<;>first|omega|exact jb|exact jc ‹False›|skip
     all_goals first|omega|rfl|contradiction|exact⟨by omega,by omega⟩|trace_state
def VU (I:Alg):KU
 |[.v (.one (.ptr 0 0)),.v (.one (.p (.list .byte b)))],[.abs (.rq q)]=>(fun(b:Str)=>(some (.one ⟨I.hid (rqN0 q b),(.ret (.v (.one (.row 1)))),[.abs (.rq (I.hid (zT q b))),.row .evt 34 (I.hid (yO (zT q b).out))]⟩):Option CT)) b
 |_,_=>none
theorem zgU:zu Tryz.prog 45 (VU alg):=by
 intro args hp r h;unfold VU at h;split at h<;>cases h
 rename_i b q;simp only [CT.Good,zh];intro hneed;obtain⟨ln,p,⟨m,tg,hm,hf,hl⟩,le,ck,own,out⟩:=q
 cases ck with
 | none=>cases own with
   |true=>exact zqn ln p m tg hm hf hl le out b hneed
   |false=>exact zqo ln p m tg hm hf hl le out b hneed
 | some ch=>cases own with
   |true=>exact zql ln p m tg hm hf hl le ch out b hneed
   |false=>exact zqm ln p m tg hm hf hl le ch out b hneed
def zbU:Know Tryz.prog:=⟨45,VU,zgU⟩
def zbT:Know Tryz.prog:=⟨45,fun I=>zx I (VU I),zf zgU⟩
end Go.Proofs.YtkjepecoodjbmaaGreatDoor
namespace Go.Proofs.YtkjepecoodjbmaaGreatDoor
open Go Go.Sep Go.Ab
set_option maxRecDepth 100000
def EvO (l:List Evt):Prop:=∀ e ∈ l,FsOk e.head.fields
theorem Rx {a b:List Evt} (h:EvO a) (k:EvO b):EvO (a++b):=fun e m=>(List.mem_append.1 m).elim (h e) (k e)
theorem zaY:FsOk []:=⟨by decide,fun f h=>by cases h⟩
theorem zcR {e:Evt} (h:FsOk e.head.fields):EvO [e]:=fun x m=>by rw [List.mem_singleton.1 m];exact h
theorem zsz {o:List Evt} {e:Evt} (h:EvO (o++[e])):EvO (tu o e):=by
 rcases List.eq_nil_or_concat o with rfl|⟨z,x,rfl⟩
 · exact h
 · rw [List.concat_eq_append] at h ⊢
   rw [xI]
   split
   · exact Rx (fun y m=>h y (by simp [m])) (zcR zaY)
   · exact h
theorem zni: ∀ (l o:List Evt),EvO (o++l)→EvO (l.foldl tu o)
 |[],o,h=>by rw [List.append_nil] at h;exact h
 | e::l,o,h=>by
   rw [List.foldl_cons];refine zni l _ ?_
   rw [show o++e::l=(o++[e])++l by simp] at h
   exact Rx (zsz fun y m=>h y (List.mem_append_left _ m)) (fun y m=>h y (List.mem_append_right _ m))
theorem zun {q:Rq} (h:EvO q.out) (k:FsOk q.h.fields):EvO (yJ q).1.out:=by
 unfold yJ qA
 repeat' split
 all_goals first
  |exact h
  |exact Rx (Rx h (zcR k)) (zcR zaY)
  |exact Rx h (zcR k)
theorem zuh {q:Rq} (h:EvO q.out) (k:FsOk q.h.fields) (s:Str):EvO (zY q s).1.out:=by
 have hd:=zun h k;unfold zY
 repeat' split
 all_goals first|exact hd|exact h
theorem zAs {q:Rq} (h:EvO q.out) (k:FsOk q.h.fields) (c:UInt8):EvO (rqF q c).out:=by
 have hl:=zuh (q:= { q with ln:=(lnF q.ln c).1}) h k (lnF q.ln c).2.1
 have h1: ∀ (o:List Evt) (e:Evt),EvO o→e.head=hd0→EvO (o++[e]):=fun o e a b=>Rx a (zcR (by rw [b];exact zaY))
 have hd:EvO (if(chF (ckOf q) c).2.1≠[] then q.out++[evB (chF (ckOf q) c).2.1] else q.out):=by
  split
  · exact h1 _ _ h rfl
  · exact h
 unfold rqF
 split
 · split
   · exact h1 _ _ (h1 _ _ h rfl) rfl
   · exact h1 _ _ h rfl
 split
 · split
   · exact h1 _ _ h rfl
   split
   · exact h1 _ _ hd rfl
   · exact hd
 split
 · split
   · exact h1 _ _ h rfl
   split
   · split
     · exact h1 _ _ hl rfl
     · exact hl
   · exact h
 · exact h
theorem zqe: ∀ (b:Str) (q:Rq) (i:Nat),RqI q i→i+b.length≤1000000→EvO q.out→EvO (qy q b).out
 |[],q,i,_,_,h=>h
 | c::b,q,i,hi,hb,h=>by
   rw [jh] at hb
   exact zqe b _ (i+1) (zoc hi c) (by omega) (zAs h ⟨by have:=hi.fl;omega,fun f m=>by have:=hi.ff f m;omega⟩ c)
end Go.Proofs.YtkjepecoodjbmaaGreatDoor
namespace Go.Proofs.YtkjepecoodjbmaaGreatDoor
open Go Go.Sep Go.Ab
set_option maxRecDepth 100000
theorem zjH: ∀ (b:Str) (q:Rq) (i:Nat),RqI q i→RqI (qy q b) (i+b.length)
 |[],q,i,h=>h
 | c::b,q,i,h=>by
   have:=zjH b _ _ (zoc h c)
   rw [jh,show i+(b.length+1)=i+1+b.length by omega];exact this
theorem zgR: ∀ (b:Str) (q:Rq),zH (qy q b).out≤zH q.out+b.length
 |[],q=>jL _
 | c::b,q=>by
   have h1:=zgR b (rqF q c);have h2:=zbV q c;rw [jh];have:qy q (c::b)=qy (rqF q c) b:=rfl;rw [this];omega
end Go.Proofs.YtkjepecoodjbmaaGreatDoor
namespace Go.Proofs.YtkjepecoodjbmaaGreatDoor
open Go Go.Sep Go.Ab
set_option maxRecDepth 100000
end Go.Proofs.YtkjepecoodjbmaaGreatDoor
namespace Go.Proofs.YtkjepecoodjbmaaGreatDoor
open Go Go.Sep Go.Ab
set_option maxRecDepth 100000
end Go.Proofs.YtkjepecoodjbmaaGreatDoor
namespace Go.Proofs.YtkjepecoodjbmaaGreatDoor
open Go Go.Sep Go.Ab
set_option maxRecDepth 100000
end Go.Proofs.YtkjepecoodjbmaaGreatDoor
namespace Go.Proofs.YtkjepecoodjbmaaGreatDoor
open Go Go.Sep Go.Ab
def SOk (q:Sto) (m:Int):Prop:=zL q.l q.n∧q.b.length≤100000∧q.n≤m∧0≤q.s∧q.s≤q.b.length
theorem xg {q:Sto} {m m':Int} (h:SOk q m) (k:m≤m'):SOk q m':=⟨h.1,h.2.1,by have:=h.2.2.1;omega,h.2.2.2⟩
theorem zwV (l:List Upl) (n:Int) (b:Str) (e:Ent):b.length≤(wrtB l n b e).length:=by unfold wrtB;split<;>simp
theorem zgF {q:Sto} {m:Int} (h:SOk q m) (e:Ent):SOk (wsS q e) (m+1):=by
 obtain⟨h1,h2,h3,h4,h5⟩:=h;have:=zwq q e;have hb:=zwV q.l q.n q.b e
 exact⟨zbk h1 _ _,ZJ _ h2,by omega,h4,by show q.s≤((wrtB q.l q.n q.b e).length:Int);omega⟩
theorem YN {q:Sto} {m:Int} (h:SOk q m) {e:Ent} (he:e.kind≠1):SOk (wsS q e) m:=by
 have h1:=zgF h e;have:(wsS q e).n=q.n:=Zq he
 exact⟨h1.1,h1.2.1,by rw [this];exact h.2.2.1,h1.2.2.2⟩
theorem RX {q:Sto} {m:Int} (h:SOk q m):SOk (syS q) m:=⟨h.1,h.2.1,h.2.2.1,Int.natCast_nonneg _,Int.le_refl _⟩
theorem zlq {m:Int} {c:Prop} [Decidable c] {a b:TA} (ha:SOk a.q m) (hb:SOk b.q m):SOk (if c then a else b).q m:=by split<;>assumption
theorem zgG {q:Sto} {k:Int} (h:SOk q k) (m t:Str) (f:List Fld) (body:Str):SOk (yG q m t f body).q (k+1):=by
 have h0:SOk q (k+1):=xg h (by omega)
 have hc:SOk (xM q f).q (k+1):=by
  unfold xM
  repeat' with_reducible refine zlq ?_ ?_
  all_goals first|exact h0|exact RX (zgF h _)
 have hd: ∀ u,SOk (U4 q u).q (k+1):=fun u=>by
  unfold U4
  exact zlq h0 (RX (YN h0 (by simp)))
 have hp: ∀ u,SOk (vw q u f body).q (k+1):=fun u=>by
  unfold vw
  have h1:SOk (wsS q (apE u.id body)) (k+1):=YN h0 (by simp [apE])
  have h2: ∀ z,SOk (wsS (wsS q (apE u.id body)) ⟨3,u.id,z,[]⟩) (k+1):=fun z=>YN h1 (by simp)
  repeat' with_reducible refine zlq ?_ ?_
  all_goals first|exact h0|exact h1|exact RX h1|exact RX (h2 _)|exact h2 _
 unfold yG
 repeat' with_reducible refine zlq ?_ ?_
 all_goals first|exact h0|exact hc|exact hd _|exact hp _
theorem zls {q:Sto} {m:Int} (h:SOk q m) (p:Prt):SOk (sU q p) (m+1):=by
 have hap: ∀ {x:Sto} {k:Int},SOk x k→SOk (apQ x (q.n+1) 0 p.bytes) k:=fun h=>by
  unfold apQ
  split
  · exact h
  · exact YN h (show(2:Int)≠1 by decide)
 unfold sU
 split
 · exact zgF h _
 · split
   · exact YN (hap (zgF h _)) (show(4:Int)≠1 by decide)
   · exact hap (zgF h _)
theorem zgH: ∀ (ids:List Int) {q:Sto} {m:Int},SOk q m→SOk (WR q ids) m
 |[],_,_,h=>h
 |k::r,_,_,h=>zgH r (YN h (show(4:Int)≠1 by decide))
theorem zbJ: ∀ (ps:List Prt) {q:Sto} {m:Int} (ids:List Int) (t:Str),SOk q m→SOk (um q ids t ps).q (m+ps.length)
 |[],q,m,ids,t,h=>xg (RX h) (by simp)
 | p ::r,q,m,ids,t,h=>by
   unfold um
   split
   · exact xg (zbJ r ids t h) (by simp;omega)
   · split
     · exact xg (RX (zgH ids (zls h p))) (by simp;omega)
     · exact xg (zbJ r _ _ (zls h p)) (by simp;omega)
theorem zxa {q:Sto} {k:Int} (h:SOk q k) (m t:Str) (f:List Fld) (body:Str):SOk (ansG q m t f body).q (k+12):=by
 have h0:SOk q (k+12):=xg h (by omega)
 have hp:=(YZ f body).1;unfold ansG
 split
 · exact xg (zgG h m t f body) (by omega)
 · split
   · exact h0
   · split
     · exact h0
     · unfold WG
       split
       · exact h0
       · split
         · exact h0
         · exact xg (zbJ _ _ _ h) (by omega)
def k3 (e:Evt):Bool:=decide (e.kind=3)
def cnt3 (l:List Evt):Nat:=(l.filter k3).length
theorem Yl (a b:List Evt):cnt3 (a++b)=cnt3 a+cnt3 b:=by unfold cnt3;simp
theorem U0 (x:GE) (a b:List Evt):evsG x (a++b)=evsG (evsG x a) b:=List.foldl_append
def EOk (x:GE) (m:Int) (k:Nat):Prop:=SOk x.q m∧FsOk x.h.fields∧x.b.length≤k
theorem zwK {x:GE} {m:Int} {k:Nat} (h:EOk x m k) {e:Evt} (he:FsOk e.head.fields):EOk (evG x e) (m+12 * cnt3 [e]) (k+e.bytes.length):=by
 obtain⟨h1,h2,h3⟩:=h
 have hm:SOk x.q (m+12 * cnt3 [e]):=xg h1 (by omega)
 unfold evG
 split
 · exact⟨hm,he,jM _⟩
 · split
   · exact⟨hm,h2,by simp only [jk];omega⟩
   · split
     · rename_i hk
       have:cnt3 [e]=1:=by simp [cnt3,k3,hk]
       rw [this]
       exact⟨zxa h1 _ _ _ _,h2,by simp only;omega⟩
     · split
       · exact⟨hm,h2,by simp only;omega⟩
       · exact⟨hm,h2,by omega⟩
theorem zkm: ∀ (l:List Evt) {x:GE} {m:Int} {k:Nat},EOk x m k→EvO l→EOk (evsG x l) (m+12 * cnt3 l) (k+zH l)
 |[],x,m,k,h,_=>by show EOk x (m+12 * ((0:Nat):Int)) (k+0);simpa using h
 | e::l,x,m,k,h,ho=>by
   have h1:=zkm l (zwK h (ho e List.mem_cons_self)) fun y hy=>ho y (List.mem_cons_of_mem _ hy);have e1:cnt3 (e::l)=cnt3 [e]+cnt3 l:=Yl [e] l
   have e2:zH (e::l)=e.bytes.length+zH l:=by simp [zH]
   rw [e1,e2,show m+12 * ((cnt3 [e]+cnt3 l:Nat):Int)=m+12 * (cnt3 [e]:Int)+12 * (cnt3 l:Int) by omega,← Nat.add_assoc]
   exact h1
theorem zuY (o:List Evt) (e:Evt):(tu o e).filter k3=o.filter k3++[e].filter k3:=by
 rcases List.eq_nil_or_concat o with rfl|⟨z,x,rfl⟩
 · rfl
 · rw [List.concat_eq_append,xI]
   split
   · rename_i h
     simp [k3,h.1,h.2,evB]
   · rw [List.filter_append]
theorem zmH: ∀ (l o:List Evt),(l.foldl tu o).filter k3=o.filter k3++l.filter k3
 |[],o=>by simp
 |e::l,o=>by rw [List.foldl_cons,zmH l,zuY,jo,← List.filter_append];rfl
theorem zsV (l:List Evt):cnt3 (yO l)=cnt3 l:=congrArg List.length (zmH l [])
theorem zf7 (e:Evt) (h:e.kind≠3):cnt3 [e]=0:=by simp [cnt3,k3,h]
theorem zAt (q:Rq) (c:UInt8):cnt3 (rqF q c).out≤cnt3 q.out+1:=by
 have hb: ∀ (o:List Evt) (s:Str),cnt3 (o++[evB s])=cnt3 o:=fun o s=>by rw [Yl,zf7 _ (show(2:Int)≠3 by decide)];rfl
 have hh: ∀ (o:List Evt) (s:Hd),cnt3 (o++[evH s])=cnt3 o:=fun o s=>by rw [Yl,zf7 _ (show(1:Int)≠3 by decide)];rfl
 have hf: ∀ (o:List Evt) (s:Int),cnt3 (o++[evF s])=cnt3 o:=fun o s=>by rw [Yl,zf7 _ (show(4:Int)≠3 by decide)];rfl
 have he: ∀ (o:List Evt),cnt3 (o++[evE])=cnt3 o+1:=fun o=>by rw [Yl];rfl
 have hd: ∀ q:Rq,cnt3 (yJ q).1.out≤cnt3 q.out+1:=fun q=>by
  unfold yJ qA
  repeat' split
  all_goals first|omega|(simp only [hb,hh,hf,he];omega)
 have hl: ∀ (q:Rq) (s:Str),cnt3 (zY q s).1.out≤cnt3 q.out+1:=fun q s=>by
  have:=hd q;unfold zY
  repeat' split
  all_goals first|exact this|(simp only;omega)
 have hL:=hl { q with ln:=(lnF q.ln c).1} (lnF q.ln c).2.1
 simp only at hL;unfold rqF qA vZ
 repeat' split
 all_goals first|omega|(simp only [hb,hh,hf,he];omega)
theorem zqf: ∀ (b:Str) (q:Rq),cnt3 (qy q b).out≤cnt3 q.out+b.length
 |[],q=>jL _
 | c::b,q=>by
   have h1:=zqf b (rqF q c);have h2:=zAt q c;have:qy q (c::b)=qy (rqF q c) b:=rfl;rw [this,jh];omega
def mayW (w:Bool):List Evt→Prop
 |[]=>True
 |e::l=>(e.kind=2→w=true)∧mayW (if e.kind=1 then true else if e.kind=3 then false else w) l
def behW (w:Bool) (l:List Evt):Bool:=l.foldl (fun w e=>if e.kind=1 then true else if e.kind=3 then false else w) w
theorem TF (w:Bool) (a b:List Evt):behW w (a++b)=behW (behW w a) b:=List.foldl_append
theorem qM: ∀ (a b:List Evt) (w:Bool),mayW w (a++b)↔mayW w a∧mayW (behW w a) b
 |[],b,w=>by simp [mayW,behW]
 | e::a,b,w=>by
   simp only [List.cons_append,mayW,qM a b];exact and_assoc.symm
theorem zwI (x:GE) (l:List Evt):(evsG x l).w=behW x.w l:=by
 induction l generalizing x with
 |nil=>rfl
 | cons e l ih=>
   show(evsG (evG x e) l).w=_
   rw [ih]
   have:(evG x e).w=(if e.kind=1 then true else if e.kind=3 then false else x.w):=by
    unfold evG
    repeat' split
    all_goals first|rfl|(exfalso;omega)|simp_all
   rw [this];rfl
def MW (w:Bool) (q:Rq):Prop:=mayW w q.out∧(q.pos=2∨q.pos=3→behW w q.out=true)
theorem zms {w:Bool} {o:List Evt} (h:mayW w o) {e:Evt} (he:e.kind≠2):mayW w (o++[e]):=(qM _ _ _).2 ⟨h,fun k=>absurd k he,jb⟩
theorem zrl {w:Bool} {o:List Evt} (h:mayW w o) (k:behW w o=true) (s:Str):mayW w (o++[evB s])∧behW w (o++[evB s])=true:=⟨(qM _ _ _).2 ⟨h,fun _=>k,jb⟩,by rw [TF,k];rfl⟩
theorem znL (w:Bool) (o:List Evt) (h:Hd):behW w (o++[evH h])=true:=by rw [TF];rfl
theorem zxF {w:Bool} {q:Rq} (h:mayW w q.out) (hp:q.pos=0∨q.pos=1):MW w (yJ q).1:=by
 have hh: ∀ d,mayW w (q.out++[evH d]):=fun d=>zms h (show(1:Int)≠2 by decide)
 have h0: ¬ (q.pos=2∨q.pos=3):=by omega
 unfold yJ qA
 repeat' split
 · exact⟨h,fun k=>absurd k h0⟩
 · exact⟨h,fun k=>absurd k h0⟩
 · exact⟨zms (hh _) (show(3:Int)≠2 by decide),fun k=>absurd (show(0:Int)=2∨(0:Int)=3 from k) (by decide)⟩
 · exact⟨hh _,fun _=>znL _ _ _⟩
 · exact⟨hh _,fun _=>znL _ _ _⟩
theorem zxE {w:Bool} {q:Rq} (h:mayW w q.out) (hp:q.pos=0∨q.pos=1) (s:Str):MW w (zY q s).1:=by
 have h0: ¬ (q.pos=2∨q.pos=3):=by omega
 unfold zY
 split
 · split
   · exact⟨h,fun k=>absurd k h0⟩
   · split
     · exact⟨h,fun k=>absurd (show(1:Int)=2∨(1:Int)=3 from k) (by decide)⟩
     · split
       · exact⟨h,fun k=>absurd k h0⟩
       · exact⟨h,fun k=>absurd k h0⟩
 · split
   · exact zxF h hp
   · split
     · exact⟨h,fun k=>absurd k h0⟩
     · exact⟨h,fun k=>absurd k h0⟩
theorem zjQ {w:Bool} {q:Rq} (h:mayW w q.out) (c:Int):MW w (vZ q c):=⟨zms h (show(4:Int)≠2 by decide),fun k=>absurd (show(4:Int)=2∨(4:Int)=3 from k) (by decide)⟩
theorem zwo {w:Bool} {q:Rq} (h:mayW w q.out):MW w (qA q):=⟨zms h (show(3:Int)≠2 by decide),fun k=>absurd (show(0:Int)=2∨(0:Int)=3 from k) (by decide)⟩
theorem mw_f {w:Bool} {q:Rq} (h:MW w q) (c:UInt8):MW w (rqF q c):=by
 unfold rqF
 split
 · rename_i hp
   have hb:=zrl h.1 (h.2 (.inl hp)) [c]
   split
   · exact zwo hb.1
   · exact⟨hb.1,fun _=>hb.2⟩
 · split
   · rename_i hp
     have hk:=h.2 (.inr hp);have hb:=zrl h.1 hk (chF (ckOf q) c).2.1
     have hd:mayW w (if(chF (ckOf q) c).2.1≠[] then q.out++[evB (chF (ckOf q) c).2.1] else q.out)∧behW w (if(chF (ckOf q) c).2.1≠[] then q.out++[evB (chF (ckOf q) c).2.1] else q.out)=true:=by
      split
      · exact hb
      · exact⟨h.1,hk⟩
     split
     · exact zjQ h.1 _
     · split
       · exact zwo hd.1
       · exact⟨hd.1,fun _=>hd.2⟩
   · split
     · rename_i hp
       split
       · exact zjQ h.1 _
       · split
         · have hl:=zxE (q:= { q with ln:=(lnF q.ln c).1}) h.1 hp (lnF q.ln c).2.1
           split
           · exact zjQ hl.1 _
           · exact hl
         · exact h
     · exact h
theorem zwn {w:Bool}: ∀ (b:Str) {q:Rq},MW w q→MW w (qy q b)
 |[],_,h=>h
 |c::b,_,h=>zwn b (mw_f h c)
theorem zuP {w:Bool} {o:List Evt} {e:Evt} (h:mayW w (o++[e])):mayW w (tu o e)∧behW w (tu o e)=behW w (o++[e]):=by
 rcases List.eq_nil_or_concat o with rfl|⟨z,x,rfl⟩
 · exact⟨h,rfl⟩
 · rw [List.concat_eq_append] at h ⊢
   rw [xI]
   split
   · rename_i hk
     have h1:=(qM _ _ _).1 h;have h2:=(qM _ _ _).1 h1.1;refine⟨(qM _ _ _).2 ⟨h2.1,fun _=>h2.2.1 hk.2,jb⟩,?_⟩;simp only [TF]
     simp [behW,evB,hk.1,hk.2]
   · exact⟨h,rfl⟩
theorem zmt {w:Bool}: ∀ (l o:List Evt),mayW w (o++l)→mayW w (l.foldl tu o)∧behW w (l.foldl tu o)=behW w (o++l)
 |[],o,h=>by rw [List.append_nil] at h ⊢;exact⟨h,rfl⟩
 | e::l,o,h=>by
   have e1:o++e::l=(o++[e])++l:=by simp
   rw [e1] at h ⊢;have h1:=(qM _ _ _).1 h;have h2:=zuP h1.1
   have h3:=zmt l (tu o e) ((qM _ _ _).2 ⟨h2.1,by rw [h2.2];exact h1.2⟩)
   exact⟨h3.1,by rw [List.foldl_cons,h3.2,TF,h2.2,← TF]⟩
theorem zro: ∀ {l:List Evt} {w:Bool} (_:mayW w l) {i:Nat} (hi:i<l.length),l[i].kind=2→behW w (l.take i)=true
 |e::l,w,h,0,_,k=>h.1 k
 |e::l,w,h,i+1,hi,k=>zro (l:=l) h.2 (by simpa using hi) k
def CnI (c:Cn) (k:Nat):Prop:=RqI { c.q with out:=[]} k∧FsOk c.h.fields∧c.body.length≤k∧(c.q.pos=2∨c.q.pos=3→c.own=true)
theorem zo0:CnI cn0 0:=⟨zAr,zaY,jL _,fun _=>rfl⟩
theorem Ym {c:Cn} {k k':Nat} (h:CnI c k) (hk:k≤k'):CnI c k':=⟨zlT h.1 hk,h.2.1,Nat.le_trans h.2.2.1 hk,h.2.2.2⟩
theorem zsm {c:Cn} {k:Nat} (h:CnI c k) {b:Str} (hb:k+b.length≤1000000):EvO (yO (zT c.q b).out)∧zH (yO (zT c.q b).out)≤b.length∧cnt3 (yO (zT c.q b).out)≤b.length∧(yO (zT c.q b).out).length≤4 * (k+b.length):=by
 have h1:EvO (zT c.q b).out:=zqe b _ k h.1 hb (fun e m=>by cases m)
 have h2:zH (zT c.q b).out≤0+b.length:=zgR b _;have h3:=zcq (zT c.q b).out;have h4:cnt3 (zT c.q b).out≤0+b.length:=zqf b _;have h5:(zT c.q b).out.length≤4 * (k+b.length):=(zjH b _ k h.1).on;have h6:=zcr (zT c.q b).out
 exact⟨zni _ [] h1,by omega,by rw [zsV];omega,by omega⟩
theorem zwF {c:Cn} {k:Nat} (h:CnI c k) (b:Str):mayW c.own (yO (zT c.q b).out)∧((zT c.q b).pos=2∨(zT c.q b).pos=3→behW c.own (yO (zT c.q b).out)=true):=by
 have h1:MW c.own (zT c.q b):=zwn b ⟨jb,h.2.2.2⟩;have h2:=zmt (zT c.q b).out [] h1.1;exact⟨h2.1,fun k=>h2.2.trans (h1.2 k)⟩
theorem zzO {q:Sto} {m:Int} {c:Cn} {k:Nat} (hq:SOk q m) (h:CnI c k) {b:Str} (hb:k+b.length≤1000000):SOk (fedE q c b).q (m+12 * b.length)∧CnI (fedC q c b) (k+b.length):=by
 obtain⟨h1,h2,h3,h4⟩:=zsm h hb;have h5:=zkm _ (x:=⟨q,c.h,c.body,c.live,c.own,[]⟩) ⟨hq,h.2.1,h.2.2.1⟩ h1
 refine⟨xg h5.1 (by omega),zqk (zjH b _ k h.1) (by simp),h5.2.1,?_,fun kp=> ?_⟩
 · have:=h5.2.2
   show(fedE q c b).b.length≤_
   unfold fedE;omega
 · exact(zwI _ _).trans ((zwF h b).2 kp)
end Go.Proofs.YtkjepecoodjbmaaGreatDoor
namespace Go.Proofs.YtkjepecoodjbmaaGreatDoor
open Go Go.Sep Go.Ab
set_option maxRecDepth 100000
def UK (I:Alg):KU
 |[.v (.agg [.p (.int .i64 st),.p (.list .fld fs),.p (.list .byte b)])],[]=>(fun(fs:List Fld) (b:Str)=>(some (.one ⟨I.hid ((fs.length≤100∧∀ f ∈ fs,f.name.length≤1000000∧f.value.length≤1000000)∧b.length≤9000),(.ret (.v (.one (.p (.list .byte (I.hid (writeT st fs b))))))),[]⟩):Option CT)) fs b
 |_,_=>none
theorem zh6:zu Tryz.prog 82 (UK alg):=by
 intro args hp r h;unfold UK at h;split at h<;>cases h
 rename_i st fs b
 revert fs;intro(fs:List Fld)
 simp only [CT.Good,zh];intro hneed
 refine spH Tryz.func82 (by kernel_rfl) { cfgG with rl:=[0],keep:=some [0,1,2,3]} [zqO,zqN] (by kernel_rfl) ?_
 intro I X hI hX
 refine orcL ?_;go_invoke;refine orcS (by kernel_rfl) ?_
 simp only [zi,Nat.reduceAdd];subst hI;simp only [nrmA,nrmB,nrlB,reduceCtorEq,V0.agg.injEq];exact hneed
def zrY:Know Tryz.prog:=⟨82,UK,zh6⟩
def zrX:Know Tryz.prog:=⟨82,fun I=>zx I (UK I),zf zh6⟩
def zaT (I:Alg):KU
 |[.v (.one (.p (.str t)))],[]=>(fun(t:Str)=>(some (.one ⟨I.hid (True),(.ret (.v (.one (.p (.bool (I.hid (zhd t))))))),[]⟩):Option CT)) t
 |_,_=>none
theorem zmR:zu Tryz.prog 124 (zaT alg):=by
 intro args hp r h;unfold zaT at h;split at h<;>cases h
 rename_i t;simp only [CT.Good,zh];intro _;generalize hr:zhd t=r;unfold zhd at hr
 refine spH Tryz.func124 (by kernel_rfl) { cfgT with keep:=some [0,2]} [xO,xN,ztL,ztK] (by kernel_rfl) ?_
 intro I X hI hX
 refine orcL ?_;go_invoke;refine orcS (by kernel_rfl) ?_
 simp only [zi,Nat.reduceAdd];subst hI;rw [show([47,102,105,108,101,115]:Str)=qj from rfl]
 try rw [show([47,102,105,108,101,115,47]:Str)=vH from rfl]
 simp only [nrmA,nrmB,nrlB,reduceCtorEq,V0.agg.injEq]
 by_cases h1:t=qj
 · rw [decide_eq_true h1,Bool.true_or] at hr
   subst hr;simp only [nrmA,nrmB,nrlB,reduceCtorEq,h1];exact⟨fun _=>jb,fun h=>h.elim⟩
 · rw [decide_eq_false h1,Bool.false_or] at hr
   simp only [nrmA,nrmB,nrlB,reduceCtorEq,h1]
   exact⟨fun h=>h.elim,fun _=>by simpa using hr⟩
def zvc:Know Tryz.prog:=⟨124,zaT,zmR⟩
def zvb:Know Tryz.prog:=⟨124,fun I=>zx I (zaT I),zf zmR⟩
theorem zev: ∀ (ps:List Prt) (q:Sto) (ids:List Int) (t:Str),(∀ p ∈ ps,p.file.length≤40)→(um q ids t ps).r.body.length≤t.length+60 * ps.length
 |[],_,_,_,_=>Nat.le_add_right _ _
 | p :: r,q,ids,t,h=>by
   have h1:=fun q ids t=>zev r q ids t fun x hx=>h x (List.mem_cons_of_mem _ hx);have h2:=h p List.mem_cons_self;have h3:=xq (q.n+1);unfold um
   split
   · have:=h1 q ids t;simp only [jh];omega
   · split
     · simp [TG]
     · have:=h1 (sU q p) (ids++[q.n+1]) (znW t (q.n+1) p)
       have e:(znW t (q.n+1) p).length≤t.length+60:=by
        unfold znW;simp only [jk,jh,ji];omega
       simp only [jh];omega
def FF (l:List Fld):Prop:=∀ x ∈ l,x.name.length≤1000000∧x.value.length≤1000000
theorem zvu {c:Prop} [Decidable c] {a b:TA} (ha:FF a.fs) (hb:FF b.fs):FF (if c then a else b).fs:=by split<;>assumption
theorem ZI:FF []:=fun x h=>by cases h
theorem uI {a b:Str} {l:List Fld} (h1:a.length≤1000000) (h2:b.length≤1000000) (h:FF l):FF (⟨a,b⟩::l):=fun y hy=>by
 rcases List.mem_cons.1 hy with rfl|hy
 · exact⟨h1,h2⟩
 · exact h y hy
theorem zf1 (n:Int):(decS n).length≤1000000:=by have:=xq n;omega
theorem zpU {q:Sto} (h:zL q.l q.n) (m t:Str) (f:List Fld) (body:Str):FF (yG q m t f body).fs:=by
 have hc:FF (xM q f).fs:=by
  unfold xM
  repeat' with_reducible refine zvu ?_ ?_
  all_goals first
   |exact ZI
   |exact uI (by decide) (by have:=xq (q.n+1);simp only [jk,vH,jh,ji];omega) ZI
 have hd: ∀ u,FF (U4 q u).fs:=fun u=>by
  unfold U4;exact zvu ZI ZI
 have hp: ∀ u,FF (vw q u f body).fs:=fun u=>by
  unfold vw
  repeat' with_reducible refine zvu ?_ ?_
  all_goals first
   |exact ZI
   |exact uI (by decide) (zf1 _) ZI
 have ht: ∀ u:Upl,u.note.length≤1000000→FF (zc6 u):=fun u hu=>by
  unfold zc6 lenF
  refine uI (by decide) (zf1 _) ?_
  split
  · refine uI (by decide) (by decide) (uI (by decide) (by decide) ?_)
    split
    · exact ZI
    · exact uI (by decide) hu ZI
  · refine uI (by decide) (zf1 _) (uI (by decide) (by decide) ?_)
    split
    · exact ZI
    · exact uI (by decide) hu ZI
 have hg: ∀ id,(getU q.l id).note.length≤1000000:=fun id=>by
  unfold getU
  split
  · rename_i hk
    have:=(h.each _ (vk hk)).nl;unfold zQ at this
    exact Nat.le_trans this (by decide)
  · exact jM _
 unfold yG
 repeat' with_reducible refine zvu ?_ ?_
 all_goals first
  |exact ZI
  |exact hc
  |exact hd _
  |exact hp _
  |exact ht _ (hg _)
  |exact uI (by decide) (by decide) ZI
  |exact uI (by decide) (by decide) (uI (by decide) (zf1 _) (uI (by decide) (by decide) ZI))
def ROk (r:Rpl):Prop:=(r.fields.length≤100∧∀ f ∈ r.fields,f.name.length≤1000000∧f.value.length≤1000000)∧r.body.length≤9000
theorem zl1 (st:Int) (b:Str) (h:b.length≤9000):ROk ⟨st,[],b⟩:=⟨⟨jM _,fun f h=>by cases h⟩,h⟩
theorem ztm {q:Sto} (h:zL q.l q.n) {m t:Str} {f:List Fld} (hf:FOk f) (body:Str):ROk (ansG q m t f body).r:=by
 have h0: ∀ st,ROk (TG st):=fun st=>zl1 st [] (by decide)
 have hs:=YZ f body;unfold ansG
 split
 · refine⟨⟨?_,fun x hx=> ?_⟩,jM _⟩
   · show(resT::(yG q m t f body).fs).length≤100
     have:=zds q m t f body;simp only [jh];omega
   · rcases List.mem_cons.1 (show x ∈ resT::(yG q m t f body).fs from hx) with rfl|hx
     · exact⟨by decide,by decide⟩
     · exact zpU h m t f body x hx
 · split
   · exact h0 _
   · split
     · exact h0 _
     · unfold WG
       split
       · exact h0 _
       · split
         · exact h0 _
         · have:=zev (rV f body).1 q [] [] hs.2.1
           refine⟨⟨by rw [UX];decide,fun x hx=>by rw [UX] at hx;cases hx⟩,?_⟩
           simp only [ji] at this;omega
def X9 (I:Alg):KU
 |[.v (.one (.ptr 0 0)),.v (.agg [.p (.str m),.p (.str t),.p (.int .i64 mi),.p (.list .fld f),.p (.int .i64 le)]),.v (.one (.p (.list .byte body)))],[.obj 50 [.ptr 1 0,.ptr 2 0,.ptr 3 0,.ptr 4 0,.ptr 5 0],.pack [.obj 54 [.ptr 1 0,.ptr 2 0],.pack [.obj 124 [.row 1,.p (.int .i64 n)],.row .upl 81 l],.pack [.obj 156 [.row 1,.p (.int .i64 s)],.row .byte 5 b]],.abs (.cn c0),.abs (.cn c1),.abs (.cn c2),.abs (.cn c3)]=>(fun(l:List Upl) (b m t:Str) (f:List Fld) (body:Str)=>(some (.one ⟨I.hid (FOk f∧zL l n∧n≤200000 - 20∧b.length≤100000∧body.length≤30000),(.ret (.v (.agg [.p (.int .i64 (I.hid ((ansG ⟨l,n,b,s⟩ m t f body).r.status))),.p (.list .fld (I.hid ((ansG ⟨l,n,b,s⟩ m t f body).r.fields))),.p (.list .byte (I.hid ((ansG ⟨l,n,b,s⟩ m t f body).r.body)))]))),[.obj 50 [.ptr 1 0,.ptr 2 0,.ptr 3 0,.ptr 4 0,.ptr 5 0],.pack [.obj 54 [.ptr 1 0,.ptr 2 0],.pack [.obj 124 [.row 1,.p (.int .i64 (I.hid ((ansG ⟨l,n,b,s⟩ m t f body).q.n)))],.row .upl 81 (I.hid ((ansG ⟨l,n,b,s⟩ m t f body).q.l))],.pack [.obj 156 [.row 1,.p (.int .i64 (I.hid ((ansG ⟨l,n,b,s⟩ m t f body).q.s)))],.row .byte 5 (I.hid ((ansG ⟨l,n,b,s⟩ m t f body).q.b))]],.abs (.cn c0),.abs (.cn c1),.abs (.cn c2),.abs (.cn c3)]⟩):Option CT)) l b m t f body
 |_,_=>none
set_option maxHeartbeats 1000000 in
theorem zea:zu Tryz.prog 83 (X9 alg):=by
 intro args hp r h;unfold X9 at h;split at h<;>cases h
 rename_i m t mi f le body n l s b c0 c1 c2 c3
 revert f l;intro(f:List Fld) (l:List Upl)
 simp only [CT.Good,zh];intro hneed;obtain⟨hf,hs,hn,hb,hbo⟩:=hneed;generalize hr:ansG ⟨l,n,b,s⟩ m t f body=r;obtain⟨⟨st,fs,bd⟩,⟨l',n',b',s'⟩⟩:=r
 have hff:(WG ⟨l,n,b,s⟩ f body).r.fields=[]:=by
  unfold WG
  split
  · rfl
  · split
    · rfl
    · exact UX _ _ _ _
 unfold ansG rplT TG at hr
 refine spH Tryz.func83 (by kernel_rfl) { cfgG with keep:=some [0,1,2,4,6]} [zpC,zpB,zvc,zvb,ZH,ZG,zve,zvd] (by kernel_rfl) ?_
 intro I X hI hX
 refine orcL ?_;go_invoke;refine orcS (by kernel_rfl) ?_
 simp only [zi,Nat.reduceAdd];rw [show([47,102,111,114,109]:Str)=zzF from rfl,show([80,79,83,84]:Str)=YV from rfl]
 have hh: ∀ {α:Type} (y:α),I.hid y=y:=fun y=>by subst hI;rfl
 simp only [hh];generalize zhd t=o at *;generalize yG ⟨l,n,b,s⟩ m t f body=x at *;generalize WG ⟨l,n,b,s⟩ f body=y at *;obtain⟨x1,x2,⟨x3,x4,x5,x6⟩⟩:=x;obtain⟨⟨y1,y2,y3⟩,⟨y4,y5,y6,y7⟩⟩:=y;subst hI;dsimp only at hff hr ⊢;subst hff;simp only [nrmA,nrmB,nrlB,reduceCtorEq,V0.agg.injEq,HO.pack.injEq,HO.obj.injEq]
 (repeat' (first|refine ja ?_ ?_|intro _))<;>first|omega|exact jb|exact jc ‹False›|skip
 all_goals first
  |omega
  |with_reducible assumption
  |exact jM _
  |exact hf.1
  |(exact(hf.2 _ ‹_›).1)
  |(exact(hf.2 _ ‹_›).2)
  |(((repeat(first|rewrite [if_pos (by first|omega|assumption|(simp only [*,or_self,or_true,true_or,or_false,false_or,jf,jg,jd,je,and_self,and_true,true_and];done)|(simp only [*];omega)|(simp [*];done)|(simp [*];omega))] at hr|rewrite [if_neg (by first|omega|assumption|(simp only [*,or_self,or_true,true_or,or_false,false_or,jf,jg,jd,je,and_self,and_true,true_and];done)|(simp only [*];omega)|(simp [*];done)|(simp [*];omega))] at hr)));simp only [GA.mk.injEq,Rpl.mk.injEq,Sto.mk.injEq] at hr;obtain⟨⟨rfl,rfl,rfl⟩,rfl,rfl,rfl,rfl⟩:=hr;rfl)
def zoG:Know Tryz.prog:=⟨83,X9,zea⟩
def zoF:Know Tryz.prog:=⟨83,fun I=>zx I (X9 I),zf zea⟩
end Go.Proofs.YtkjepecoodjbmaaGreatDoor
namespace Go.Proofs.YtkjepecoodjbmaaGreatDoor
open Go Go.Sep Go.Ab
set_option maxRecDepth 100000
def insC (j:Nat) (c d1 d2 d3:Cn):List HO:=match j with
 |0=>[.abs (.cn c),.abs (.cn d1),.abs (.cn d2),.abs (.cn d3)]
 |1=>[.abs (.cn d1),.abs (.cn c),.abs (.cn d2),.abs (.cn d3)]
 |2=>[.abs (.cn d1),.abs (.cn d2),.abs (.cn c),.abs (.cn d3)]
 |_=>[.abs (.cn d1),.abs (.cn d2),.abs (.cn d3),.abs (.cn c)]
def selC (j:Nat) (c0 c1 c2 c3:Cn) (k:Cn→Cn→Cn→Cn→Option CT):Option CT:=match j with
 |0=>k c0 c1 c2 c3
 |1=>k c1 c0 c2 c3
 |2=>k c2 c0 c1 c3
 |_=>k c3 c0 c1 c2
def isJ (k:Int) (j:Nat):Bool:=match k with|.ofNat m=>Nat.beq m j|.negSucc _=>false
theorem zrH {k:Int} {j:Nat} (h:isJ k j=true):k=(j:Int):=by
 cases k with
 |ofNat m=>cases jI h;rfl
 |negSucc m=>cases h
set_option maxHeartbeats 4000000 in
theorem zx1 (j:Nat) (hj:j<4) (l:List Upl) (n:Int) (b:Str) (s:Int) (c d1 d2 d3:Cn) (ek:Int) (em et:Str) (ei:Int) (ef:List Fld) (en:Int) (eb ex ey ez ew:Str) (ec:Int) (hneed:zL l n∧n≤200000 - 20∧b.length≤100000∧FOk c.h.fields∧c.body.length≤30000∧eb.length≤1000000∧(ek=2→c.own=true)):Spc Tryz.prog 46 [.v (.one (.ptr 0 0)),.v (.one (.ptr (j+2) 0)),.v (.agg [.p (.int .i64 ek),.p (.str em),.p (.str et),.p (.int .i64 ei),.p (.list .fld ef),.p (.int .i64 en),.p (.list .byte eb),.p (.str ex),.p (.str ey),.p (.str ez),.p (.nl ew),.p (.int .i64 ec)])] (.obj 50 [.ptr 1 0,.ptr 2 0,.ptr 3 0,.ptr 4 0,.ptr 5 0]:: .pack [.obj 54 [.ptr 1 0,.ptr 2 0],.pack [.obj 124 [.row 1,.p (.int .i64 n)],.row .upl 81 l],.pack [.obj 156 [.row 1,.p (.int .i64 s)],.row .byte 5 b]]::insC j c d1 d2 d3) (.ret (.v (.one (.p (.list .byte ((evG ⟨⟨l,n,b,s⟩,c.h,c.body,c.live,c.own,[]⟩ ⟨ek,⟨em,et,ei,ef,en⟩,eb,⟨ex,ey,ez,ew⟩,ec⟩).o)))))) (.obj 50 [.ptr 1 0,.ptr 2 0,.ptr 3 0,.ptr 4 0,.ptr 5 0]:: .pack [.obj 54 [.ptr 1 0,.ptr 2 0],.pack [.obj 124 [.row 1,.p (.int .i64 ((evG ⟨⟨l,n,b,s⟩,c.h,c.body,c.live,c.own,[]⟩ ⟨ek,⟨em,et,ei,ef,en⟩,eb,⟨ex,ey,ez,ew⟩,ec⟩).q.n))],.row .upl 81 ((evG ⟨⟨l,n,b,s⟩,c.h,c.body,c.live,c.own,[]⟩ ⟨ek,⟨em,et,ei,ef,en⟩,eb,⟨ex,ey,ez,ew⟩,ec⟩).q.l)],.pack [.obj 156 [.row 1,.p (.int .i64 ((evG ⟨⟨l,n,b,s⟩,c.h,c.body,c.live,c.own,[]⟩ ⟨ek,⟨em,et,ei,ef,en⟩,eb,⟨ex,ey,ez,ew⟩,ec⟩).q.s))],.row .byte 5 ((evG ⟨⟨l,n,b,s⟩,c.h,c.body,c.live,c.own,[]⟩ ⟨ek,⟨em,et,ei,ef,en⟩,eb,⟨ex,ey,ez,ew⟩,ec⟩).q.b)]]::insC j (⟨c.q,((evG ⟨⟨l,n,b,s⟩,c.h,c.body,c.live,c.own,[]⟩ ⟨ek,⟨em,et,ei,ef,en⟩,eb,⟨ex,ey,ez,ew⟩,ec⟩).h),((evG ⟨⟨l,n,b,s⟩,c.h,c.body,c.live,c.own,[]⟩ ⟨ek,⟨em,et,ei,ef,en⟩,eb,⟨ex,ey,ez,ew⟩,ec⟩).b),((evG ⟨⟨l,n,b,s⟩,c.h,c.body,c.live,c.own,[]⟩ ⟨ek,⟨em,et,ei,ef,en⟩,eb,⟨ex,ey,ez,ew⟩,ec⟩).i),((evG ⟨⟨l,n,b,s⟩,c.h,c.body,c.live,c.own,[]⟩ ⟨ek,⟨em,et,ei,ef,en⟩,eb,⟨ex,ey,ez,ew⟩,ec⟩).w)⟩) d1 d2 d3):=by
 obtain⟨hs,hn,hb,hf,hbo,heb,hw⟩:=hneed;obtain⟨q,⟨m,t,mi,f,le⟩,cb,li,w⟩:=c;dsimp only at hf hbo hw ⊢;have ha:=ztm (q:=⟨l,n,b,s⟩) hs (m:=m) (t:=t) hf cb;generalize hr:evG ⟨⟨l,n,b,s⟩,⟨m,t,mi,f,le⟩,cb,li,w,[]⟩ ⟨ek,⟨em,et,ei,ef,en⟩,eb,⟨ex,ey,ez,ew⟩,ec⟩=r;obtain⟨⟨l',n',b',s'⟩,⟨m',t',mi',f',le'⟩,cb',li',w',o'⟩:=r;unfold evG zzR TG ziY at hr
 refine spH Tryz.func46 (by kernel_rfl) { cfgG with rl:=[0],fz:=[83],keep:=some [0,1,2,5,6,8]} [ZH,ZG,zrY,zrX,zoG,zoF] (by kernel_rfl) ?_
 intro I X hI hX
 obtain rfl|rfl|rfl|rfl:j=0∨j=1∨j=2∨j=3:=by omega
 all_goals cases w
 all_goals
  refine orcL ?_;go_invoke;refine orcS (by kernel_rfl) ?_
  simp only [zi,Nat.reduceAdd]
  have hh: ∀ {α:Type} (y:α),I.hid y=y:=fun y=>by subst hI;rfl
  simp only [hh];generalize ansG ⟨l,n,b,s⟩ m t f cb=y at *;obtain⟨⟨y1,y2,y3⟩,⟨y4,y5,y6,y7⟩⟩:=y;subst hI;dsimp only at hr ha ⊢;simp only [nrmA,nrmB,nrlB,reduceCtorEq,insC,V0.agg.injEq,HO.pack.injEq,HO.obj.injEq,HO.abs.injEq,Gh.cn.injEq,Cn.mk.injEq,Hd.mk.injEq]
  (repeat' (first|refine ja ?_ ?_|intro _))<;>first|omega|exact jb|exact jc ‹False›|skip
  all_goals first
   |omega
   |with_reducible assumption
   |exact jM _
   |exact ha.1.1
   |(exact(ha.1.2 _ ‹_›).1)
   |(exact(ha.1.2 _ ‹_›).2)
   |exact ha.2
   |exact hf.1
   |(exact(hf.2 _ ‹_›).1)
   |(exact(hf.2 _ ‹_›).2)
   |(exact(List.not_mem_nil ‹_›).elim)
   |(exact absurd (hw (by with_reducible assumption)) (by decide))
   |(((repeat(first|rewrite [if_pos (by first|omega|assumption|(simp only [*,or_self,or_true,true_or,or_false,false_or,jf,jg,jd,je,and_self,and_true,true_and];done)|(simp only [*];omega)|(simp [*];done)|(simp [*];omega))] at hr|rewrite [if_neg (by first|omega|assumption|(simp only [*,or_self,or_true,true_or,or_false,false_or,jf,jg,jd,je,and_self,and_true,true_and];done)|(simp only [*];omega)|(simp [*];done)|(simp [*];omega))] at hr)));simp only [GE.mk.injEq,Hd.mk.injEq,Sto.mk.injEq,List.nil_append] at hr;obtain⟨⟨rfl,rfl,rfl,rfl⟩,⟨rfl,rfl,rfl,rfl,rfl⟩,rfl,rfl,rfl,rfl⟩:=hr;rfl)
def vG (j:Nat) (I:Alg) (args:List D) (hp:List HO):Option CT:=match args,hp with
 | [.v (.one (.ptr 0 0)),.v (.one (.ptr k 0)),.v (.agg [.p (.int .i64 ek),.p (.str em),.p (.str et),.p (.int .i64 ei),.p (.list .fld ef),.p (.int .i64 en),.p (.list .byte eb),.p (.str ex),.p (.str ey),.p (.str ez),.p (.nl ew),.p (.int .i64 ec)])],[.obj 50 [.ptr 1 0,.ptr 2 0,.ptr 3 0,.ptr 4 0,.ptr 5 0],.pack [.obj 54 [.ptr 1 0,.ptr 2 0],.pack [.obj 124 [.row 1,.p (.int .i64 n)],.row .upl 81 l],.pack [.obj 156 [.row 1,.p (.int .i64 s)],.row .byte 5 b]],.abs (.cn c0),.abs (.cn c1),.abs (.cn c2),.abs (.cn c3)]=>(match Nat.beq k (j+2) with
   |true=>(fun(l:List Upl) (b:Str) (em:Str) (et:Str) (ef:List Fld) (eb:Str) (ex:Str) (ey:Str) (ez:Str) (ew:Str)=>(selC j c0 c1 c2 c3 fun c d1 d2 d3=>some (.one ⟨I.hid (zL l n∧n≤200000 - 20∧b.length≤100000∧FOk c.h.fields∧c.body.length≤30000∧eb.length≤1000000∧(ek=2→c.own=true)),(.ret (.v (.one (.p (.list .byte (I.hid ((evG ⟨⟨l,n,b,s⟩,c.h,c.body,c.live,c.own,[]⟩ ⟨ek,⟨em,et,ei,ef,en⟩,eb,⟨ex,ey,ez,ew⟩,ec⟩).o))))))),(.obj 50 [.ptr 1 0,.ptr 2 0,.ptr 3 0,.ptr 4 0,.ptr 5 0]:: .pack [.obj 54 [.ptr 1 0,.ptr 2 0],.pack [.obj 124 [.row 1,.p (.int .i64 (I.hid ((evG ⟨⟨l,n,b,s⟩,c.h,c.body,c.live,c.own,[]⟩ ⟨ek,⟨em,et,ei,ef,en⟩,eb,⟨ex,ey,ez,ew⟩,ec⟩).q.n)))],.row .upl 81 (I.hid ((evG ⟨⟨l,n,b,s⟩,c.h,c.body,c.live,c.own,[]⟩ ⟨ek,⟨em,et,ei,ef,en⟩,eb,⟨ex,ey,ez,ew⟩,ec⟩).q.l))],.pack [.obj 156 [.row 1,.p (.int .i64 (I.hid ((evG ⟨⟨l,n,b,s⟩,c.h,c.body,c.live,c.own,[]⟩ ⟨ek,⟨em,et,ei,ef,en⟩,eb,⟨ex,ey,ez,ew⟩,ec⟩).q.s)))],.row .byte 5 (I.hid ((evG ⟨⟨l,n,b,s⟩,c.h,c.body,c.live,c.own,[]⟩ ⟨ek,⟨em,et,ei,ef,en⟩,eb,⟨ex,ey,ez,ew⟩,ec⟩).q.b))]]::insC j (⟨c.q,(I.hid ((evG ⟨⟨l,n,b,s⟩,c.h,c.body,c.live,c.own,[]⟩ ⟨ek,⟨em,et,ei,ef,en⟩,eb,⟨ex,ey,ez,ew⟩,ec⟩).h)),(I.hid ((evG ⟨⟨l,n,b,s⟩,c.h,c.body,c.live,c.own,[]⟩ ⟨ek,⟨em,et,ei,ef,en⟩,eb,⟨ex,ey,ez,ew⟩,ec⟩).b)),(I.hid ((evG ⟨⟨l,n,b,s⟩,c.h,c.body,c.live,c.own,[]⟩ ⟨ek,⟨em,et,ei,ef,en⟩,eb,⟨ex,ey,ez,ew⟩,ec⟩).i)),(I.hid ((evG ⟨⟨l,n,b,s⟩,c.h,c.body,c.live,c.own,[]⟩ ⟨ek,⟨em,et,ei,ef,en⟩,eb,⟨ex,ey,ez,ew⟩,ec⟩).w))⟩) d1 d2 d3)⟩):Option CT)) l b em et ef eb ex ey ez ew
   |false=>none)
 |_,_=>none
theorem tC (j:Nat) (hj:j<4):zu Tryz.prog 46 (vG j alg):=by
 intro args hp r h;unfold vG at h
 split at h
 · split at h
   · rename_i hk
     first|(cases zrH hk)|(cases jI hk)
     obtain rfl|rfl|rfl|rfl:j=0∨j=1∨j=2∨j=3:=by omega
     all_goals(cases h;exact fun hn=>zx1 _ (by decide) _ _ _ _ _ _ _ _ _ _ _ _ _ _ _ _ _ _ _ _ hn)
   · cases h
 · cases h
def Rf:Know Tryz.prog:=⟨46,vG 0,tC 0 (by decide)⟩
def S9:Know Tryz.prog:=⟨46,fun I=>zx I (vG 0 I),zf (tC 0 (by decide))⟩
def SY:Know Tryz.prog:=⟨46,vG 1,tC 1 (by decide)⟩
def SX:Know Tryz.prog:=⟨46,fun I=>zx I (vG 1 I),zf (tC 1 (by decide))⟩
def SV:Know Tryz.prog:=⟨46,vG 2,tC 2 (by decide)⟩
def SS:Know Tryz.prog:=⟨46,fun I=>zx I (vG 2 I),zf (tC 2 (by decide))⟩
def SQ:Know Tryz.prog:=⟨46,vG 3,tC 3 (by decide)⟩
def SN:Know Tryz.prog:=⟨46,fun I=>zx I (vG 3 I),zf (tC 3 (by decide))⟩
end Go.Proofs.YtkjepecoodjbmaaGreatDoor
namespace Go.Proofs.YtkjepecoodjbmaaGreatDoor
open Go Go.Sep Go.Ab
theorem zgs {r:Rpl} (h:ROk r):(ziY r).length≤30000:=by
 unfold ziY writeT
 split
 · rename_i hc
   have hw:TP r.status≠[]:=fun e=>by unfold zdh at hc;rw [if_pos e] at hc;exact absurd hc (by decide)
   have h1:=(zbn hw).2.2;have h2:=xq r.status;have h3:=xq (r.body.length:Int);have h4:=Xa r.fields;have h5:=h.1.1;have h6:=h.2;simp only [zj6,YE,jk,jh,ji];omega
 · exact jM _
theorem zyk (x:GE) (e:Evt):evG x e=⟨(evG ⟨x.q,x.h,x.b,x.i,x.w,[]⟩ e).q,(evG ⟨x.q,x.h,x.b,x.i,x.w,[]⟩ e).h,(evG ⟨x.q,x.h,x.b,x.i,x.w,[]⟩ e).b,(evG ⟨x.q,x.h,x.b,x.i,x.w,[]⟩ e).i,(evG ⟨x.q,x.h,x.b,x.i,x.w,[]⟩ e).w,x.o++(evG ⟨x.q,x.h,x.b,x.i,x.w,[]⟩ e).o⟩:=by
 unfold evG
 repeat' split
 all_goals simp
theorem zzS {x:GE} (h1:zL x.q.l x.q.n) (h2:FsOk x.h.fields) (e:Evt):(evG ⟨x.q,x.h,x.b,x.i,x.w,[]⟩ e).o.length≤30000:=by
 unfold evG
 repeat' split
 · exact jM _
 · exact jM _
 · exact zgs (ztm h1 h2 _)
 · exact zgs (zl1 _ _ (jM _))
 · exact jM _
def fdK (c:Cn):Int:=if c.q.pos=4 then 18 else 0
def fdO (q:Sto) (c:Cn) (x:Str):Str:=if c.q.pos=4 then [] else(fedE q c x).o
def fdQ (q:Sto) (c:Cn) (x:Str):Sto:=if c.q.pos=4 then q else(fedE q c x).q
def fdC (q:Sto) (c:Cn) (x:Str):Cn:=if c.q.pos=4 then c else fedC q c x
def FdN (q:Sto) (c:Cn) (x:Str):Prop:=∃ (N:Nat) (m:Int),SOk q m∧CnI c N∧N+x.length≤30000∧m+12 * x.length≤199980
structure FdA (x0:GE) (J:List Evt) (i:Nat) (l:List Upl) (n:Int) (b:Str) (s:Int) (c:Cn) (o:Str) (q1:Rq):Prop where
 le:i≤J.length
 ev:(⟨⟨l,n,b,s⟩,c.h,c.body,c.live,c.own,o⟩:GE)=evsG x0 (J.take i)
 cq:c.q=q1
 ol:o.length≤30000 * i
structure FdJ (x0:GE) (J:List Evt):Prop where
 ok: ∃ (N:Nat) (m:Int),EOk x0 m N∧N+zH J≤30000∧m+12 * cnt3 J≤199980
 ob:EvO J
 mw:mayW x0.w J
 o0:x0.o=[]
 ln:J.length≤1000000
theorem zkl (J:List Evt) (i:Nat):zH (J.take i)≤zH J:=by
 have:J=J.take i++J.drop i:=(List.take_append_drop i J).symm;have h:=yA (J.take i) (J.drop i);rw [← this] at h;omega
theorem zsU (J:List Evt) (i:Nat):cnt3 (J.take i)≤cnt3 J:=by
 have h:=Yl (J.take i) (J.drop i);rw [List.take_append_drop] at h;omega
theorem zzP {q:Sto} {c:Cn} {x:Str} (h:FdN q c x):FdJ ⟨q,c.h,c.body,c.live,c.own,[]⟩ (yO (zT c.q x).out)∧rqN0 c.q x:=by
 obtain⟨N,m,h1,h2,h3,h4⟩:=h
 obtain⟨e1,e2,e3,e4⟩:=zsm h2 (b:=x) (by omega)
 exact⟨⟨⟨N,m,⟨h1,h2.2.1,h2.2.2.1⟩,by omega,by omega⟩,e1,(zwF h2 x).1,rfl,by omega⟩,N,h2.1,by omega⟩
theorem zAK {x0:GE} {J:List Evt} (h:FdJ x0 J) (q1:Rq) {l:List Upl} {n:Int} {b:Str} {s:Int} {hd:Hd} {bd:Str} {li w:Bool} (hx:x0=⟨⟨l,n,b,s⟩,hd,bd,li,w,[]⟩):FdA x0 J 0 l n b s ⟨q1,hd,bd,li,w⟩ [] q1:=⟨jM _,by subst hx;rfl,rfl,jM _⟩
theorem zwH {x0:GE} {J:List Evt} (hJ:FdJ x0 J) {i:Nat} {l:List Upl} {n:Int} {b:Str} {s:Int} {c:Cn} {o:Str} {q1:Rq} (h:FdA x0 J i l n b s c o q1):zL l n∧n≤200000 - 20∧b.length≤100000∧FOk c.h.fields∧c.body.length≤30000:=by
 obtain⟨N,m,h1,h2,h3⟩:=hJ.ok;have h4:=zkm (J.take i) h1 fun e he=>hJ.ob e (List.mem_of_mem_take he);rw [← h.ev] at h4;have h5:=zkl J i;have h6:=zsU J i;obtain⟨⟨g1,g2,g3,_⟩,g4,g5⟩:=h4
 exact⟨g1,by dsimp only at g3;omega,g2,g4,by dsimp only at g5;omega⟩
theorem zAJ {x0:GE} {J:List Evt} (hJ:FdJ x0 J) {i:Nat} {l:List Upl} {n:Int} {b:Str} {s:Int} {c:Cn} {o:Str} {q1:Rq} (h:FdA x0 J i l n b s c o q1) (hi:i<J.length) (d:Evt):
  ((J.getD i d).bytes.length≤1000000∧((J.getD i d).kind=2→c.own=true))∧∀ r,evG ⟨⟨l,n,b,s⟩,c.h,c.body,c.live,c.own,[]⟩ (J.getD i d)=r→r.o.length≤30000∧FdA x0 J (i+1) r.q.l r.q.n r.q.b r.q.s ⟨c.q,r.h,r.b,r.i,r.w⟩ (o++r.o) q1:=by
 have e:J.getD i d=J[i]:=by simp [hi]
 obtain⟨N,m,h1,h2,h3⟩:=hJ.ok;have ok:=zwH hJ h;rw [e];refine⟨⟨?_,fun k=> ?_⟩,fun r hr=>⟨?_,hi,?_,h.cq,?_⟩⟩
 · have:=U2 (List.getElem_mem hi)
   omega
 · have hw:=zro hJ.mw hi k
   rw [← zwI,← h.ev] at hw;exact hw
 · rw [← hr]
   exact zzS (x:=⟨⟨l,n,b,s⟩,c.h,c.body,c.live,c.own,[]⟩) ok.1 ok.2.2.2.1 _
 · rw [jB hi,U0,← h.ev]
   show _=evG _ _
   rw [zyk];dsimp only;rw [hr]
 · have h7:r.o.length≤30000:=by
    rw [← hr];exact zzS (x:=⟨⟨l,n,b,s⟩,c.h,c.body,c.live,c.own,[]⟩) ok.1 ok.2.2.2.1 _
   have:=h.ol;rw [jk];omega
theorem zye {q:Sto} {c0:Cn} {x:Str} {l:List Upl} {n:Int} {b:Str} {s:Int} {c:Cn} {o:Str} {i:Nat} (h:FdA ⟨q,c0.h,c0.body,c0.live,c0.own,[]⟩ (yO (zT c0.q x).out) i l n b s c o (zT c0.q x)) (hi: ¬ i<(yO (zT c0.q x).out).length) (hp: ¬ c0.q.pos=4):(⟨l,n,b,s⟩:Sto)=fdQ q c0 x∧c=fdC q c0 x∧o=fdO q c0 x:=by
 have e:=h.ev
 rw [jq (by omega)] at e
 have e':(⟨⟨l,n,b,s⟩,c.h,c.body,c.live,c.own,o⟩:GE)=fedE q c0 x:=e;unfold fdQ fdC fdO fedC;rw [if_neg hp,if_neg hp,if_neg hp,← e'];refine⟨rfl,?_,rfl⟩;have:=h.cq;cases c;simp only at this;rw [this]
end Go.Proofs.YtkjepecoodjbmaaGreatDoor
namespace Go.Proofs.YtkjepecoodjbmaaGreatDoor
open Go Go.Sep Go.Ab
theorem zsA (x:GE) (s t:Str):evG (evG x (evB s)) (evB t)=evG x (evB (s++t)):=by
 simp [evG,evB]
theorem znj (x:GE) {e:Evt} (h:e.kind=2):evG x e=evG x (evB e.bytes):=by
 simp [evG,evB,h]
theorem zoV (x:GE) (o:List Evt) (e:Evt):evsG x (tu o e)=evsG x (o++[e]):=by
 rcases List.eq_nil_or_concat o with rfl|⟨z,y,rfl⟩
 · rfl
 · rw [List.concat_eq_append,xI]
   split
   · rename_i h
     rw [U0,jo,U0]
     show evG (evsG x z) (evB (y.bytes++e.bytes))=evG (evG (evsG x z) y) e
     rw [znj _ h.1,znj (evsG x z) h.2,zsA]
   · rfl
theorem zex (x:GE): ∀ (l o:List Evt),evsG x (l.foldl tu o)=evsG x (o++l)
 |[],o=>by simp
 | e::l,o=>by
   rw [List.foldl_cons,zex x l,U0,zoV,← U0];simp
theorem zsy (x:GE) (l:List Evt):evsG x (yO l)=evsG x l:=zex x l []
theorem zgQ: ∀ (b:Str) {q:Rq},q.pos=4→qy q b=q
 |[],_,_=>rfl
 | c ::b,q,h=>by
   have:rqF q c=q:=by
    unfold rqF
    rw [if_neg (by omega),if_neg (by omega),if_neg (by omega)]
   show qy (rqF q c) b=q
   rw [this];exact zgQ b h
theorem zyd (q:Sto) (c:Cn) (b:Str):fedE q c b=evsG ⟨q,c.h,c.body,c.live,c.own,[]⟩ (zT c.q b).out:=zsy _ _
theorem zfT {q:Sto} {c:Cn} {b:Str} (h:c.q.pos=4):fedE q c b=⟨q,c.h,c.body,c.live,c.own,[]⟩∧zT c.q b= { c.q with out:=[]}:=by
 have:zT c.q b= { c.q with out:=[]}:=zgQ b (q:= { c.q with out:=[]}) h
 rw [zyd,this];exact⟨rfl,rfl⟩
def ziQ (c:Cn):Cn:= { c with q:=zqG c.q}
theorem zsn (q:Sto) (c:Cn) (b:Str):fdQ q c b=(fedE q c b).q:=by
 unfold fdQ
 split
 · rename_i h;rw [(zfT h).1]
 · rfl
theorem zzQ (q:Sto) (c:Cn) (b:Str):ziQ (fdC q c b)=ziQ (fedC q c b):=by
 unfold fdC
 split
 · rename_i h
   unfold fedC;rw [(zfT (q:=q) h).1,(zfT (q:=q) h).2];rfl
 · rfl
theorem zAm:SOk ⟨[],0,[],0⟩ 0:=⟨ze2,by decide,by decide,by decide,by decide⟩
theorem zvO {c d:Cn} (h:ziQ c=ziQ d) {k:Nat} (hc:CnI c k):CnI d k:=by
 obtain⟨cq,ch,cb,ci,cw⟩:=c;obtain⟨dq,dh,db,di,dw⟩:=d;simp only [ziQ,Cn.mk.injEq] at h;obtain⟨h1,rfl,rfl,rfl,rfl⟩:=h
 have hp:cq.pos=dq.pos:=by show(zqG cq).pos=(zqG dq).pos;rw [h1]
 refine⟨?_,hc.2.1,hc.2.2.1,fun k=>hc.2.2.2 (by rw [hp];exact k)⟩
 have:=hc.1
 have e:({ cq with out:=[]}:Rq)= { dq with out:=[]}:=h1
 rw [e] at this;exact this
theorem zAI {q:Sto} {m:Int} {c:Cn} {k:Nat} (hq:SOk q m) (h:CnI c k) {b:Str} (hb:k+b.length≤1000000):SOk (fdQ q c b) (m+12 * b.length)∧CnI (fdC q c b) (k+b.length):=by
 obtain⟨h1,h2⟩:=zzO hq h hb;rw [zsn];exact⟨h1,zvO (zzQ q c b).symm h2⟩
end Go.Proofs.YtkjepecoodjbmaaGreatDoor
namespace Go.Proofs.YtkjepecoodjbmaaGreatDoor
open Go Go.Sep Go.Ab
def rqHd (m t:Str):Str:=m++[32]++t++[32,72,84,84,80,47,49,46,49]
def rqwC (m t:Str) (fs:List Fld) (b:Str):Int:=
 if wZ m=false then 6
 else if Lib.hasPrefix t [47]=false then 5
 else if Lib.containsAny t [32,9]=true then 5
 else if yN t=false then 5
 else if 200<(rqHd m t).length then 4
 else if 4000<b.length then 4
 else if 15<fs.length then 8
 else if 0<(valsF fs qB).length+(valsF fs Vt).length then 12
 else if(oneF (valsF fs ZF)).2≠0 then 13
 else badF fs
def rqwT (m t:Str) (fs:List Fld) (b:Str):Str:=
 if rqwC m t fs b=0 then rqHd m t++[13,10]++xE fs++YE b.length++b else []
end Go.Proofs.YtkjepecoodjbmaaGreatDoor
namespace Go.Proofs.YtkjepecoodjbmaaGreatDoor
open Go Go.Sep Go.Ab Go.Jrn
def CanE (e:Ent):Prop:=∃ n x,(0≤x.op∧x.op≤5)∧e=zAk n x
def st (W:List Ent):List Upl × Int:=replay ([],0) W
structure Hist (q:Sto) (W:List Ent) (k:Nat):Prop where
 may: ∀ e ∈ W,mayM e=true
 bytes:q.b=zI W
 rep:st W=(q.l,q.n)
 acc: ∀ j (h:j<W.length),zg5 (st (W.take j)).1 (st (W.take j)).2 W[j]=0∧CanE W[j]
 kle:k≤W.length
 sure:q.s=(zI (W.take k)).length
 b:q.b.length≤100000
theorem zvI (e:Ent):1≤(encB e).length:=by
 have:=xA ((enc3 e).length+1);unfold encB;rw [jk];omega
theorem zeB: ∀ W:List Ent,W.length≤(zI W).length
 |[]=>jL _
 | e::W=>by
   have:=zeB W;have:=zvI e;simp only [zI,jk,jh];omega
theorem zkn (W:List Ent) (k:Nat):(zI (W.take k)).length≤(zI W).length:=by
 have:=congrArg (fun l=>(zI l).length) (List.take_append_drop k W);simp only [Yj,jk] at this;omega
theorem zxQ {q:Sto} {W:List Ent} {k:Nat} (h:Hist q W k):zAT q:=by
 have h1:=V6 W ([],0) ze2;have h2:=zaz W ([],0);have h3:=h.rep;unfold st at h3;rw [h3] at h1 h2;have h4:=zeB W;have h5:=h.b;rw [h.bytes] at h5;have h6:=zkn W k;refine⟨h1,?_,h.b,?_,?_⟩
 · simp only at h2;omega
 · rw [h.sure];omega
 · rw [h.sure,h.bytes];omega
theorem zu4:Hist ⟨[],0,[],0⟩ [] 0:=⟨fun _ h=>(by cases h),rfl,rfl,fun j h=>absurd h (Nat.not_lt_zero _),jL _,rfl,by decide⟩
theorem zrN {q:Sto} {W:List Ent} {k:Nat} (h:Hist q W k):Hist ⟨q.l,q.n,q.b,(q.b.length:Int)⟩ W W.length:=
 ⟨h.may,h.bytes,h.rep,h.acc,jL _,by rw [List.take_length];show(q.b.length:Int)=_;rw [h.bytes],h.b⟩
theorem zoy {q:Sto} {W:List Ent} {k:Nat} (h:Hist q W k) {e:Ent} (hc:CanE e) (h0:wrtC q.l q.n q.b e=0):
  Hist ⟨wrtL q.l q.n q.b e,wrtN q.l q.n q.b e,wrtB q.l q.n q.b e,q.s⟩ (W++[e]) k:=by
 obtain⟨h1,h2,h3⟩:=zeK h0;have hrep:=h.rep;refine⟨fun x hx=> ?_,?_,?_,fun j hj=> ?_,?_,?_,?_⟩
 · rcases List.mem_append.1 hx with hx|hx
   · exact h.may x hx
   · rw [List.mem_singleton.1 hx];exact h2
 · show wrtB q.l q.n q.b e=_
   unfold wrtB;rw [if_pos h0,h.bytes,Yj]
   simp [zI]
 · show st (W++[e])=(wrtL q.l q.n q.b e,wrtN q.l q.n q.b e)
   unfold st at *;rw [Sj,hrep];unfold wrtL wrtN;rw [if_pos h0,if_pos h0];rfl
 · rw [jk] at hj
   rcases Nat.lt_or_ge j W.length with hl|hl
   · rw [List.take_append_of_le_length (by omega),List.getElem_append_left hl]
     exact h.acc j hl
   · have:j=W.length:=by simp at hj;omega
     subst this
     have e1:(W++[e]).take W.length=W:=by simp
     have e2:(W++[e])[W.length]'(by simp)=e:=by simp
     rw [e1,e2,hrep];exact⟨h1,hc⟩
 · rw [jk];have:=h.kle;omega
 · show q.s=_
   rw [List.take_append_of_le_length h.kle];exact h.sure
 · show(wrtB q.l q.n q.b e).length≤100000
   exact ZJ e h.b
def QI (q:Sto) (keep:Int):Nat:=(q.s+min (max keep 0) (q.b.length - q.s)).toNat
theorem zoz {q:Sto} {W:List Ent} {k:Nat} (h:Hist q W k) (keep:Int): ∃ j,k≤j∧j≤W.length∧(∀ i,i<W.length→((zI (W.take (i+1))).length≤QI q keep↔i<j))∧
  crsP q.b q.s keep=st (W.take j)∧crsB q.b q.s keep=zI (W.take j)∧
  Hist ⟨(crsP q.b q.s keep).1,(crsP q.b q.s keep).2,crsB q.b q.s keep,((crsB q.b q.s keep).length:Int)⟩ (W.take j) j:=by
 have hs:=zxQ h;have hs0:=hs.s0;have hs1:=hs.s1;have hb:=h.bytes
 have hK:QI q keep≤(zI W).length:=by unfold QI;rw [hb] at *;omega
 have hK2:(zI (W.take k)).length≤QI q keep:=by have:=h.sure;unfold QI;omega
 obtain⟨j,h1,h2,h3,h4,h5⟩:=torn W (QI q keep) h.may hK
 have hcr:crB q.b q.s keep=(zI W).take (QI q keep):=by unfold crB QI;rw [hb]
 have hkj:k≤j:=by
  rcases Nat.lt_or_ge j k with hlt|hge
  · exfalso
    have:=(h3 (k - 1) (by have:=h.kle;omega)).1 (by rw [show k - 1+1=k by omega];exact hK2)
    omega
  · exact hge
 have hP:crsP q.b q.s keep=st (W.take j):=by unfold crsP crsE;rw [hcr,h4];rfl
 have hlen:((zI W).take (QI q keep)).length=QI q keep:=by rw [jv];omega
 have hu:zbr ((zI W).take (QI q keep))=((zI (W.take j)).length:Int):=by unfold zbr;rw [hlen];omega
 have hpre:(zI W).take (zI (W.take j)).length=zI (W.take j):=by
  have:zI W=zI (W.take j)++zI (W.drop j):=by rw [← Yj,List.take_append_drop]
  rw [this];simp
 have hB:crsB q.b q.s keep=zI (W.take j):=by
  unfold crsB cuB;rw [hcr,hu,hlen]
  split
  · rw [jJ,List.take_take,Nat.min_eq_left h2,hpre]
  · rw [show QI q keep=(zI (W.take j)).length by omega,hpre]
 refine⟨j,hkj,h1,h3,hP,hB,?_⟩
 have hjl:(W.take j).length=j:=by rw [jv];omega
 refine⟨fun e he=>h.may e ((List.take_sublist j W).subset he),hB,hP.symm,fun i hi=> ?_,by rw [hjl];exact jL _,?_,?_⟩
 · rw [List.take_take,List.getElem_take,Nat.min_eq_left (by omega)]
   exact h.acc i (by omega)
 · show((crsB q.b q.s keep).length:Int)=_
   rw [hB,List.take_take,Nat.min_self]
 · show(crsB q.b q.s keep).length≤100000
   have:=znu q.b q.s keep;have:=h.b;omega
end Go.Proofs.YtkjepecoodjbmaaGreatDoor
namespace Go.Proofs.YtkjepecoodjbmaaGreatDoor
open Go Go.Sep Go.Ab Go.Jrn
structure PO where (c:Int) (b u:Str)
structure PS where (g:GS) (t:List Int)
def ps0:PS:=⟨gs0,[]⟩
def sJ (id:Int):Str:=[47,116,97,107,101,47]++decS id
def zfK:Fld:=⟨[72,111,115,116],[105,110,108,97,110,100]⟩
def ZR (x:Str):List Fld:=if x=[] then [zfK] else [zfK,⟨zc3,x⟩]
def begE (id:Int):Ent:=⟨5,id,0,[]⟩
def endE (id:Int):Ent:=⟨6,id,0,[]⟩
def uU (q:Sto) (id:Int):Sto:=if wsC q (begE id)≠0 then wsS q (begE id) else syS (wsS q (begE id))
def zbN (q:Sto) (id:Int):Upl:=getU (uU q id).l id
def QE (q:Sto) (id:Int):PO:=
 if wsC q (begE id)≠0 then⟨wsC q (begE id),[],[]⟩
 else⟨rqwC YV (sJ id) (ZR (zbN q id).note) (zbN q id).bytes,[],rqwT YV (sJ id) (ZR (zbN q id).note) (zbN q id).bytes⟩
def zbO (q:Sto) (id:Int) (t:List Int):List Int:=if wsC q (begE id)≠0 then t else t++[id]
def zbw (q:Sto) (id:Int):Sto:=if wsC q (endE id)≠0 then wsS q (endE id) else syS (wsS q (endE id))
def crsQ (q:Sto) (k:Int):Sto:=⟨(crsP q.b q.s k).1,(crsP q.b q.s k).2,crsB q.b q.s k,((crsB q.b q.s k).length:Int)⟩
def GS.set (g:GS) (q:Sto):GS:= { g with q:=q}
def doG (g:GS) (x:Stp):GS:=
 if x.kind=1 then(if inG x.conn then g.put x.conn (fdC g.q (g.at x.conn) x.bytes) (fdQ g.q (g.at x.conn) x.bytes) else g)
 else if x.kind=2 then(if inG x.conn then g.put x.conn cn0 (Y6 g.q (g.at x.conn)) else g)
 else if x.kind=3 then g.set (uU g.q x.n)
 else if x.kind=4 then g.set (zbw g.q x.n)
 else if x.kind=5 then⟨crsQ g.q x.n,cn0,cn0,cn0,cn0⟩
 else g
def doT (p:PS) (x:Stp):List Int:=if x.kind=3 then zbO p.g.q x.n p.t else p.t
def doO (g:GS) (x:Stp):PO:=
 if x.kind=1 then(if inG x.conn then⟨fdK (g.at x.conn),fdO g.q (g.at x.conn) x.bytes,[]⟩ else⟨1,[],[]⟩)
 else if x.kind=2 then⟨if inG x.conn then 0 else 1,[],[]⟩
 else if x.kind=3 then QE g.q x.n
 else if x.kind=4 then⟨wsC g.q (endE x.n),[],[]⟩
 else if x.kind=5 then⟨0,[],[]⟩
 else⟨11,[],[]⟩
def doP (p:PS) (x:Stp):PS:=⟨doG p.g x,doT p x⟩
structure GsI (g:GS) (m:Int) (N:Nat):Prop where
 q:SOk g.q m
 c0:CnI g.c0 N
 c1:CnI g.c1 N
 c2:CnI g.c2 N
 c3:CnI g.c3 N
theorem gi_0:GsI gs0 0 0:=⟨zAm,zo0,zo0,zo0,zo0⟩
theorem zj9 {g:GS} {m m':Int} {N N':Nat} (h:GsI g m N) (h1:m≤m') (h2:N≤N'):GsI g m' N':=
 ⟨xg h.q h1,Ym h.c0 h2,Ym h.c1 h2,Ym h.c2 h2,Ym h.c3 h2⟩
theorem zzB {g:GS} {m:Int} {N:Nat} (h:GsI g m N) (k:Int):CnI (g.at k) N:=by
 unfold GS.at
 repeat' split
 all_goals first|exact h.c0|exact h.c1|exact h.c2|exact h.c3
theorem zwx {g:GS} {m m':Int} {N N':Nat} (h:GsI g m N) (hN:N≤N') (k:Int) {c:Cn} {q:Sto} (hc:CnI c N') (hq:SOk q m'):GsI (g.put k c q) m' N':=by
 have hi: ∀ {p:Prop} [Decidable p] {d:Cn},CnI d N→CnI (if p then c else d) N':=fun hd=>by
  split
  · exact hc
  · exact Ym hd hN
 exact⟨hq,hi h.c0,hi h.c1,hi h.c2,hi h.c3⟩
theorem zww {g:GS} {m m':Int} {N:Nat} (h:GsI g m N) {q:Sto} (hq:SOk q m'):GsI (g.set q) m' N:=⟨hq,h.c0,h.c1,h.c2,h.c3⟩
theorem znl: ∀ W:List Ent,4 * W.length≤(zI W).length
 |[]=>jL _
 | e ::W=>by
   have h1:=znl W;have h2:=xA ((enc3 e).length+1);have h3:=xA (e.kind+1).toNat;have h4:=xA (e.id+1).toNat;have h5:=xA (e.n+1).toNat
   have h6:4≤(encB e).length:=by
    unfold encB;rw [jk]
    have:3≤(enc3 e).length:=by unfold enc3;simp only [jk];omega
    omega
   simp only [zI,jk,jh];omega
theorem zw9 {q:Sto} {m:Int} (h:SOk q m) (k:Int):SOk (crsQ q k) 25000:=by
 have h1:=zf5 q.b q.s k;have h3:=Jrn.zf2 _ (crB q.b q.s k) (jL _);have h4:=congrArg List.length h3.1;rw [jk] at h4;have h5:=znl (crsE q.b q.s k);have h6:=zaz (crsE q.b q.s k) ([],0);have h7:=znu q.b q.s k;have h8:=h.2.1;unfold crsE at h5
 refine⟨V6 _ ([],0) ze2,by show(crsB q.b q.s k).length≤_;omega,?_,Int.natCast_nonneg _,Int.le_refl _⟩
 show(replay ([],0) (crsE q.b q.s k)).2≤_
 dsimp only at h6;unfold crsE at h6 ⊢;omega
theorem zlr {q:Sto} {m:Int} (h:SOk q m) (id:Int):SOk (uU q id) m:=by
 have h1:SOk (wsS q (begE id)) m:=YN h (by simp [begE])
 unfold uU
 split
 · exact h1
 · exact RX h1
theorem ztS {q:Sto} {m:Int} (h:SOk q m) (id:Int):SOk (zbw q id) m:=by
 have h1:SOk (wsS q (endE id)) m:=YN h (by simp [endE])
 unfold zbw
 split
 · exact h1
 · exact RX h1
theorem ztT {q:Sto} {m:Int} (h:SOk q m) (c:Cn):SOk (Y6 q c) (m+1):=by
 unfold Y6
 split
 · exact zgG h _ _ _ _
 · exact xg h (by omega)
theorem zAH {g:GS} {m:Int} {N:Nat} (h:GsI g m N) (hm:25000≤m) (x:Stp) (hb:N+x.bytes.length≤1000000):GsI (doG g x) (m+12 * x.bytes.length+1) (N+x.bytes.length):=by
 have h0:GsI g (m+12 * x.bytes.length+1) (N+x.bytes.length):=zj9 h (by omega) (by omega)
 unfold doG
 repeat' with_reducible split
 · have:=zAI h.q (zzB h x.conn) (b:=x.bytes) hb
   exact zwx h (by omega) _ this.2 (xg this.1 (by omega))
 · exact h0
 · exact zwx h (by omega) _ (Ym zo0 (by omega)) (xg (ztT h.q _) (by omega))
 · exact h0
 · exact zww h0 (xg (zlr h.q _) (by omega))
 · exact zww h0 (xg (ztS h.q _) (by omega))
 · have h1:CnI cn0 (N+x.bytes.length):=Ym zo0 (by omega)
   exact⟨xg (zw9 h.q _) (by omega),h1,h1,h1,h1⟩
 · exact h0
end Go.Proofs.YtkjepecoodjbmaaGreatDoor
namespace Go.Proofs.YtkjepecoodjbmaaGreatDoor
open Go Go.Sep Go.Ab Go.Jrn
theorem zoA {q:Sto} {W:List Ent} (h:Hist q W W.length) (keep:Int):(crsP q.b q.s keep)=(q.l,q.n)∧crsB q.b q.s keep=q.b∧q.s=(q.b.length:Int):=by
 obtain⟨j,h1,h2,h3,h4,h5,h6⟩:=zoz h keep
 have hj:j=W.length:=by omega
 subst hj;rw [List.take_length] at h4 h5
 refine⟨by rw [h4,h.rep],by rw [h5,h.bytes],?_⟩
 have:=h.sure;rw [List.take_length] at this;rw [this,h.bytes]
end Go.Proofs.YtkjepecoodjbmaaGreatDoor
namespace Go.Proofs.YtkjepecoodjbmaaGreatDoor
open Go Go.Sep Go.Ab Go.Jrn
theorem ztg {l:List Upl} {id:Int} {u:Upl} (h:atU l id<l.length) (hu:u.id=id):atU (l.set (atU l id) u) id=atU l id:=by
 have hlen:(l.set (atU l id) u).length=l.length:=List.length_set ..
 have h2: ∀ (l:List Upl) (i:Nat),i<l.length→(l.getD i upl0).id=u.id→(l.set i u).findIdx (fun x=>x.id == id)=l.findIdx (fun x=>x.id == id):=by
  intro l
  induction l with
  |nil=>intro i hi;simp at hi
  | cons a r ih=>
    intro i hi hid
    cases i with
    | zero=>
      simp only [List.getD_cons_zero] at hid
      simp [List.set,List.findIdx_cons,hid]
    | succ i=>
      simp only [jh] at hi;simp only [List.getD_cons_succ] at hid;simp only [List.set,List.findIdx_cons]
      rw [ih i (by omega) hid]
 have h3:=uJ h;unfold zQ at h3
 exact h2 l (atU l id) h (by rw [hu];exact h3)
theorem ziH (e:Ent) (hk:1≤e.kind∧e.kind≤6):(encM e).length≤31+e.text.length∧(e.n=0→(encM e).length≤22+e.text.length):=by
 unfold encM
 split
 · have h1:=xA ((enc3 e).length+1)
   have h2:=xA (e.id+1).toNat;have h3:=xA (e.n+1).toNat
   have h4:(sev (e.kind+1).toNat).length=1:=by rw [YO (by omega)];rfl
   unfold encB enc3;unfold enc3 at h1
   have h5:e.n=0→(sev (e.n+1).toNat).length=1:=fun h=>by rw [h];rfl
   simp only [jk] at *
   refine⟨by omega,fun h=> ?_⟩
   have:=h5 h;omega
 · exact⟨by simp,fun _=>by simp⟩
theorem zsJ {q:Sto} {u:Upl} {body:Str} {nv sz:Int} (hb:getB q.l u.id=true) (hu:getU q.l u.id=u) (hnv:nv=(u.bytes.length:Int)) (hid:1≤u.id∧u.id≤200000)
  (h1:wsC q (apE u.id body)=0) (hz:0≤sz) (hz2:sz≤2000) (hz3:nv+(body.length:Int)≤sz) (hus:u.size<0) (hr:TY q.b ((body.length:Int)+60)=true):wsC (wsS q (apE u.id body)) ⟨3,u.id,sz,[]⟩=0:=by
 have hat:atU q.l u.id<q.l.length:=by unfold getB at hb;simpa using hb
 have hup:zQ q.l u.id=u:=by unfold getU at hu;rwa [if_pos hat] at hu
 unfold TY at hr
 have hroom:0≤(body.length:Int)+60∧(body.length:Int)+60≤100000 - (q.b.length:Int):=by simpa using hr
 unfold wsC at h1 ⊢
 have hl:(wsS q (apE u.id body)).l=q.l.set (atU q.l u.id) { zQ q.l u.id with bytes:=(zQ q.l u.id).bytes++body}:=by
  show wrtL _ _ _ _=_
  unfold wrtL;rw [if_pos h1]
  have hap:appC q.l u.id (getU q.l u.id).bytes.length body=0:=by
   unfold wrtC at h1
   split at h1
   · contradiction
   · rename_i hc
     simp only [Decidable.not_not] at hc;exact hc
  show Sz _ _ _=_
  unfold Sz
  rw [if_neg (by simp [apE]),if_pos (by simp [apE])]
  show appL q.l u.id (getU q.l u.id).bytes.length body=_
  unfold appL;rw [if_pos hap]
 have hB:(wsS q (apE u.id body)).b=q.b++encB (apE u.id body):=by
  show wrtB _ _ _ _=_
  unfold wrtB;rw [if_pos h1]
 have hat2:atU (wsS q (apE u.id body)).l u.id=atU q.l u.id:=by rw [hl];exact ztg hat (by rw [hup])
 have hlen:(wsS q (apE u.id body)).l.length=q.l.length:=by rw [hl,List.length_set]
 have hup2:zQ (wsS q (apE u.id body)).l u.id= { u with bytes:=u.bytes++body}:=by
  unfold zQ;rw [hat2,hl]
  simp [jH,hat,hup]
 unfold wrtC
 have hp:zg5 (wsS q (apE u.id body)).l (wsS q (apE u.id body)).n ⟨3,u.id,sz,[]⟩=0:=by
  show decC (wsS q (apE u.id body)).l u.id sz=0
  unfold decC
  rw [hat2,hlen,hup2,if_neg (by omega),if_neg (by simp only;omega),if_neg (by omega),if_neg (by simp only [jk];omega)]
 have hm:mayM (apE u.id body)=true:=by
  unfold wrtC at h1
  rw [if_neg (by intro hc;rw [if_pos hc] at h1;exact hc h1)] at h1
  unfold encC at h1
  cases hq:mayM (apE u.id body) with
  |true=>rfl
  |false=>rw [hq] at h1;simp at h1
 have he:encC ⟨3,u.id,sz,[]⟩=0:=by
  unfold encC
  rw [if_pos (by unfold mayM few;simp only [jK,decide_eq_true_eq,ji];omega)]
 rw [hp,he,if_neg (by simp),if_neg (by simp)]
 have e1:=(ziH (apE u.id body) (by simp [apE])).2 rfl
 have e2:=(ziH ⟨3,u.id,sz,[]⟩ (by simp)).1
 unfold wrC;rw [hB];rw [if_pos];unfold encM at e1;rw [if_pos hm] at e1;simp only [jk,ji] at *;simp only [apE] at *;omega
end Go.Proofs.YtkjepecoodjbmaaGreatDoor
namespace Go.Proofs.YtkjepecoodjbmaaGreatDoor
open Go Go.Sep Go.Ab Go.Jrn
def zgq (q:Sto) (r:TA):Prop:=(400≤r.st→r.q=q)∧(r.st<400→r.q=q∨r.q.s=(r.q.b.length:Int))
theorem te3 {q:Sto} {c:Prop} [Decidable c] {a b:TA} (ha:c→zgq q a) (hb: ¬ c→zgq q b):zgq q (if c then a else b):=by split<;>simp_all
theorem yM {q:Sto} {st:Int} {fs:List Fld}:zgq q ⟨st,fs,q⟩:=⟨fun _=>rfl,fun _=>.inl rfl⟩
theorem Q9 {q q':Sto} {st:Int} {fs:List Fld} (h:st<400):zgq q ⟨st,fs,syS q'⟩:=⟨fun h2=>by simp only at h2;omega,fun _=>.inr rfl⟩
theorem ziO (q:Sto) (f:List Fld):zgq q (xM q f):=by
 unfold xM
 repeat' with_reducible refine te3 (fun _=> ?_) (fun _=> ?_)
 all_goals first|exact yM|exact Q9 (by decide)
theorem zoX (q:Sto) (u:Upl):zgq q (U4 q u):=by
 unfold U4
 exact te3 (fun _=>yM) (fun _=>Q9 (by decide))
theorem zjL {q:Sto} {u:Upl} (f:List Fld) (body:Str) (hb:getB q.l u.id=true) (hu:getU q.l u.id=u) (hid:1≤u.id∧u.id≤200000):zgq q (vw q u f body):=by
 unfold vw
 refine te3 (fun _=>yM) (fun _=>te3 (fun _=>yM) (fun _=>te3 (fun _=>yM) (fun _=>te3 (fun _=>yM) (fun h1=>te3 (fun _=>yM) (fun h2=>te3 (fun _=>yM) (fun _=>te3 (fun _=>yM) (fun h3=>te3 (fun _=>yM) (fun h4=>te3 (fun _=>yM) (fun h5=>te3 (fun _=>yM) (fun h6=>te3 (fun h7=>te3 (fun h8=> ?_) (fun _=>Q9 (by decide))) (fun _=>Q9 (by decide))))))))))))
 refine absurd (zsJ (nv:=zS f Zc) (sz:=zS f yQ) hb hu (by simpa using h2) hid ?_ h7.1 ?_ ?_ h7.2 (by simpa using h5)) h8
 · by_cases hg:apG q.l u.id (zS f Zc)=true
   · rw [if_pos hg] at h6;exact absurd (by decide) h6
   · rw [if_neg hg] at h6;simpa using h6
 · have h9: ¬ (2000<zS f yQ∨zS f yQ<zS f Zc+(body.length:Int)):=fun h=>h4 ⟨h7.1,h7.2,h⟩
   omega
 · have h9: ¬ (2000<zS f yQ∨zS f yQ<zS f Zc+(body.length:Int)):=fun h=>h4 ⟨h7.1,h7.2,h⟩
   omega
theorem zxV {l:List Upl} {id:Int} (h:getB l id=true):(getU l id).id=id∧getU l id ∈ l:=by
 have hat:atU l id<l.length:=by unfold getB at h;simpa using h
 unfold getU;rw [if_pos hat];exact⟨uJ hat,vk hat⟩
theorem zjs {q:Sto} (hs:zL q.l q.n) (hn:q.n≤200000) (m t:Str) (f:List Fld) (body:Str):zgq q (yG q m t f body):=by
 unfold yG;refine te3 (fun _=>yM) (fun _=>te3 (fun _=>yM) (fun _=>te3 (fun _=>yM) (fun _=>te3 (fun _=>te3 (fun _=>yM) (fun _=>ziO _ _)) (fun _=>te3 (fun _=>yM) (fun h1=>te3 (fun _=>yM) (fun _=>te3 (fun _=> ?_) (fun _=>te3 (fun _=>zoX _ _) (fun _=>yM))))))))
 have h2:getB q.l (idV t)=true:=by
  unfold uplB at h1;simp only [Bool.not_eq_false,jK] at h1;exact h1.2
 have h3:=zxV h2;have h4:=hs.ids _ h3.2
 exact zjL f body (by rw [h3.1];exact h2) (by rw [h3.1]) (by omega)
end Go.Proofs.YtkjepecoodjbmaaGreatDoor
namespace Go.Proofs.YtkjepecoodjbmaaGreatDoor
open Go Go.Sep Go.Ab Go.Jrn
def Hs (q:Sto):Prop:=∃ W k,Hist q W k
def Full (q:Sto):Prop:=∃ W,Hist q W W.length
theorem zcx {q:Sto} (h:Full q):Hs q:=h.elim fun W h=>⟨W,_,h⟩
theorem zzE:Full ⟨[],0,[],0⟩:=⟨[],zu4⟩
theorem full_of {q:Sto} (h:Hs q) (e:q.s=(q.b.length:Int)):Full q:=by
 obtain⟨W,k,h⟩:=h
 exact⟨W,h.may,h.bytes,h.rep,h.acc,jL _,by rw [List.take_length,e,h.bytes],h.b⟩
theorem zu3 {q:Sto} (h:Hs q):Full (syS q):=by
 obtain⟨W,k,h⟩:=h;exact⟨W,zrN h⟩
theorem zwU {q:Sto} {e:Ent} (h:wsC q e≠0):wsS q e=q:=by
 unfold wsC at h;unfold wsS wrtL wrtN wrtB;rw [if_neg h,if_neg h,if_neg h]
theorem zxP {q:Sto} (h:Hs q) {e:Ent} (hc:CanE e):Hs (wsS q e):=by
 by_cases h0:wsC q e=0
 · obtain⟨W,k,h⟩:=h
   exact⟨_,k,zoy h hc h0⟩
 · rw [zwU h0];exact h
theorem zs7 (q:Sto) (n:Int) (t:Str):CanE (creE q n t):=⟨q.n,⟨0,0,n,t⟩,by simp,rfl⟩
theorem zwQ (id:Int) (x:Str):CanE (apE id x):=⟨0,⟨1,id,0,x⟩,by simp,rfl⟩
theorem zyp (id n:Int):CanE ⟨3,id,n,[]⟩:=⟨0,⟨2,id,n,[]⟩,by simp,rfl⟩
theorem zgb (id:Int):CanE ⟨4,id,0,[]⟩:=⟨0,⟨3,id,0,[]⟩,by simp,rfl⟩
theorem zkz (id:Int):CanE (begE id):=⟨0,⟨4,id,0,[]⟩,by simp,rfl⟩
theorem zky (id:Int):CanE (endE id):=⟨0,⟨5,id,0,[]⟩,by simp,rfl⟩
inductive Rch (a:Sto):Sto→Prop
 |nil:Rch a a
 |ws {q:Sto} {e:Ent}:Rch a q→CanE e→Rch a (wsS q e)
 |sy {q:Sto}:Rch a q→Rch a (syS q)
theorem Rch.hs {a q:Sto} (h:Rch a q) (k:Hs a):Hs q:=by
 induction h with
 |nil=>exact k
 |ws _ hc ih=>exact zxP ih hc
 |sy _ ih=>exact zcx (zu3 ih)
theorem Rch.trans {a q r:Sto} (h:Rch a q) (k:Rch q r):Rch a r:=by
 induction k with
 |nil=>exact h
 |ws _ hc ih=>exact .ws ih hc
 |sy _ ih=>exact .sy ih
theorem zux {a0:Sto} {c:Prop} [Decidable c] {a b:TA} (ha:Rch a0 a.q) (hb:Rch a0 b.q):Rch a0 (if c then a else b).q:=by split<;>assumption
theorem zfg {a q:Sto} (h0:Rch a q) (m t:Str) (f:List Fld) (body:Str):Rch a (yG q m t f body).q:=by
 have hc:Rch a (xM q f).q:=by
  unfold xM
  repeat' with_reducible refine zux ?_ ?_
  all_goals first|exact h0|exact Rch.sy ((Rch.ws h0 (zs7 _ _ _)))
 have hd: ∀ u,Rch a (U4 q u).q:=fun u=>by
  unfold U4;exact zux h0 (Rch.sy ((Rch.ws h0 (zgb _))))
 have hp: ∀ u,Rch a (vw q u f body).q:=fun u=>by
  unfold vw;have h1:Rch a (wsS q (apE u.id body)):=Rch.ws h0 (zwQ _ _);have h2: ∀ z,Rch a (wsS (wsS q (apE u.id body)) ⟨3,u.id,z,[]⟩):=fun z=>Rch.ws h1 (zyp _ _)
  repeat' with_reducible refine zux ?_ ?_
  all_goals first|exact h0|exact h1|exact Rch.sy h1|exact Rch.sy ((h2 _))|exact h2 _
 unfold yG
 repeat' with_reducible refine zux ?_ ?_
 all_goals first|exact h0|exact hc|exact hd _|exact hp _
theorem zeb {q:Sto} {k:Int} (hq:SOk q k) (hk:k≤200000) (h:Full q) (m t:Str) (f:List Fld) (body:Str):Full (yG q m t f body).q:=by
 have h1:=zjs hq.1 (by have:=hq.2.2.1;omega) m t f body
 by_cases h2:400≤(yG q m t f body).st
 · rw [h1.1 h2];exact h
 · rcases h1.2 (by omega) with e|e
   · rw [e];exact h
   · exact full_of ((zfg .nil m t f body).hs (zcx h)) e
theorem zyX {a q:Sto} (h:Rch a q) (id off:Int) (x:Str):Rch a (apQ q id off x):=by
 unfold apQ
 split
 · exact h
 · exact Rch.ws h (zwQ _ _)
theorem zqM {a q:Sto} (h:Rch a q) (p:Prt):Rch a (sU q p):=by
 have h1:Rch a (wsS q (su q p)):=Rch.ws h (zs7 _ _ _);have h2:=zyX h1 (q.n+1) 0 p.bytes;unfold sU
 split
 · exact h1
 split
 · exact Rch.ws h2 (zgb _)
 · exact h2
theorem zl2 {a:Sto}: ∀ (ids:List Int) {q:Sto},Rch a q→Rch a (WR q ids)
 |[],_,h=>h
 |_::r,_,h=>zl2 r (Rch.ws h (zgb _))
theorem za3: ∀ (ps:List Prt) (q:Sto) (ids:List Int) (t:Str),∃ r,Rch q r∧(um q ids t ps).q=syS r
 |[],q,ids,t=>⟨q,.nil,rfl⟩
 | p ::r,q,ids,t=>by
   unfold um
   split
   · exact za3 r q ids t
   split
   · exact⟨_,zl2 ids (zqM .nil p),rfl⟩
   · obtain⟨x,h1,h2⟩:=za3 r (sU q p) (ids++[q.n+1]) (znW t (q.n+1) p)
     exact⟨x,(zqM .nil p).trans h1,h2⟩
theorem zoH (ps:List Prt) {q:Sto} (ids:List Int) (t:Str) (h:Hs q):Full (um q ids t ps).q:=by
 obtain⟨r,h1,h2⟩:=za3 ps q ids t;rw [h2];exact zu3 (h1.hs h)
theorem zyY (q:Sto) (m t:Str) (f:List Fld) (body:Str):Rch q (ansG q m t f body).q:=by
 unfold ansG
 split
 · exact zfg .nil m t f body
 split
 · exact .nil
 split
 · exact .nil
 unfold WG
 split
 · exact .nil
 split
 · exact .nil
 · obtain⟨r,h1,h2⟩:=za3 (rV f body).1 q [] []
   rw [h2];exact .sy h1
theorem zAv (x:GE) (e:Evt):Rch x.q (evG x e).q:=by
 unfold evG
 repeat' split
 all_goals first|exact .nil|exact zyY _ _ _ _ _
theorem zv7: ∀ (l:List Evt) (x:GE),Rch x.q (evsG x l).q
 |[],_=>.nil
 |e::l,x=>(zAv x e).trans (zv7 l (evG x e))
theorem zAu (q:Sto) (c:Cn) (b:Str):Rch q (fdQ q c b):=by
 rw [zsn];exact zv7 _ ⟨q,c.h,c.body,c.live,c.own,[]⟩
theorem zxm (q:Sto) (c:Cn):Rch q (Y6 q c):=by
 unfold Y6
 split
 · exact zfg .nil _ _ _ _
 · exact .nil
theorem zxl (q:Sto) (id:Int):Rch q (uU q id):=by
 unfold uU
 split
 · exact .ws .nil (zkz id)
 · exact .sy (.ws .nil (zkz id))
theorem zxk (q:Sto) (id:Int):Rch q (zbw q id):=by
 unfold zbw
 split
 · exact .ws .nil (zky id)
 · exact .sy (.ws .nil (zky id))
theorem zvf {q:Sto} {k:Int} (hq:SOk q k) (hk:k≤200000) (h:Full q) (m t:Str) (f:List Fld) (body:Str):Full (ansG q m t f body).q:=by
 unfold ansG
 split
 · exact zeb hq hk h m t f body
 split
 · exact h
 split
 · exact h
 unfold WG
 split
 · exact h
 split
 · exact h
 · exact zoH _ _ _ (zcx h)
theorem zx3 {x:GE} {m:Int} {k:Nat} (hx:EOk x m k) (hm:m≤200000) (h:Full x.q) (e:Evt):Full (evG x e).q:=by
 unfold evG
 repeat' split
 all_goals first|exact h|exact zvf hx.1 hm h _ _ _ _
theorem zmU: ∀ (l:List Evt) {x:GE} {m:Int} {k:Nat},EOk x m k→EvO l→m+12 * cnt3 l≤200000→Full x.q→Full (evsG x l).q
 |[],_,_,_,_,_,_,h=>h
 | e::l,x,m,k,hx,hl,hm,h=>by
   have e1:cnt3 (e::l)=cnt3 [e]+cnt3 l:=Yl [e] l;have h1:=zwK hx (hl e List.mem_cons_self)
   exact zmU l h1 (fun y hy=>hl y (List.mem_cons_of_mem _ hy)) (by omega) (zx3 hx (by omega) h e)
theorem zx2 {q:Sto} {m:Int} {c:Cn} {k:Nat} (hq:SOk q m) (hc:CnI c k) {b:Str} (hb:k+b.length≤1000000) (hm:m+12 * b.length≤200000) (h:Full q):Full (fdQ q c b):=by
 obtain⟨h1,h2,h3,h4⟩:=zsm hc (b:=b) hb;rw [zsn]
 exact zmU _ (x:=⟨q,c.h,c.body,c.live,c.own,[]⟩) ⟨hq,hc.2.1,hc.2.2.1⟩ h1 (by omega) h
theorem zr1 {q:Sto} {m:Int} (hq:SOk q m) (hm:m≤200000) (h:Full q) (c:Cn):Full (Y6 q c):=by
 unfold Y6
 split
 · exact zeb hq hm h _ _ _ _
 · exact h
theorem zr0 {q:Sto} (h:Full q) (id:Int):Full (uU q id):=by
 unfold uU
 split
 · rename_i h1;rw [zwU h1];exact h
 · exact zu3 (zxP (zcx h) (zkz id))
theorem zrZ {q:Sto} (h:Full q) (id:Int):Full (zbw q id):=by
 unfold zbw
 split
 · rename_i h1;rw [zwU h1];exact h
 · exact zu3 (zxP (zcx h) (zky id))
theorem zmV {q:Sto} (h:Full q) (k:Int):crsQ q k=q:=by
 obtain⟨W,h⟩:=h;obtain⟨h1,h2,h3⟩:=zoA h k;unfold crsQ;rw [h1,h2,← h3]
theorem zx4 {g:GS} {m:Int} {N:Nat} (hg:GsI g m N) (x:Stp) (hb:N+x.bytes.length≤1000000) (hm:m+12 * x.bytes.length≤200000) (h:Full g.q):Full (doG g x).q:=by
 unfold doG
 repeat' with_reducible split
 · exact zx2 hg.q (zzB hg _) hb hm h
 · exact h
 · exact zr1 hg.q (by omega) h _
 · exact h
 · exact zr0 h _
 · exact zrZ h _
 · show Full (crsQ g.q x.n)
   rw [zmV h];exact h
 · exact h
theorem zAw {g:GS} (x:Stp) (h:Full g.q):Rch g.q (doG g x).q:=by
 unfold doG
 repeat' with_reducible split
 · exact zAu _ _ _
 · exact .nil
 · exact zxm _ _
 · exact .nil
 · exact zxl _ _
 · exact zxk _ _
 · show Rch g.q (crsQ g.q x.n)
   rw [zmV h];exact .nil
 · exact .nil
end Go.Proofs.YtkjepecoodjbmaaGreatDoor
namespace Go.Proofs.YtkjepecoodjbmaaGreatDoor
open Go Go.Sep Go.Ab Go.Jrn
theorem ze6 {P:Upl→Prop} {l:List Upl} (h: ∀ u ∈ l,P u) {i:Nat} {x:Upl} (hx:P x): ∀ u ∈ l.set i x,P u:=fun u hu=>by
 rcases List.mem_or_eq_of_mem_set hu with k|rfl
 · exact h u k
 · exact hx
theorem at_mem {l:List Upl} {id:Int} (h: ¬ l.length≤atU l id):zQ l id ∈ l:=vk (by omega)
theorem zuF {P:Upl→Prop} {l:List Upl} {n:Int} {e:Ent} (h: ∀ u ∈ l,P u)
  (h1: ∀ size m,creC l size m=0→P ⟨n+1,size,m,[],0⟩)
  (h2: ∀ u,P u→u.sent=0→∀ b,P { u with bytes:=b}) (h3: ∀ u,P u→∀ z,P { u with size:=z})
  (h4: ∀ u,P u→∀ s,s≠0→P { u with sent:=s}): ∀ u ∈ Sz l n e,P u:=by
 unfold Sz creL appL decL droL begL endL
 split
 · split
   · rename_i h0
     intro u hu
     rcases List.mem_append.1 hu with k|k
     · exact h u k
     · rw [List.mem_singleton.1 k];exact h1 _ _ h0
   · exact h
 split
 · split
   · rename_i h0
     unfold appC at h0
     by_cases k1:l.length≤atU l e.id
     · rw [if_pos k1] at h0;cases h0
     rw [if_neg k1] at h0
     by_cases k2:(zQ l e.id).sent=0
     · exact ze6 h (h2 _ (h _ (at_mem k1)) k2 _)
     · rw [if_pos k2] at h0;cases h0
   · exact h
 split
 · split
   · rename_i h0
     unfold decC at h0
     by_cases k1:l.length≤atU l e.id
     · rw [if_pos k1] at h0;cases h0
     exact ze6 h (h3 _ (h _ (at_mem k1)) _)
   · exact h
 split
 · exact fun u hu=>h u (List.mem_of_mem_eraseIdx hu)
 split
 · split
   · rename_i h0
     unfold begC at h0
     by_cases k1:l.length≤atU l e.id
     · rw [if_pos k1] at h0;cases h0
     exact ze6 h (h4 _ (h _ (at_mem k1)) _ (by decide))
   · exact h
 · split
   · rename_i h0
     unfold endC at h0
     by_cases k1:l.length≤atU l e.id
     · rw [if_pos k1] at h0;cases h0
     exact ze6 h (h4 _ (h _ (at_mem k1)) _ (by decide))
   · exact h
def znS (u:Upl):Prop:=yN u.note=true∧Lib.trimS u.note [32,9]=u.note
theorem zvN {l:List Upl} {size:Int} {m:Str} (h:creC l size m=0):yN m=true∧Lib.trimS m [32,9]=m:=by
 unfold creC at h
 by_cases h1:yN m=false∨¬ Lib.trimS m [32,9]=m
 · simp only [if_pos h1] at h
   repeat' split at h
   all_goals cases h
 · constructor
   · cases hs:yN m
     · exact absurd (.inl hs) h1
     · rfl
   · exact Classical.not_not.1 fun k=>h1 (.inr k)
theorem zvW {P:Upl→Prop} {q:Sto} {e:Ent} (h: ∀ u ∈ q.l,P u)
  (h1: ∀ size m,creC q.l size m=0→P ⟨q.n+1,size,m,[],0⟩)
  (h2: ∀ u,P u→u.sent=0→∀ b,P { u with bytes:=b}) (h3: ∀ u,P u→∀ z,P { u with size:=z})
  (h4: ∀ u,P u→∀ s,s≠0→P { u with sent:=s}): ∀ u ∈ (wsS q e).l,P u:=by
 show ∀ u ∈ wrtL q.l q.n q.b e,P u
 unfold wrtL
 split
 · exact zuF h h1 h2 h3 h4
 · exact h
theorem Rch.notes {a q:Sto} (h:Rch a q) (k: ∀ u ∈ a.l,znS u): ∀ u ∈ q.l,znS u:=by
 induction h with
 |nil=>exact k
 |ws _ _ ih=>exact zvW ih (fun _ _ h0=>zvN h0) (fun _ hu _ _=>hu) (fun _ hu _=>hu) (fun _ hu _ _=>hu)
 |sy _ ih=>exact ih
def Gon (q:Sto) (id:Int):Prop:=id≤q.n∧∀ u ∈ q.l,u.id=id→u.sent≠0
theorem Rch.gon {a q:Sto} (h:Rch a q) {id:Int} (k:Gon a id):Gon q id:=by
 induction h with
 |nil=>exact k
 | @ws q e _ _ ih=>
   have hn:=(zjd q.l q.n q.b e).1
   refine⟨by show id≤wrtN q.l q.n q.b e;have:=ih.1;omega,?_⟩
   refine zvW ih.2 (fun _ _ _ he=> ?_) (fun u hu _ _=>hu) (fun u hu _=>hu) (fun u _ s hs _=>hs);have:=ih.1;dsimp only at he;omega
 |sy _ ih=>exact ih
end Go.Proofs.YtkjepecoodjbmaaGreatDoor
namespace Go.Proofs.YtkjepecoodjbmaaGreatDoor
open Go Go.Sep Go.Ab Go.Jrn
theorem VJ {q:Sto} {id:Int} (h:wsC q (begE id)=0): ¬ q.l.length≤atU q.l id∧(zQ q.l id).sent=0∧(zQ q.l id).size=(zQ q.l id).bytes.length∧(uU q id).l=q.l.set (atU q.l id) { zQ q.l id with sent:=1}:=by
 have h1:=(zeK h).1;have h2:begC q.l id=0:=h1
 have h3:(uU q id).l=begL q.l id:=by
  unfold uU
  rw [if_neg (by omega)]
  exact if_pos h
 unfold begL at h3;rw [if_pos h2] at h3;unfold begC at h2
 by_cases k1:q.l.length≤atU q.l id
 · rw [if_pos k1] at h2;cases h2
 rw [if_neg k1] at h2
 by_cases k2:(zQ q.l id).sent=0
 · rw [if_neg (by simpa using k2)] at h2
   by_cases k3:(zQ q.l id).size=(zQ q.l id).bytes.length
   · exact⟨k1,k2,k3,h3⟩
   · rw [if_pos k3] at h2;cases h2
 · rw [if_pos k2] at h2;cases h2
theorem zxS {q:Sto} {id:Int} (h:wsC q (begE id)=0): ¬ Gon q id:=fun k=>by
 obtain⟨h1,h2,_⟩:=VJ h
 exact k.2 _ (at_mem h1) (uJ (by omega)) h2
end Go.Proofs.YtkjepecoodjbmaaGreatDoor
