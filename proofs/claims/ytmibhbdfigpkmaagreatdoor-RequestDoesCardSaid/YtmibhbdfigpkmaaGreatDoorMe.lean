/- Texts of this proof, one behind the other: ReqD ReqE ReqF RplL RplA Idx ReqG ReqW ReqH ReqR Base ReqN ReqX. -/
import Derived.Laws.Runes
import Derived.Lib.OthersKept
import Derived.Deep.QuietTactic
import Derived.BigQuiet
import Derived.Shelf.Strings.IndexAnyAll
import Derived.Test.YtmibhbdfigpkmaaGreatDoorMd
set_option linter.all false
namespace Go.Proofs.YtmibhbdfigpkmaaGreatDoor
open Go Go.Sep Go.Ab
set_option maxRecDepth 100000
def rqFs (q:Rq):Prop:=FsOk q.h.fields∧q.out.length≤9000000
theorem zfF (ln:Ln) (p:Int) (m tg:Str) (hm:Int) (hf:List Fld) (hl le:Int) (out:List Evt) (hneed:xk ⟨ln,p,⟨m,tg,hm,hf,hl⟩,le,none,true,out⟩∧rqFs ⟨ln,p,⟨m,tg,hm,hf,hl⟩,le,none,true,out⟩):Spc Tryz.prog 71 [.v (.one (.ptr 0 0))] [.abs (.rq ⟨ln,p,⟨m,tg,hm,hf,hl⟩,le,none,true,out⟩)] (.ret (.v (.one (.p (.int .i64 ((yx ⟨ln,p,⟨m,tg,hm,hf,hl⟩,le,none,true,out⟩).2)))))) [.abs (.rq (((yx ⟨ln,p,⟨m,tg,hm,hf,hl⟩,le,none,true,out⟩).1)))]:=by
  obtain⟨-,hfs,hfw⟩:=hneed
  simp only at hfs hfw
  obtain⟨hf1,hf2⟩:=hfs
  generalize hr:yx ⟨ln,p,⟨m,tg,hm,hf,hl⟩,le,none,true,out⟩=r
  obtain⟨rq,rc⟩:=r
  have hhl:wX.length≤1000000:=by decide
  refine spcG zi mixed Tryz.func71 (by kernel_rfl) { cfgQ with fz:=[45],keep:=some [0,2,4,5]} [Qh,Qg,zdX,zdW,zW,zV,zZ,zY,yw,yu,yD,yC,xH,xG,qV,qU,zcS,zcR] (by kernel_rfl) ?_
  intro I X hI hX
  refine zh (let y1:=I.hid (α:=Int) (Prod.fst (lenM hm hf));let y0:=I.hid (α:=(List Go.Ab.Evt)) (HAppend.hAppend out ([(Go.Ab.Evt.mk (1:Int) (Hd.mk m tg hm hf y1) ([]:Str) (Go.Ab.Prt.mk ([]:Str) ([]:Str) ([]:Str) ([]:Str)) (0:Int))]:List Go.Ab.Evt));let y2:=I.hid (α:=Go.Ab.Rq) (yU (Go.Ab.Rq.mk (Go.Ab.Ln.mk (Go.Ab.Ln.b ln) (Go.Ab.Ln.cr ln) (Go.Ab.Ln.code ln)) p (Hd.mk m tg hm hf y1) le (Option.none) Bool.false y0));let y3:=I.hid (α:=(Prop)) (zC (Go.Ab.Rq.mk (Go.Ab.Ln.mk (Go.Ab.Ln.b ln) (Go.Ab.Ln.cr ln) (Go.Ab.Ln.code ln)) p (Hd.mk m tg hm hf y1) le (Option.none) Bool.false out));let y4:=I.hid (α:=(Prop)) (zC (Go.Ab.Rq.mk (Go.Ab.Ln.mk (Go.Ab.Ln.b ln) (Go.Ab.Ln.cr ln) (Go.Ab.Ln.code ln)) p (Hd.mk m tg hm hf y1) le (Option.none) Bool.false y0));let y5:=I.hid (α:=Int) (Prod.snd (lenM hm hf));let y6:=I.hid (α:=Int) (Prod.snd (oneF (valsF hf ([104,111,115,116]:Str))));.need (I.hid (α:=(Prop)) (And (LE.le (List.length hf) 1000) (And (LE.le (List.length ([104,111,115,116]:Str)) 1000000) (∀ (f:Fld),f ∈ hf→List.length f.name≤1000000∧List.length f.value≤1000000)))) (.br (I.ieq y6 9) (.fin (.ret (.v (.one (.p (.int .i64 13))))) [(.abs (.rq (Go.Ab.Rq.mk (Go.Ab.Ln.mk (Go.Ab.Ln.b ln) (Go.Ab.Ln.cr ln) (Go.Ab.Ln.code ln)) p (Hd.mk m tg hm hf hl) le (Option.none) Bool.true out)))]) (.br (I.ieq y6 10) (.br (I.ieq hm 1) (.fin (.ret (.v (.one (.p (.int .i64 13))))) [(.abs (.rq (Go.Ab.Rq.mk (Go.Ab.Ln.mk (Go.Ab.Ln.b ln) (Go.Ab.Ln.cr ln) (Go.Ab.Ln.code ln)) p (Hd.mk m tg hm hf hl) le (Option.none) Bool.true out)))]) (.need (I.hid (α:=(Prop)) (FsOk hf)) (.br (I.bnot (I.ieq y5 0)) (.fin (.ret (.v (.one (.p (.int .i64 y5))))) [(.abs (.rq (Go.Ab.Rq.mk (Go.Ab.Ln.mk (Go.Ab.Ln.b ln) (Go.Ab.Ln.cr ln) (Go.Ab.Ln.code ln)) p (Hd.mk m tg hm hf hl) le (Option.none) Bool.false out)))]) (.need y3 (.br (I.ieq y1 0) (.need y4 (.fin (.ret (.v (.one (.p (.int .i64 0))))) [(.abs (.rq y2))])) (.br (I.ilt 0 y1) (.fin (.ret (.v (.one (.p (.int .i64 0))))) [(.abs (.rq (Go.Ab.Rq.mk (Go.Ab.Ln.mk (Go.Ab.Ln.b ln) (Go.Ab.Ln.cr ln) (Go.Ab.Ln.code ln)) (2:Int) (Hd.mk m tg hm hf y1) y1 (Option.none) Bool.false y0)))]) (.need (I.hid (α:=(Prop)) True) (.fin (.ret (.v (.one (.p (.int .i64 0))))) [(.abs (.rq (Go.Ab.Rq.mk (Go.Ab.Ln.mk (Go.Ab.Ln.b ln) (Go.Ab.Ln.cr ln) (Go.Ab.Ln.code ln)) (3:Int) (Hd.mk m tg hm hf y1) le (Option.some (Go.Ab.Ch.mk (Go.Ab.Ln.mk (I.hid (α:=Str) ([]:Str)) Bool.false (0:Int)) (0:Int) (0:Int) (0:Int) (0:Int) (0:Int))) Bool.false y0)))])))))))) (.need (I.hid (α:=(Prop)) (FsOk hf)) (.br (I.bnot (I.ieq y5 0)) (.fin (.ret (.v (.one (.p (.int .i64 y5))))) [(.abs (.rq (Go.Ab.Rq.mk (Go.Ab.Ln.mk (Go.Ab.Ln.b ln) (Go.Ab.Ln.cr ln) (Go.Ab.Ln.code ln)) p (Hd.mk m tg hm hf hl) le (Option.none) Bool.false out)))]) (.need y3 (.br (I.ieq y1 0) (.need y4 (.fin (.ret (.v (.one (.p (.int .i64 0))))) [(.abs (.rq y2))])) (.br (I.ilt 0 y1) (.fin (.ret (.v (.one (.p (.int .i64 0))))) [(.abs (.rq (Go.Ab.Rq.mk (Go.Ab.Ln.mk (Go.Ab.Ln.b ln) (Go.Ab.Ln.cr ln) (Go.Ab.Ln.code ln)) (2:Int) (Hd.mk m tg hm hf y1) y1 (Option.none) Bool.false y0)))]) (.need (I.hid (α:=(Prop)) True) (.fin (.ret (.v (.one (.p (.int .i64 0))))) [(.abs (.rq (Go.Ab.Rq.mk (Go.Ab.Ln.mk (Go.Ab.Ln.b ln) (Go.Ab.Ln.cr ln) (Go.Ab.Ln.code ln)) (3:Int) (Hd.mk m tg hm hf y1) le (Option.some (Go.Ab.Ch.mk (Go.Ab.Ln.mk (I.hid (α:=Str) ([]:Str)) Bool.false (0:Int)) (0:Int) (0:Int) (0:Int) (0:Int) (0:Int))) Bool.false y0)))])))))))))) (by kernel_rfl) ?_
  simp only [zy]
  subst hI
  unfold yx zbU at hr
  simp only at hr
  rw [show([104,111,115,116]:Str)=wX from rfl]
  simp only [nrmA,nrmB,nrlB,reduceCtorEq,HO.abs.injEq,Gh.rq.injEq,Rq.mk.injEq]
  have hln:=RV hm hf
  generalize oneF (valsF hf wX)=oc at *
  obtain⟨ov,oc⟩:=oc
  simp only at hr ⊢
  generalize lenM hm hf=z at *
  obtain⟨zn,zc⟩:=z
  simp only at hr hln ⊢
  by_cases q1:(decide (oc=9)||decide (oc=10)&&decide (hm=1))=true
  · rw [if_pos q1] at hr
    simp only [Prod.mk.injEq] at hr
    obtain⟨rfl,rfl⟩:=hr
    simp only [Bool.or_eq_true,Bool.and_eq_true,decide_eq_true_eq] at q1
    (repeat' (first|refine And.intro ?_ ?_|intro _))<;>first|omega|exact True.intro|exact False.elim ‹False›|skip
    all_goals first|omega|rfl|exact hf1|exact⟨hf1,hf2⟩|(exact(hf2 _ ‹_›).1)|(exact(hf2 _ ‹_›).2)|(unfold zC;simp only;omega)|trace_state
  rw [if_neg q1] at hr
  simp only [Bool.or_eq_true,Bool.and_eq_true,decide_eq_true_eq] at q1
  by_cases q2:zc=0
  · rw [if_neg (fun h=>h q2)] at hr
    by_cases q3:zn=0
    · rw [if_pos q3] at hr
      simp only [Prod.mk.injEq] at hr
      obtain⟨rfl,rfl⟩:=hr
      subst q3
      (repeat' (first|refine And.intro ?_ ?_|intro _))<;>first|omega|exact True.intro|exact False.elim ‹False›|skip
      all_goals first|omega|rfl|exact hf1|exact⟨hf1,hf2⟩|(exact(hf2 _ ‹_›).1)|(exact(hf2 _ ‹_›).2)|(unfold zC;simp;omega)|trace_state
    rw [if_neg q3] at hr
    by_cases q4:0<zn
    · rw [if_pos q4] at hr
      simp only [Prod.mk.injEq] at hr
      obtain⟨rfl,rfl⟩:=hr
      (repeat' (first|refine And.intro ?_ ?_|intro _))<;>first|omega|exact True.intro|exact False.elim ‹False›|skip
      all_goals first|omega|rfl|exact hf1|exact⟨hf1,hf2⟩|(exact(hf2 _ ‹_›).1)|(exact(hf2 _ ‹_›).2)|(unfold zC;simp;omega)|trace_state
    · rw [if_neg q4] at hr
      simp only [Prod.mk.injEq] at hr
      obtain⟨rfl,rfl⟩:=hr
      (repeat' (first|refine And.intro ?_ ?_|intro _))<;>first|omega|exact True.intro|exact False.elim ‹False›|skip
      all_goals first|omega|rfl|exact hf1|exact⟨hf1,hf2⟩|(exact(hf2 _ ‹_›).1)|(exact(hf2 _ ‹_›).2)|(unfold zC;simp;omega)|trace_state
  · rw [if_pos q2] at hr
    simp only [Prod.mk.injEq] at hr
    obtain⟨rfl,rfl⟩:=hr
    (repeat' (first|refine And.intro ?_ ?_|intro _))<;>first|omega|exact True.intro|exact False.elim ‹False›|skip
    all_goals first|omega|rfl|exact hf1|exact⟨hf1,hf2⟩|(exact(hf2 _ ‹_›).1)|(exact(hf2 _ ‹_›).2)|(unfold zC;simp only;omega)|trace_state
theorem zfG (ln:Ln) (p:Int) (m tg:Str) (hm:Int) (hf:List Fld) (hl le:Int) (out:List Evt) (hneed:xk ⟨ln,p,⟨m,tg,hm,hf,hl⟩,le,none,false,out⟩∧rqFs ⟨ln,p,⟨m,tg,hm,hf,hl⟩,le,none,false,out⟩):Spc Tryz.prog 71 [.v (.one (.ptr 0 0))] [.abs (.rq ⟨ln,p,⟨m,tg,hm,hf,hl⟩,le,none,false,out⟩)] (.ret (.v (.one (.p (.int .i64 ((yx ⟨ln,p,⟨m,tg,hm,hf,hl⟩,le,none,false,out⟩).2)))))) [.abs (.rq (((yx ⟨ln,p,⟨m,tg,hm,hf,hl⟩,le,none,false,out⟩).1)))]:=by
  exact absurd hneed.1 (fun h=>by unfold xk at h;cases h)
theorem zfD (ln:Ln) (p:Int) (m tg:Str) (hm:Int) (hf:List Fld) (hl le:Int) (ch:Ch) (out:List Evt) (hneed:xk ⟨ln,p,⟨m,tg,hm,hf,hl⟩,le,some ch,true,out⟩∧rqFs ⟨ln,p,⟨m,tg,hm,hf,hl⟩,le,some ch,true,out⟩):Spc Tryz.prog 71 [.v (.one (.ptr 0 0))] [.abs (.rq ⟨ln,p,⟨m,tg,hm,hf,hl⟩,le,some ch,true,out⟩)] (.ret (.v (.one (.p (.int .i64 ((yx ⟨ln,p,⟨m,tg,hm,hf,hl⟩,le,some ch,true,out⟩).2)))))) [.abs (.rq (((yx ⟨ln,p,⟨m,tg,hm,hf,hl⟩,le,some ch,true,out⟩).1)))]:=by
  obtain⟨-,hfs,hfw⟩:=hneed
  simp only at hfs hfw
  obtain⟨hf1,hf2⟩:=hfs
  generalize hr:yx ⟨ln,p,⟨m,tg,hm,hf,hl⟩,le,some ch,true,out⟩=r
  obtain⟨rq,rc⟩:=r
  have hhl:wX.length≤1000000:=by decide
  refine spcG zi mixed Tryz.func71 (by kernel_rfl) { cfgQ with fz:=[45],keep:=some [0,2,4,5]} [Qh,Qg,zdX,zdW,zW,zV,zZ,zY,yw,yu,yD,yC,xH,xG,qV,qU,zcS,zcR] (by kernel_rfl) ?_
  intro I X hI hX
  refine zh (let y1:=I.hid (α:=Int) (Prod.fst (lenM hm hf));let y0:=I.hid (α:=(List Go.Ab.Evt)) (HAppend.hAppend out ([(Go.Ab.Evt.mk (1:Int) (Hd.mk m tg hm hf y1) ([]:Str) (Go.Ab.Prt.mk ([]:Str) ([]:Str) ([]:Str) ([]:Str)) (0:Int))]:List Go.Ab.Evt));let y2:=I.hid (α:=Go.Ab.Rq) (yU (Go.Ab.Rq.mk (Go.Ab.Ln.mk (Go.Ab.Ln.b ln) (Go.Ab.Ln.cr ln) (Go.Ab.Ln.code ln)) p (Hd.mk m tg hm hf y1) le (Option.some (Go.Ab.Ch.mk (Go.Ab.Ln.mk (Go.Ab.Ln.b (Go.Ab.Ch.ln ch)) (Go.Ab.Ln.cr (Go.Ab.Ch.ln ch)) (Go.Ab.Ln.code (Go.Ab.Ch.ln ch))) (Go.Ab.Ch.pos ch) (Go.Ab.Ch.left ch) (Go.Ab.Ch.all ch) (Go.Ab.Ch.tails ch) (Go.Ab.Ch.code ch))) Bool.false y0));let y3:=I.hid (α:=(Prop)) (zC (Go.Ab.Rq.mk (Go.Ab.Ln.mk (Go.Ab.Ln.b ln) (Go.Ab.Ln.cr ln) (Go.Ab.Ln.code ln)) p (Hd.mk m tg hm hf y1) le (Option.some (Go.Ab.Ch.mk (Go.Ab.Ln.mk (Go.Ab.Ln.b (Go.Ab.Ch.ln ch)) (Go.Ab.Ln.cr (Go.Ab.Ch.ln ch)) (Go.Ab.Ln.code (Go.Ab.Ch.ln ch))) (Go.Ab.Ch.pos ch) (Go.Ab.Ch.left ch) (Go.Ab.Ch.all ch) (Go.Ab.Ch.tails ch) (Go.Ab.Ch.code ch))) Bool.false out));let y4:=I.hid (α:=(Prop)) (zC (Go.Ab.Rq.mk (Go.Ab.Ln.mk (Go.Ab.Ln.b ln) (Go.Ab.Ln.cr ln) (Go.Ab.Ln.code ln)) p (Hd.mk m tg hm hf y1) le (Option.some (Go.Ab.Ch.mk (Go.Ab.Ln.mk (Go.Ab.Ln.b (Go.Ab.Ch.ln ch)) (Go.Ab.Ln.cr (Go.Ab.Ch.ln ch)) (Go.Ab.Ln.code (Go.Ab.Ch.ln ch))) (Go.Ab.Ch.pos ch) (Go.Ab.Ch.left ch) (Go.Ab.Ch.all ch) (Go.Ab.Ch.tails ch) (Go.Ab.Ch.code ch))) Bool.false y0));let y5:=I.hid (α:=Int) (Prod.snd (lenM hm hf));let y6:=I.hid (α:=Int) (Prod.snd (oneF (valsF hf ([104,111,115,116]:Str))));.need (I.hid (α:=(Prop)) (And (LE.le (List.length hf) 1000) (And (LE.le (List.length ([104,111,115,116]:Str)) 1000000) (∀ (f:Fld),f ∈ hf→List.length f.name≤1000000∧List.length f.value≤1000000)))) (.br (I.ieq y6 9) (.fin (.ret (.v (.one (.p (.int .i64 13))))) [(.abs (.rq (Go.Ab.Rq.mk (Go.Ab.Ln.mk (Go.Ab.Ln.b ln) (Go.Ab.Ln.cr ln) (Go.Ab.Ln.code ln)) p (Hd.mk m tg hm hf hl) le (Option.some (Go.Ab.Ch.mk (Go.Ab.Ln.mk (Go.Ab.Ln.b (Go.Ab.Ch.ln ch)) (Go.Ab.Ln.cr (Go.Ab.Ch.ln ch)) (Go.Ab.Ln.code (Go.Ab.Ch.ln ch))) (Go.Ab.Ch.pos ch) (Go.Ab.Ch.left ch) (Go.Ab.Ch.all ch) (Go.Ab.Ch.tails ch) (Go.Ab.Ch.code ch))) Bool.true out)))]) (.br (I.ieq y6 10) (.br (I.ieq hm 1) (.fin (.ret (.v (.one (.p (.int .i64 13))))) [(.abs (.rq (Go.Ab.Rq.mk (Go.Ab.Ln.mk (Go.Ab.Ln.b ln) (Go.Ab.Ln.cr ln) (Go.Ab.Ln.code ln)) p (Hd.mk m tg hm hf hl) le (Option.some (Go.Ab.Ch.mk (Go.Ab.Ln.mk (Go.Ab.Ln.b (Go.Ab.Ch.ln ch)) (Go.Ab.Ln.cr (Go.Ab.Ch.ln ch)) (Go.Ab.Ln.code (Go.Ab.Ch.ln ch))) (Go.Ab.Ch.pos ch) (Go.Ab.Ch.left ch) (Go.Ab.Ch.all ch) (Go.Ab.Ch.tails ch) (Go.Ab.Ch.code ch))) Bool.true out)))]) (.need (I.hid (α:=(Prop)) (FsOk hf)) (.br (I.bnot (I.ieq y5 0)) (.fin (.ret (.v (.one (.p (.int .i64 y5))))) [(.abs (.rq (Go.Ab.Rq.mk (Go.Ab.Ln.mk (Go.Ab.Ln.b ln) (Go.Ab.Ln.cr ln) (Go.Ab.Ln.code ln)) p (Hd.mk m tg hm hf hl) le (Option.some (Go.Ab.Ch.mk (Go.Ab.Ln.mk (Go.Ab.Ln.b (Go.Ab.Ch.ln ch)) (Go.Ab.Ln.cr (Go.Ab.Ch.ln ch)) (Go.Ab.Ln.code (Go.Ab.Ch.ln ch))) (Go.Ab.Ch.pos ch) (Go.Ab.Ch.left ch) (Go.Ab.Ch.all ch) (Go.Ab.Ch.tails ch) (Go.Ab.Ch.code ch))) Bool.false out)))]) (.need y3 (.br (I.ieq y1 0) (.need y4 (.fin (.ret (.v (.one (.p (.int .i64 0))))) [(.abs (.rq y2))])) (.br (I.ilt 0 y1) (.fin (.ret (.v (.one (.p (.int .i64 0))))) [(.abs (.rq (Go.Ab.Rq.mk (Go.Ab.Ln.mk (Go.Ab.Ln.b ln) (Go.Ab.Ln.cr ln) (Go.Ab.Ln.code ln)) (2:Int) (Hd.mk m tg hm hf y1) y1 (Option.some (Go.Ab.Ch.mk (Go.Ab.Ln.mk (Go.Ab.Ln.b (Go.Ab.Ch.ln ch)) (Go.Ab.Ln.cr (Go.Ab.Ch.ln ch)) (Go.Ab.Ln.code (Go.Ab.Ch.ln ch))) (Go.Ab.Ch.pos ch) (Go.Ab.Ch.left ch) (Go.Ab.Ch.all ch) (Go.Ab.Ch.tails ch) (Go.Ab.Ch.code ch))) Bool.false y0)))]) (.need (I.hid (α:=(Prop)) True) (.fin (.ret (.v (.one (.p (.int .i64 0))))) [(.abs (.rq (Go.Ab.Rq.mk (Go.Ab.Ln.mk (Go.Ab.Ln.b ln) (Go.Ab.Ln.cr ln) (Go.Ab.Ln.code ln)) (3:Int) (Hd.mk m tg hm hf y1) le (Option.some (Go.Ab.Ch.mk (Go.Ab.Ln.mk (I.hid (α:=Str) ([]:Str)) Bool.false (0:Int)) (0:Int) (0:Int) (0:Int) (0:Int) (0:Int))) Bool.false y0)))])))))))) (.need (I.hid (α:=(Prop)) (FsOk hf)) (.br (I.bnot (I.ieq y5 0)) (.fin (.ret (.v (.one (.p (.int .i64 y5))))) [(.abs (.rq (Go.Ab.Rq.mk (Go.Ab.Ln.mk (Go.Ab.Ln.b ln) (Go.Ab.Ln.cr ln) (Go.Ab.Ln.code ln)) p (Hd.mk m tg hm hf hl) le (Option.some (Go.Ab.Ch.mk (Go.Ab.Ln.mk (Go.Ab.Ln.b (Go.Ab.Ch.ln ch)) (Go.Ab.Ln.cr (Go.Ab.Ch.ln ch)) (Go.Ab.Ln.code (Go.Ab.Ch.ln ch))) (Go.Ab.Ch.pos ch) (Go.Ab.Ch.left ch) (Go.Ab.Ch.all ch) (Go.Ab.Ch.tails ch) (Go.Ab.Ch.code ch))) Bool.false out)))]) (.need y3 (.br (I.ieq y1 0) (.need y4 (.fin (.ret (.v (.one (.p (.int .i64 0))))) [(.abs (.rq y2))])) (.br (I.ilt 0 y1) (.fin (.ret (.v (.one (.p (.int .i64 0))))) [(.abs (.rq (Go.Ab.Rq.mk (Go.Ab.Ln.mk (Go.Ab.Ln.b ln) (Go.Ab.Ln.cr ln) (Go.Ab.Ln.code ln)) (2:Int) (Hd.mk m tg hm hf y1) y1 (Option.some (Go.Ab.Ch.mk (Go.Ab.Ln.mk (Go.Ab.Ln.b (Go.Ab.Ch.ln ch)) (Go.Ab.Ln.cr (Go.Ab.Ch.ln ch)) (Go.Ab.Ln.code (Go.Ab.Ch.ln ch))) (Go.Ab.Ch.pos ch) (Go.Ab.Ch.left ch) (Go.Ab.Ch.all ch) (Go.Ab.Ch.tails ch) (Go.Ab.Ch.code ch))) Bool.false y0)))]) (.need (I.hid (α:=(Prop)) True) (.fin (.ret (.v (.one (.p (.int .i64 0))))) [(.abs (.rq (Go.Ab.Rq.mk (Go.Ab.Ln.mk (Go.Ab.Ln.b ln) (Go.Ab.Ln.cr ln) (Go.Ab.Ln.code ln)) (3:Int) (Hd.mk m tg hm hf y1) le (Option.some (Go.Ab.Ch.mk (Go.Ab.Ln.mk (I.hid (α:=Str) ([]:Str)) Bool.false (0:Int)) (0:Int) (0:Int) (0:Int) (0:Int) (0:Int))) Bool.false y0)))])))))))))) (by kernel_rfl) ?_
  simp only [zy]
  subst hI
  unfold yx zbU at hr
  simp only at hr
  rw [show([104,111,115,116]:Str)=wX from rfl]
  simp only [nrmA,nrmB,nrlB,reduceCtorEq,HO.abs.injEq,Gh.rq.injEq,Rq.mk.injEq]
  have hln:=RV hm hf
  generalize oneF (valsF hf wX)=oc at *
  obtain⟨ov,oc⟩:=oc
  simp only at hr ⊢
  generalize lenM hm hf=z at *
  obtain⟨zn,zc⟩:=z
  simp only at hr hln ⊢
  by_cases q1:(decide (oc=9)||decide (oc=10)&&decide (hm=1))=true
  · rw [if_pos q1] at hr
    simp only [Prod.mk.injEq] at hr
    obtain⟨rfl,rfl⟩:=hr
    simp only [Bool.or_eq_true,Bool.and_eq_true,decide_eq_true_eq] at q1
    (repeat' (first|refine And.intro ?_ ?_|intro _))<;>first|omega|exact True.intro|exact False.elim ‹False›|skip
    all_goals first|omega|rfl|exact hf1|exact⟨hf1,hf2⟩|(exact(hf2 _ ‹_›).1)|(exact(hf2 _ ‹_›).2)|(unfold zC;simp only;omega)|trace_state
  rw [if_neg q1] at hr
  simp only [Bool.or_eq_true,Bool.and_eq_true,decide_eq_true_eq] at q1
  by_cases q2:zc=0
  · rw [if_neg (fun h=>h q2)] at hr
    by_cases q3:zn=0
    · rw [if_pos q3] at hr
      simp only [Prod.mk.injEq] at hr
      obtain⟨rfl,rfl⟩:=hr
      subst q3
      (repeat' (first|refine And.intro ?_ ?_|intro _))<;>first|omega|exact True.intro|exact False.elim ‹False›|skip
      all_goals first|omega|rfl|exact hf1|exact⟨hf1,hf2⟩|(exact(hf2 _ ‹_›).1)|(exact(hf2 _ ‹_›).2)|(unfold zC;simp;omega)|trace_state
    rw [if_neg q3] at hr
    by_cases q4:0<zn
    · rw [if_pos q4] at hr
      simp only [Prod.mk.injEq] at hr
      obtain⟨rfl,rfl⟩:=hr
      (repeat' (first|refine And.intro ?_ ?_|intro _))<;>first|omega|exact True.intro|exact False.elim ‹False›|skip
      all_goals first|omega|rfl|exact hf1|exact⟨hf1,hf2⟩|(exact(hf2 _ ‹_›).1)|(exact(hf2 _ ‹_›).2)|(unfold zC;simp;omega)|trace_state
    · rw [if_neg q4] at hr
      simp only [Prod.mk.injEq] at hr
      obtain⟨rfl,rfl⟩:=hr
      (repeat' (first|refine And.intro ?_ ?_|intro _))<;>first|omega|exact True.intro|exact False.elim ‹False›|skip
      all_goals first|omega|rfl|exact hf1|exact⟨hf1,hf2⟩|(exact(hf2 _ ‹_›).1)|(exact(hf2 _ ‹_›).2)|(unfold zC;simp;omega)|trace_state
  · rw [if_pos q2] at hr
    simp only [Prod.mk.injEq] at hr
    obtain⟨rfl,rfl⟩:=hr
    (repeat' (first|refine And.intro ?_ ?_|intro _))<;>first|omega|exact True.intro|exact False.elim ‹False›|skip
    all_goals first|omega|rfl|exact hf1|exact⟨hf1,hf2⟩|(exact(hf2 _ ‹_›).1)|(exact(hf2 _ ‹_›).2)|(unfold zC;simp only;omega)|trace_state
theorem zfE (ln:Ln) (p:Int) (m tg:Str) (hm:Int) (hf:List Fld) (hl le:Int) (ch:Ch) (out:List Evt) (hneed:xk ⟨ln,p,⟨m,tg,hm,hf,hl⟩,le,some ch,false,out⟩∧rqFs ⟨ln,p,⟨m,tg,hm,hf,hl⟩,le,some ch,false,out⟩):Spc Tryz.prog 71 [.v (.one (.ptr 0 0))] [.abs (.rq ⟨ln,p,⟨m,tg,hm,hf,hl⟩,le,some ch,false,out⟩)] (.ret (.v (.one (.p (.int .i64 ((yx ⟨ln,p,⟨m,tg,hm,hf,hl⟩,le,some ch,false,out⟩).2)))))) [.abs (.rq (((yx ⟨ln,p,⟨m,tg,hm,hf,hl⟩,le,some ch,false,out⟩).1)))]:=by
  exact absurd hneed.1 (fun h=>by unfold xk at h;cases h)
theorem zju (q:Rq) (hneed:xk q∧rqFs q):Spc Tryz.prog 71 [.v (.one (.ptr 0 0))] [.abs (.rq q)] (.ret (.v (.one (.p (.int .i64 ((yx q).2)))))) [.abs (.rq (((yx q).1)))]:=by
  obtain⟨ln,p,⟨m,tg,hm,hf,hl⟩,le,ck,own,out⟩:=q
  cases ck with
  | none=>cases own with
    |true=>exact zfF ln p m tg hm hf hl le out hneed
    |false=>exact zfG ln p m tg hm hf hl le out hneed
  | some ch=>cases own with
    |true=>exact zfD ln p m tg hm hf hl le ch out hneed
    |false=>exact zfE ln p m tg hm hf hl le ch out hneed
def Yh (I:Alg) (args:List D) (hp:List HO):Option CT:=match args,hp with
  |[.v (.one (.ptr 0 0))],[.abs (.rq q)]=>(fun(q:Rq)=>(some (.one ⟨I.hid (xk q∧rqFs q),(.ret (.v (.one (.p (.int .i64 (I.hid ((yx q).2))))))),[.abs (.rq (I.hid (((yx q).1))))]⟩):Option CT)) q
  |_,_=>none
theorem zaj:zD Tryz.prog 71 (Yh alg):=by
  intro args hp r h
  unfold Yh at h
  split at h
  · cases h;exact fun hn=>zju _ hn
  · cases h
def zai:Know Tryz.prog:=⟨71,Yh,zaj⟩
def zah:Know Tryz.prog:=⟨71,fun I=>zH I (Yh I),zf zaj⟩
theorem zft (ln:Ln) (p:Int) (m tg:Str) (hm:Int) (hf:List Fld) (hl le:Int) (out:List Evt) (s:Str) (hneed:xk ⟨ln,p,⟨m,tg,hm,hf,hl⟩,le,none,true,out⟩∧rqFs ⟨ln,p,⟨m,tg,hm,hf,hl⟩,le,none,true,out⟩∧s.length≤1000000):Spc Tryz.prog 50 [.v (.one (.ptr 0 0)),.v (.one (.p (.str s)))] [.abs (.rq ⟨ln,p,⟨m,tg,hm,hf,hl⟩,le,none,true,out⟩)] (.ret (.v (.one (.p (.int .i64 ((zI ⟨ln,p,⟨m,tg,hm,hf,hl⟩,le,none,true,out⟩ s).2)))))) [.abs (.rq (((zI ⟨ln,p,⟨m,tg,hm,hf,hl⟩,le,none,true,out⟩ s).1)))]:=by
  obtain⟨-,hfs,hs⟩:=hneed
  have hfs0:=hfs
  obtain⟨hfs,hfw⟩:=hfs
  simp only at hfs hfw
  obtain⟨hf1,hf2⟩:=hfs
  generalize hr:zI ⟨ln,p,⟨m,tg,hm,hf,hl⟩,le,none,true,out⟩ s=r
  obtain⟨rq,rc⟩:=r
  refine spcG zi mixed Tryz.func50 (by kernel_rfl) { cfgQ with seam:=[],keep:=some [0,1,4,5,6]} [Rj,Ri,zcW,zcV,zai,zah] (by kernel_rfl) ?_
  intro I X hI hX
  refine zh (let y2:=I.hid (α:=Str) (Fld.name (Prod.fst (zM s)));let y1:=I.hid (α:=Str) (Fld.value (Prod.fst (zM s)));let y0:=I.few (I.add (I.len (α:=Fld) hf) (I.len (α:=Fld) ([(Fld.mk y2 y1)]:List Fld))) 100000000;let y3:=I.hid (α:=Int) (Prod.snd (zM s));.br (I.ieq p 0) (.br (I.seq s ([]:Str)) (.fin (.ret (.v (.one (.p (.int .i64 0))))) [(.abs (.rq (Go.Ab.Rq.mk (Go.Ab.Ln.mk (Go.Ab.Ln.b ln) (Go.Ab.Ln.cr ln) (Go.Ab.Ln.code ln)) p (Hd.mk m tg hm hf hl) le (Option.none) Bool.true out)))]) (.need (I.hid (α:=(Prop)) (And (xk (Go.Ab.Rq.mk (Go.Ab.Ln.mk (Go.Ab.Ln.b ln) (Go.Ab.Ln.cr ln) (Go.Ab.Ln.code ln)) p (Hd.mk m tg hm hf hl) le (Option.none) Bool.true out)) (LE.le (List.length s) 1000000))) (.fin (.ret (.v (.one (.p (.int .i64 (I.hid (α:=Int) (Prod.fst (begM s)))))))) [(.abs (.rq (I.hid (α:=Go.Ab.Rq) (xW (Go.Ab.Rq.mk (Go.Ab.Ln.mk (Go.Ab.Ln.b ln) (Go.Ab.Ln.cr ln) (Go.Ab.Ln.code ln)) p (Hd.mk m tg hm hf hl) le (Option.none) Bool.true out) s))))]))) (.br (I.seq s ([]:Str)) (.need (I.hid (α:=(Prop)) (And (xk (Go.Ab.Rq.mk (Go.Ab.Ln.mk (Go.Ab.Ln.b ln) (Go.Ab.Ln.cr ln) (Go.Ab.Ln.code ln)) p (Hd.mk m tg hm hf hl) le (Option.none) Bool.true out)) (rqFs (Go.Ab.Rq.mk (Go.Ab.Ln.mk (Go.Ab.Ln.b ln) (Go.Ab.Ln.cr ln) (Go.Ab.Ln.code ln)) p (Hd.mk m tg hm hf hl) le (Option.none) Bool.true out)))) (.fin (.ret (.v (.one (.p (.int .i64 (I.hid (α:=Int) (Prod.snd (yx (Go.Ab.Rq.mk (Go.Ab.Ln.mk (Go.Ab.Ln.b ln) (Go.Ab.Ln.cr ln) (Go.Ab.Ln.code ln)) p (Hd.mk m tg hm hf hl) le (Option.none) Bool.true out))))))))) [(.abs (.rq (I.hid (α:=Go.Ab.Rq) (Prod.fst (yx (Go.Ab.Rq.mk (Go.Ab.Ln.mk (Go.Ab.Ln.b ln) (Go.Ab.Ln.cr ln) (Go.Ab.Ln.code ln)) p (Hd.mk m tg hm hf hl) le (Option.none) Bool.true out))))))])) (.br (I.ieq (I.len (α:=Fld) hf) 16) (.fin (.ret (.v (.one (.p (.int .i64 8))))) [(.abs (.rq (Go.Ab.Rq.mk (Go.Ab.Ln.mk (Go.Ab.Ln.b ln) (Go.Ab.Ln.cr ln) (Go.Ab.Ln.code ln)) p (Hd.mk m tg hm hf hl) le (Option.none) Bool.true out)))]) (.need (I.hid (α:=(Prop)) (LE.le (List.length s) 1000000)) (.both (.need y0 (.fin (.ret (.v (.one (.p (.int .i64 y3))))) [(.abs (.rq (Go.Ab.Rq.mk (Go.Ab.Ln.mk (Go.Ab.Ln.b ln) (Go.Ab.Ln.cr ln) (Go.Ab.Ln.code ln)) p (Hd.mk m tg hm (I.app (α:=Fld) hf ([(Fld.mk y2 y1)]:List Fld)) hl) le (Option.none) Bool.true out)))])) (.need y0 (.fin (.ret (.v (.one (.p (.int .i64 y3))))) [(.abs (.rq (Go.Ab.Rq.mk (Go.Ab.Ln.mk (Go.Ab.Ln.b ln) (Go.Ab.Ln.cr ln) (Go.Ab.Ln.code ln)) p (Hd.mk m tg hm (I.app (α:=Fld) hf ([(Fld.mk y2 y1)]:List Fld)) hl) le (Option.none) Bool.true out)))]))))))) (by kernel_rfl) ?_
  simp only [zy]
  subst hI
  unfold zI at hr
  simp only at hr
  simp only [nrmA,nrmB,nrlB,reduceCtorEq,HO.abs.injEq,Gh.rq.injEq,Rq.mk.injEq]
  have hdn:(yx ⟨ln,p,⟨m,tg,hm,hf,hl⟩,le,none,true,out⟩)=yx ⟨ln,p,⟨m,tg,hm,hf,hl⟩,le,none,true,out⟩:=rfl
  by_cases q1:p=0
  · rw [if_pos q1] at hr
    by_cases q2:s=[]
    · rw [if_pos q2] at hr
      simp only [Prod.mk.injEq] at hr
      obtain⟨rfl,rfl⟩:=hr
      (repeat' (first|refine And.intro ?_ ?_|intro _))<;>first|omega|exact True.intro|exact False.elim ‹False›|skip
      all_goals first|omega|rfl|(exfalso;exact ‹¬ s=[]› q2)|trace_state
    rw [if_neg q2] at hr
    have hbg:(xW ⟨ln,p,⟨m,tg,hm,hf,hl⟩,le,none,true,out⟩ s,(begM s).1)=(rq,rc):=by
      rw [← hr]
      unfold xW
      by_cases c0:(begM s).1=0
      · rw [if_pos c0,if_pos c0,c0]
      · rw [if_neg c0,if_neg c0]
        by_cases c1:(begM s).1=11
        · rw [if_pos c1,if_pos c1,c1]
        · rw [if_neg c1,if_neg c1]
    simp only [Prod.mk.injEq] at hbg
    (repeat' (first|refine And.intro ?_ ?_|intro _))<;>first|omega|exact True.intro|exact False.elim ‹False›|skip
    all_goals first|omega|exact hbg.1|exact hbg.2|exact⟨rfl,hs⟩|rfl|(exfalso;exact q2 ‹s=[]›)|(simp only [xk];done)|exact hs|trace_state
  · rw [if_neg q1] at hr
    by_cases q2:s=[]
    · rw [if_pos q2] at hr
      (repeat' (first|refine And.intro ?_ ?_|intro _))<;>first|omega|exact True.intro|exact False.elim ‹False›|skip
      all_goals first|omega|(rw [hr];done)|(rw [hr])|rfl|exact hfs0|exact hf1|(exact(hf2 _ ‹_›).1)|(exact(hf2 _ ‹_›).2)|(exfalso;exact ‹¬ s=[]› q2)|trace_state
    rw [if_neg q2] at hr
    by_cases q3:hf.length=16
    · rw [if_pos q3] at hr
      simp only [Prod.mk.injEq] at hr
      obtain⟨rfl,rfl⟩:=hr
      (repeat' (first|refine And.intro ?_ ?_|intro _))<;>first|omega|exact True.intro|exact False.elim ‹False›|skip
      all_goals first|omega|rfl|(exfalso;exact q2 ‹s=[]›)|trace_state
    · rw [if_neg q3] at hr
      simp only [Prod.mk.injEq] at hr
      obtain⟨rfl,rfl⟩:=hr
      (repeat' (first|refine And.intro ?_ ?_|intro _))<;>first|omega|exact True.intro|exact False.elim ‹False›|skip
      all_goals first|omega|rfl|exact hs|(simp only [List.length_cons,List.length_nil];omega)|(exfalso;exact q2 ‹s=[]›)|trace_state
theorem zfu (ln:Ln) (p:Int) (m tg:Str) (hm:Int) (hf:List Fld) (hl le:Int) (out:List Evt) (s:Str) (hneed:xk ⟨ln,p,⟨m,tg,hm,hf,hl⟩,le,none,false,out⟩∧rqFs ⟨ln,p,⟨m,tg,hm,hf,hl⟩,le,none,false,out⟩∧s.length≤1000000):Spc Tryz.prog 50 [.v (.one (.ptr 0 0)),.v (.one (.p (.str s)))] [.abs (.rq ⟨ln,p,⟨m,tg,hm,hf,hl⟩,le,none,false,out⟩)] (.ret (.v (.one (.p (.int .i64 ((zI ⟨ln,p,⟨m,tg,hm,hf,hl⟩,le,none,false,out⟩ s).2)))))) [.abs (.rq (((zI ⟨ln,p,⟨m,tg,hm,hf,hl⟩,le,none,false,out⟩ s).1)))]:=by
  exact absurd hneed.1 (fun h=>by unfold xk at h;cases h)
theorem zfr (ln:Ln) (p:Int) (m tg:Str) (hm:Int) (hf:List Fld) (hl le:Int) (ch:Ch) (out:List Evt) (s:Str) (hneed:xk ⟨ln,p,⟨m,tg,hm,hf,hl⟩,le,some ch,true,out⟩∧rqFs ⟨ln,p,⟨m,tg,hm,hf,hl⟩,le,some ch,true,out⟩∧s.length≤1000000):Spc Tryz.prog 50 [.v (.one (.ptr 0 0)),.v (.one (.p (.str s)))] [.abs (.rq ⟨ln,p,⟨m,tg,hm,hf,hl⟩,le,some ch,true,out⟩)] (.ret (.v (.one (.p (.int .i64 ((zI ⟨ln,p,⟨m,tg,hm,hf,hl⟩,le,some ch,true,out⟩ s).2)))))) [.abs (.rq (((zI ⟨ln,p,⟨m,tg,hm,hf,hl⟩,le,some ch,true,out⟩ s).1)))]:=by
  obtain⟨-,hfs,hs⟩:=hneed
  have hfs0:=hfs
  obtain⟨hfs,hfw⟩:=hfs
  simp only at hfs hfw
  obtain⟨hf1,hf2⟩:=hfs
  generalize hr:zI ⟨ln,p,⟨m,tg,hm,hf,hl⟩,le,some ch,true,out⟩ s=r
  obtain⟨rq,rc⟩:=r
  refine spcG zi mixed Tryz.func50 (by kernel_rfl) { cfgQ with seam:=[],keep:=some [0,1,4,5,6]} [Rj,Ri,zcW,zcV,zai,zah] (by kernel_rfl) ?_
  intro I X hI hX
  refine zh (let y2:=I.hid (α:=Str) (Fld.name (Prod.fst (zM s)));let y1:=I.hid (α:=Str) (Fld.value (Prod.fst (zM s)));let y0:=I.few (I.add (I.len (α:=Fld) hf) (I.len (α:=Fld) ([(Fld.mk y2 y1)]:List Fld))) 100000000;let y3:=I.hid (α:=Int) (Prod.snd (zM s));.br (I.ieq p 0) (.br (I.seq s ([]:Str)) (.fin (.ret (.v (.one (.p (.int .i64 0))))) [(.abs (.rq (Go.Ab.Rq.mk (Go.Ab.Ln.mk (Go.Ab.Ln.b ln) (Go.Ab.Ln.cr ln) (Go.Ab.Ln.code ln)) p (Hd.mk m tg hm hf hl) le (Option.some (Go.Ab.Ch.mk (Go.Ab.Ln.mk (Go.Ab.Ln.b (Go.Ab.Ch.ln ch)) (Go.Ab.Ln.cr (Go.Ab.Ch.ln ch)) (Go.Ab.Ln.code (Go.Ab.Ch.ln ch))) (Go.Ab.Ch.pos ch) (Go.Ab.Ch.left ch) (Go.Ab.Ch.all ch) (Go.Ab.Ch.tails ch) (Go.Ab.Ch.code ch))) Bool.true out)))]) (.need (I.hid (α:=(Prop)) (And (xk (Go.Ab.Rq.mk (Go.Ab.Ln.mk (Go.Ab.Ln.b ln) (Go.Ab.Ln.cr ln) (Go.Ab.Ln.code ln)) p (Hd.mk m tg hm hf hl) le (Option.some (Go.Ab.Ch.mk (Go.Ab.Ln.mk (Go.Ab.Ln.b (Go.Ab.Ch.ln ch)) (Go.Ab.Ln.cr (Go.Ab.Ch.ln ch)) (Go.Ab.Ln.code (Go.Ab.Ch.ln ch))) (Go.Ab.Ch.pos ch) (Go.Ab.Ch.left ch) (Go.Ab.Ch.all ch) (Go.Ab.Ch.tails ch) (Go.Ab.Ch.code ch))) Bool.true out)) (LE.le (List.length s) 1000000))) (.fin (.ret (.v (.one (.p (.int .i64 (I.hid (α:=Int) (Prod.fst (begM s)))))))) [(.abs (.rq (I.hid (α:=Go.Ab.Rq) (xW (Go.Ab.Rq.mk (Go.Ab.Ln.mk (Go.Ab.Ln.b ln) (Go.Ab.Ln.cr ln) (Go.Ab.Ln.code ln)) p (Hd.mk m tg hm hf hl) le (Option.some (Go.Ab.Ch.mk (Go.Ab.Ln.mk (Go.Ab.Ln.b (Go.Ab.Ch.ln ch)) (Go.Ab.Ln.cr (Go.Ab.Ch.ln ch)) (Go.Ab.Ln.code (Go.Ab.Ch.ln ch))) (Go.Ab.Ch.pos ch) (Go.Ab.Ch.left ch) (Go.Ab.Ch.all ch) (Go.Ab.Ch.tails ch) (Go.Ab.Ch.code ch))) Bool.true out) s))))]))) (.br (I.seq s ([]:Str)) (.need (I.hid (α:=(Prop)) (And (xk (Go.Ab.Rq.mk (Go.Ab.Ln.mk (Go.Ab.Ln.b ln) (Go.Ab.Ln.cr ln) (Go.Ab.Ln.code ln)) p (Hd.mk m tg hm hf hl) le (Option.some (Go.Ab.Ch.mk (Go.Ab.Ln.mk (Go.Ab.Ln.b (Go.Ab.Ch.ln ch)) (Go.Ab.Ln.cr (Go.Ab.Ch.ln ch)) (Go.Ab.Ln.code (Go.Ab.Ch.ln ch))) (Go.Ab.Ch.pos ch) (Go.Ab.Ch.left ch) (Go.Ab.Ch.all ch) (Go.Ab.Ch.tails ch) (Go.Ab.Ch.code ch))) Bool.true out)) (rqFs (Go.Ab.Rq.mk (Go.Ab.Ln.mk (Go.Ab.Ln.b ln) (Go.Ab.Ln.cr ln) (Go.Ab.Ln.code ln)) p (Hd.mk m tg hm hf hl) le (Option.some (Go.Ab.Ch.mk (Go.Ab.Ln.mk (Go.Ab.Ln.b (Go.Ab.Ch.ln ch)) (Go.Ab.Ln.cr (Go.Ab.Ch.ln ch)) (Go.Ab.Ln.code (Go.Ab.Ch.ln ch))) (Go.Ab.Ch.pos ch) (Go.Ab.Ch.left ch) (Go.Ab.Ch.all ch) (Go.Ab.Ch.tails ch) (Go.Ab.Ch.code ch))) Bool.true out)))) (.fin (.ret (.v (.one (.p (.int .i64 (I.hid (α:=Int) (Prod.snd (yx (Go.Ab.Rq.mk (Go.Ab.Ln.mk (Go.Ab.Ln.b ln) (Go.Ab.Ln.cr ln) (Go.Ab.Ln.code ln)) p (Hd.mk m tg hm hf hl) le (Option.some (Go.Ab.Ch.mk (Go.Ab.Ln.mk (Go.Ab.Ln.b (Go.Ab.Ch.ln ch)) (Go.Ab.Ln.cr (Go.Ab.Ch.ln ch)) (Go.Ab.Ln.code (Go.Ab.Ch.ln ch))) (Go.Ab.Ch.pos ch) (Go.Ab.Ch.left ch) (Go.Ab.Ch.all ch) (Go.Ab.Ch.tails ch) (Go.Ab.Ch.code ch))) Bool.true out))))))))) [(.abs (.rq (I.hid (α:=Go.Ab.Rq) (Prod.fst (yx (Go.Ab.Rq.mk (Go.Ab.Ln.mk (Go.Ab.Ln.b ln) (Go.Ab.Ln.cr ln) (Go.Ab.Ln.code ln)) p (Hd.mk m tg hm hf hl) le (Option.some (Go.Ab.Ch.mk (Go.Ab.Ln.mk (Go.Ab.Ln.b (Go.Ab.Ch.ln ch)) (Go.Ab.Ln.cr (Go.Ab.Ch.ln ch)) (Go.Ab.Ln.code (Go.Ab.Ch.ln ch))) (Go.Ab.Ch.pos ch) (Go.Ab.Ch.left ch) (Go.Ab.Ch.all ch) (Go.Ab.Ch.tails ch) (Go.Ab.Ch.code ch))) Bool.true out))))))])) (.br (I.ieq (I.len (α:=Fld) hf) 16) (.fin (.ret (.v (.one (.p (.int .i64 8))))) [(.abs (.rq (Go.Ab.Rq.mk (Go.Ab.Ln.mk (Go.Ab.Ln.b ln) (Go.Ab.Ln.cr ln) (Go.Ab.Ln.code ln)) p (Hd.mk m tg hm hf hl) le (Option.some (Go.Ab.Ch.mk (Go.Ab.Ln.mk (Go.Ab.Ln.b (Go.Ab.Ch.ln ch)) (Go.Ab.Ln.cr (Go.Ab.Ch.ln ch)) (Go.Ab.Ln.code (Go.Ab.Ch.ln ch))) (Go.Ab.Ch.pos ch) (Go.Ab.Ch.left ch) (Go.Ab.Ch.all ch) (Go.Ab.Ch.tails ch) (Go.Ab.Ch.code ch))) Bool.true out)))]) (.need (I.hid (α:=(Prop)) (LE.le (List.length s) 1000000)) (.both (.need y0 (.fin (.ret (.v (.one (.p (.int .i64 y3))))) [(.abs (.rq (Go.Ab.Rq.mk (Go.Ab.Ln.mk (Go.Ab.Ln.b ln) (Go.Ab.Ln.cr ln) (Go.Ab.Ln.code ln)) p (Hd.mk m tg hm (I.app (α:=Fld) hf ([(Fld.mk y2 y1)]:List Fld)) hl) le (Option.some (Go.Ab.Ch.mk (Go.Ab.Ln.mk (Go.Ab.Ln.b (Go.Ab.Ch.ln ch)) (Go.Ab.Ln.cr (Go.Ab.Ch.ln ch)) (Go.Ab.Ln.code (Go.Ab.Ch.ln ch))) (Go.Ab.Ch.pos ch) (Go.Ab.Ch.left ch) (Go.Ab.Ch.all ch) (Go.Ab.Ch.tails ch) (Go.Ab.Ch.code ch))) Bool.true out)))])) (.need y0 (.fin (.ret (.v (.one (.p (.int .i64 y3))))) [(.abs (.rq (Go.Ab.Rq.mk (Go.Ab.Ln.mk (Go.Ab.Ln.b ln) (Go.Ab.Ln.cr ln) (Go.Ab.Ln.code ln)) p (Hd.mk m tg hm (I.app (α:=Fld) hf ([(Fld.mk y2 y1)]:List Fld)) hl) le (Option.some (Go.Ab.Ch.mk (Go.Ab.Ln.mk (Go.Ab.Ln.b (Go.Ab.Ch.ln ch)) (Go.Ab.Ln.cr (Go.Ab.Ch.ln ch)) (Go.Ab.Ln.code (Go.Ab.Ch.ln ch))) (Go.Ab.Ch.pos ch) (Go.Ab.Ch.left ch) (Go.Ab.Ch.all ch) (Go.Ab.Ch.tails ch) (Go.Ab.Ch.code ch))) Bool.true out)))]))))))) (by kernel_rfl) ?_
  simp only [zy]
  subst hI
  unfold zI at hr
  simp only at hr
  simp only [nrmA,nrmB,nrlB,reduceCtorEq,HO.abs.injEq,Gh.rq.injEq,Rq.mk.injEq]
  have hdn:(yx ⟨ln,p,⟨m,tg,hm,hf,hl⟩,le,some ch,true,out⟩)=yx ⟨ln,p,⟨m,tg,hm,hf,hl⟩,le,some ch,true,out⟩:=rfl
  by_cases q1:p=0
  · rw [if_pos q1] at hr
    by_cases q2:s=[]
    · rw [if_pos q2] at hr
      simp only [Prod.mk.injEq] at hr
      obtain⟨rfl,rfl⟩:=hr
      (repeat' (first|refine And.intro ?_ ?_|intro _))<;>first|omega|exact True.intro|exact False.elim ‹False›|skip
      all_goals first|omega|rfl|(exfalso;exact ‹¬ s=[]› q2)|trace_state
    rw [if_neg q2] at hr
    have hbg:(xW ⟨ln,p,⟨m,tg,hm,hf,hl⟩,le,some ch,true,out⟩ s,(begM s).1)=(rq,rc):=by
      rw [← hr]
      unfold xW
      by_cases c0:(begM s).1=0
      · rw [if_pos c0,if_pos c0,c0]
      · rw [if_neg c0,if_neg c0]
        by_cases c1:(begM s).1=11
        · rw [if_pos c1,if_pos c1,c1]
        · rw [if_neg c1,if_neg c1]
    simp only [Prod.mk.injEq] at hbg
    (repeat' (first|refine And.intro ?_ ?_|intro _))<;>first|omega|exact True.intro|exact False.elim ‹False›|skip
    all_goals first|omega|exact hbg.1|exact hbg.2|exact⟨rfl,hs⟩|rfl|(exfalso;exact q2 ‹s=[]›)|(simp only [xk];done)|exact hs|trace_state
  · rw [if_neg q1] at hr
    by_cases q2:s=[]
    · rw [if_pos q2] at hr
      (repeat' (first|refine And.intro ?_ ?_|intro _))<;>first|omega|exact True.intro|exact False.elim ‹False›|skip
      all_goals first|omega|(rw [hr];done)|(rw [hr])|rfl|exact hfs0|exact hf1|(exact(hf2 _ ‹_›).1)|(exact(hf2 _ ‹_›).2)|(exfalso;exact ‹¬ s=[]› q2)|trace_state
    rw [if_neg q2] at hr
    by_cases q3:hf.length=16
    · rw [if_pos q3] at hr
      simp only [Prod.mk.injEq] at hr
      obtain⟨rfl,rfl⟩:=hr
      (repeat' (first|refine And.intro ?_ ?_|intro _))<;>first|omega|exact True.intro|exact False.elim ‹False›|skip
      all_goals first|omega|rfl|(exfalso;exact q2 ‹s=[]›)|trace_state
    · rw [if_neg q3] at hr
      simp only [Prod.mk.injEq] at hr
      obtain⟨rfl,rfl⟩:=hr
      (repeat' (first|refine And.intro ?_ ?_|intro _))<;>first|omega|exact True.intro|exact False.elim ‹False›|skip
      all_goals first|omega|rfl|exact hs|(simp only [List.length_cons,List.length_nil];omega)|(exfalso;exact q2 ‹s=[]›)|trace_state
theorem zfs (ln:Ln) (p:Int) (m tg:Str) (hm:Int) (hf:List Fld) (hl le:Int) (ch:Ch) (out:List Evt) (s:Str) (hneed:xk ⟨ln,p,⟨m,tg,hm,hf,hl⟩,le,some ch,false,out⟩∧rqFs ⟨ln,p,⟨m,tg,hm,hf,hl⟩,le,some ch,false,out⟩∧s.length≤1000000):Spc Tryz.prog 50 [.v (.one (.ptr 0 0)),.v (.one (.p (.str s)))] [.abs (.rq ⟨ln,p,⟨m,tg,hm,hf,hl⟩,le,some ch,false,out⟩)] (.ret (.v (.one (.p (.int .i64 ((zI ⟨ln,p,⟨m,tg,hm,hf,hl⟩,le,some ch,false,out⟩ s).2)))))) [.abs (.rq (((zI ⟨ln,p,⟨m,tg,hm,hf,hl⟩,le,some ch,false,out⟩ s).1)))]:=by
  exact absurd hneed.1 (fun h=>by unfold xk at h;cases h)
theorem zjo (q:Rq) (s:Str) (hneed:xk q∧rqFs q∧s.length≤1000000):Spc Tryz.prog 50 [.v (.one (.ptr 0 0)),.v (.one (.p (.str s)))] [.abs (.rq q)] (.ret (.v (.one (.p (.int .i64 ((zI q s).2)))))) [.abs (.rq (((zI q s).1)))]:=by
  obtain⟨ln,p,⟨m,tg,hm,hf,hl⟩,le,ck,own,out⟩:=q
  cases ck with
  | none=>cases own with
    |true=>exact zft ln p m tg hm hf hl le out s hneed
    |false=>exact zfu ln p m tg hm hf hl le out s hneed
  | some ch=>cases own with
    |true=>exact zfr ln p m tg hm hf hl le ch out s hneed
    |false=>exact zfs ln p m tg hm hf hl le ch out s hneed
def Yb (I:Alg) (args:List D) (hp:List HO):Option CT:=match args,hp with
  |[.v (.one (.ptr 0 0)),.v (.one (.p (.str s)))],[.abs (.rq q)]=>(fun(q:Rq) (s:Str)=>(some (.one ⟨I.hid (xk q∧rqFs q∧s.length≤1000000),(.ret (.v (.one (.p (.int .i64 (I.hid ((zI q s).2))))))),[.abs (.rq (I.hid (((zI q s).1))))]⟩):Option CT)) q s
  |_,_=>none
theorem zac:zD Tryz.prog 50 (Yb alg):=by
  intro args hp r h
  unfold Yb at h
  split at h
  · cases h;exact fun hn=>zjo _ _ hn
  · cases h
def Ya:Know Tryz.prog:=⟨50,Yb,zac⟩
def Z9:Know Tryz.prog:=⟨50,fun I=>zH I (Yb I),zf zac⟩
theorem zk8 (k:Int) (hneed:False):Spc Tryz.prog 47 [.v (.one (.p (.val (.pointer none)))),.v (.one (.p (.int .u8 k)))] [] (.ret (.tup [(.one (.p (.list .byte ([])))),(.one (.p (.bool false))),(.one (.p (.int .i64 0)))])) []:=hneed.elim
def WW (I:Alg) (args:List D) (hp:List HO):Option CT:=match args,hp with
  |[.v (.one (.p (.val (.pointer none)))),.v (.one (.p (.int .u8 k)))],[]=>(fun(k:Int)=>(some (.one ⟨I.hid (False),(.ret (.tup [(.one (.p (.list .byte (I.hid ([]))))),(.one (.p (.bool false))),(.one (.p (.int .i64 0)))])),[]⟩):Option CT)) k
  |_,_=>none
theorem zdV:zD Tryz.prog 47 (WW alg):=by
  intro args hp r h
  unfold WW at h
  split at h
  · cases h;exact fun hn=>zk8 _ hn
  · cases h
def WV:Know Tryz.prog:=⟨47,WW,zdV⟩
def WU:Know Tryz.prog:=⟨47,fun I=>zH I (WW I),zf zdV⟩
def rqN (q:Rq):Prop:=∃ i:Nat,i≤1000000∧RqI q i
theorem U1 (q:Rq) (s:Str):(zI q s).1.out.length≤q.out.length+2:=by
  unfold zI yx yU
  repeat' split
  all_goals(simp only [List.length_append,List.length_cons,List.length_nil];omega)
theorem zfN (ln:Ln) (p:Int) (m tg:Str) (hm:Int) (hf:List Fld) (hl le:Int) (out:List Evt) (k:Int) (hneed:rqN ⟨ln,p,⟨m,tg,hm,hf,hl⟩,le,none,true,out⟩∧0≤k∧k≤255):Spc Tryz.prog 22 [.v (.one (.ptr 0 0)),.v (.one (.p (.int .u8 k)))] [.abs (.rq ⟨ln,p,⟨m,tg,hm,hf,hl⟩,le,none,true,out⟩)] (.ret (.tup [])) [.abs (.rq ((rqF ⟨ln,p,⟨m,tg,hm,hf,hl⟩,le,none,true,out⟩ (UInt8.ofNat k.toNat))))]:=by
  obtain⟨⟨i,hi,hI0⟩,hk0,hk1⟩:=hneed
  obtain⟨g1,g2,g3,g4,g5,g6,g7,g8,g9,g10⟩:=hI0
  simp only at g1 g2 g3 g4 g5 g6 g7 g8 g9 g10
  have hfs:FsOk hf:=⟨by omega,fun f hm=>by have:=g6 f hm;omega⟩
  have hll:=Xi ln (UInt8.ofNat k.toNat)
  generalize hr:rqF ⟨ln,p,⟨m,tg,hm,hf,hl⟩,le,none,true,out⟩ (UInt8.ofNat k.toNat)=r
  refine spcG zi mixed Tryz.func22 (by kernel_rfl) { cfgQ with fz:=[45],keep:=some [0,1,4,5,6,7,8,9,13,62]} [qi,qh,YK,YJ,WV,WU,zW,zV,zZ,zY,yw,yu,yD,yC,xH,xG,Yf,Ye,qV,qU,Ya,Z9] (by kernel_rfl) ?_
  intro I X hI hX
  refine zh (let y0:=I.hid (α:=Int) (Go.Ab.Ln.code (Prod.fst (lnF (Go.Ab.Ln.mk (Go.Ab.Ln.b ln) (Go.Ab.Ln.cr ln) (Go.Ab.Ln.code ln)) (UInt8.ofNat (Int.toNat k)))));let y1:=I.hid (α:=Bool) (Go.Ab.Ln.cr (Prod.fst (lnF (Go.Ab.Ln.mk (Go.Ab.Ln.b ln) (Go.Ab.Ln.cr ln) (Go.Ab.Ln.code ln)) (UInt8.ofNat (Int.toNat k)))));let y2:=I.hid (α:=Str) (Go.Ab.Ln.b (Prod.fst (lnF (Go.Ab.Ln.mk (Go.Ab.Ln.b ln) (Go.Ab.Ln.cr ln) (Go.Ab.Ln.code ln)) (UInt8.ofNat (Int.toNat k)))));let y3:=I.hid (α:=Str) (Prod.fst (Prod.snd (lnF (Go.Ab.Ln.mk (Go.Ab.Ln.b ln) (Go.Ab.Ln.cr ln) (Go.Ab.Ln.code ln)) (UInt8.ofNat (Int.toNat k)))));let y4:=I.hid (α:=Int) (Prod.snd (Prod.snd (Prod.snd (lnF (Go.Ab.Ln.mk (Go.Ab.Ln.b ln) (Go.Ab.Ln.cr ln) (Go.Ab.Ln.code ln)) (UInt8.ofNat (Int.toNat k))))));let y5:=I.hid (α:=Go.Ab.Rq) (Prod.fst (zI (Go.Ab.Rq.mk (Go.Ab.Ln.mk y2 y1 y0) p (Hd.mk m tg hm hf hl) le (Option.none) Bool.true out) y3));let y6:=I.hid (α:=(List Go.Ab.Evt)) (HAppend.hAppend out ([(Go.Ab.Evt.mk (2:Int) (Hd.mk ([]:Str) ([]:Str) (0:Int) ([]:List Fld) (0:Int)) (I.hid (α:=Str) ([]:Str)) (Go.Ab.Prt.mk ([]:Str) ([]:Str) ([]:Str) ([]:Str)) (0:Int))]:List Go.Ab.Evt));let y7:=I.hid (α:=(List Go.Ab.Evt)) (HAppend.hAppend out ([(Go.Ab.Evt.mk (2:Int) (Hd.mk ([]:Str) ([]:Str) (0:Int) ([]:List Fld) (0:Int)) ([(I.i2b k)]:Str) (Go.Ab.Prt.mk ([]:Str) ([]:Str) ([]:Str) ([]:Str)) (0:Int))]:List Go.Ab.Evt));let y8:=I.hid (α:=(Prop)) (zC (Go.Ab.Rq.mk (Go.Ab.Ln.mk (Go.Ab.Ln.b ln) (Go.Ab.Ln.cr ln) (Go.Ab.Ln.code ln)) p (Hd.mk m tg hm hf hl) le (Option.none) Bool.true out));let y9:=I.hid (α:=Int) (Prod.snd (zI (Go.Ab.Rq.mk (Go.Ab.Ln.mk y2 y1 y0) p (Hd.mk m tg hm hf hl) le (Option.none) Bool.true out) y3));let y10:=I.hid (α:=Go.Ab.Rq) (yc (Go.Ab.Rq.mk (Go.Ab.Ln.mk y2 y1 y0) p (Hd.mk m tg hm hf hl) le (Option.none) Bool.true out) y4);let y11:=I.hid (α:=(Prop)) (zC (Go.Ab.Rq.mk (Go.Ab.Ln.mk y2 y1 y0) p (Hd.mk m tg hm hf hl) le (Option.none) Bool.true out));let y12:=I.hid (α:=(Prop)) (And (xk (Go.Ab.Rq.mk (Go.Ab.Ln.mk y2 y1 y0) p (Hd.mk m tg hm hf hl) le (Option.none) Bool.true out)) (And (rqFs (Go.Ab.Rq.mk (Go.Ab.Ln.mk y2 y1 y0) p (Hd.mk m tg hm hf hl) le (Option.none) Bool.true out)) (LE.le (List.length y3) 1000000)));let y13:=I.hid (α:=Bool) (Prod.fst (Prod.snd (Prod.snd (lnF (Go.Ab.Ln.mk (Go.Ab.Ln.b ln) (Go.Ab.Ln.cr ln) (Go.Ab.Ln.code ln)) (UInt8.ofNat (Int.toNat k))))));let y14:=I.hid (α:=(Prop)) (And (LE.le (0:Int) k) (And (LE.le k (255:Int)) (LE.le (List.length (Go.Ab.Ln.b ln)) 1000000)));let y15:=I.hid (α:=Go.Ab.Rq) (yc y5 y9);.br (I.ieq p 2) (.need (I.inr Go.IntKind.u8 k) (.need y8 (.need (I.inr Go.IntKind.i64 (I.sub le 1)) (.br (I.ieq (I.sub le 1) 0) (.need (I.hid (α:=(Prop)) (zC (Go.Ab.Rq.mk (Go.Ab.Ln.mk (Go.Ab.Ln.b ln) (Go.Ab.Ln.cr ln) (Go.Ab.Ln.code ln)) p (Hd.mk m tg hm hf hl) (I.sub le 1) (Option.none) Bool.true y7))) (.fin (.ret (.tup [])) [(.abs (.rq (I.hid (α:=Go.Ab.Rq) (yU (Go.Ab.Rq.mk (Go.Ab.Ln.mk (Go.Ab.Ln.b ln) (Go.Ab.Ln.cr ln) (Go.Ab.Ln.code ln)) p (Hd.mk m tg hm hf hl) (I.sub le 1) (Option.none) Bool.true y7)))))])) (.fin (.ret (.tup [])) [(.abs (.rq (Go.Ab.Rq.mk (Go.Ab.Ln.mk (Go.Ab.Ln.b ln) (Go.Ab.Ln.cr ln) (Go.Ab.Ln.code ln)) p (Hd.mk m tg hm hf hl) (I.sub le 1) (Option.none) Bool.true y7)))]))))) (.br (I.ieq p 3) (.need (I.hid (α:=(Prop)) False) (.br (I.bnot (I.ieq 0 0)) (.need y8 (.fin (.ret (.tup [])) [(.abs (.rq (I.hid (α:=Go.Ab.Rq) (yc (Go.Ab.Rq.mk (Go.Ab.Ln.mk (Go.Ab.Ln.b ln) (Go.Ab.Ln.cr ln) (Go.Ab.Ln.code ln)) p (Hd.mk m tg hm hf hl) le (Option.none) Bool.true out) (0:Int)))))])) (.br (I.ilt 0 (I.len (α:=UInt8) (I.hid (α:=Str) ([]:Str)))) (.need y8 (.br Bool.false (.need (I.hid (α:=(Prop)) (zC (Go.Ab.Rq.mk (Go.Ab.Ln.mk (Go.Ab.Ln.b ln) (Go.Ab.Ln.cr ln) (Go.Ab.Ln.code ln)) p (Hd.mk m tg hm hf hl) le (Option.none) Bool.true y6))) (.fin (.ret (.tup [])) [(.abs (.rq (I.hid (α:=Go.Ab.Rq) (yU (Go.Ab.Rq.mk (Go.Ab.Ln.mk (Go.Ab.Ln.b ln) (Go.Ab.Ln.cr ln) (Go.Ab.Ln.code ln)) p (Hd.mk m tg hm hf hl) le (Option.none) Bool.true y6)))))])) (.fin (.ret (.tup [])) [(.abs (.rq (Go.Ab.Rq.mk (Go.Ab.Ln.mk (Go.Ab.Ln.b ln) (Go.Ab.Ln.cr ln) (Go.Ab.Ln.code ln)) p (Hd.mk m tg hm hf hl) le (Option.none) Bool.true y6)))]))) (.br Bool.false (.need y8 (.fin (.ret (.tup [])) [(.abs (.rq (I.hid (α:=Go.Ab.Rq) (yU (Go.Ab.Rq.mk (Go.Ab.Ln.mk (Go.Ab.Ln.b ln) (Go.Ab.Ln.cr ln) (Go.Ab.Ln.code ln)) p (Hd.mk m tg hm hf hl) le (Option.none) Bool.true out)))))])) (.fin (.ret (.tup [])) [(.abs (.rq (Go.Ab.Rq.mk (Go.Ab.Ln.mk (Go.Ab.Ln.b ln) (Go.Ab.Ln.cr ln) (Go.Ab.Ln.code ln)) p (Hd.mk m tg hm hf hl) le (Option.none) Bool.true out)))]))))) (.br (I.ieq p 0) (.need y14 (.br (I.ieq y4 0) (.br y13 (.need y12 (.br (I.bnot (I.ieq y9 0)) (.need (I.hid (α:=(Prop)) (zC y5)) (.fin (.ret (.tup [])) [(.abs (.rq y15))])) (.fin (.ret (.tup [])) [(.abs (.rq y5))]))) (.br (I.bnot (I.ieq y4 0)) (.need y11 (.fin (.ret (.tup [])) [(.abs (.rq y10))])) (.fin (.ret (.tup [])) [(.abs (.rq (Go.Ab.Rq.mk (Go.Ab.Ln.mk y2 y1 y0) p (Hd.mk m tg hm hf hl) le (Option.none) Bool.true out)))]))) (.br (I.bnot (I.ieq y4 0)) (.need y11 (.fin (.ret (.tup [])) [(.abs (.rq y10))])) (.fin (.ret (.tup [])) [(.abs (.rq (Go.Ab.Rq.mk (Go.Ab.Ln.mk y2 y1 y0) p (Hd.mk m tg hm hf hl) le (Option.none) Bool.true out)))])))) (.br (I.ieq p 1) (.need y14 (.br (I.ieq y4 0) (.br y13 (.need y12 (.br (I.bnot (I.ieq y9 0)) (.need (I.hid (α:=(Prop)) (zC y5)) (.fin (.ret (.tup [])) [(.abs (.rq y15))])) (.fin (.ret (.tup [])) [(.abs (.rq y5))]))) (.br (I.bnot (I.ieq y4 0)) (.need y11 (.fin (.ret (.tup [])) [(.abs (.rq y10))])) (.fin (.ret (.tup [])) [(.abs (.rq (Go.Ab.Rq.mk (Go.Ab.Ln.mk y2 y1 y0) p (Hd.mk m tg hm hf hl) le (Option.none) Bool.true out)))]))) (.br (I.bnot (I.ieq y4 0)) (.need y11 (.fin (.ret (.tup [])) [(.abs (.rq y10))])) (.fin (.ret (.tup [])) [(.abs (.rq (Go.Ab.Rq.mk (Go.Ab.Ln.mk y2 y1 y0) p (Hd.mk m tg hm hf hl) le (Option.none) Bool.true out)))])))) (.fin (.ret (.tup [])) [(.abs (.rq (Go.Ab.Rq.mk (Go.Ab.Ln.mk (Go.Ab.Ln.b ln) (Go.Ab.Ln.cr ln) (Go.Ab.Ln.code ln)) p (Hd.mk m tg hm hf hl) le (Option.none) Bool.true out)))]))))) (by kernel_rfl) ?_
  simp only [zy]
  subst hI
  unfold rqF at hr
  simp only at hr
  simp only [nrmA,nrmB,nrlB,reduceCtorEq,HO.abs.injEq,Gh.rq.injEq,Rq.mk.injEq]
  generalize UInt8.ofNat k.toNat=c at *
  have hz2:lnF ⟨ln.b,ln.cr,ln.code⟩ c=lnF ln c:=rfl
  simp only [hz2]
  clear hz2 g2
  by_cases q1:p=2
  · rw [if_pos q1] at hr
    have h9:=g9 q1
    by_cases q2:le - 1=0
    · rw [if_pos q2] at hr
      subst hr
      have q3:le=1:=by omega
      subst q3
      (repeat' (first|refine And.intro ?_ ?_|intro _))<;>first|omega|exact True.intro|exact False.elim ‹False›|skip
      all_goals first|omega|rfl|(unfold zC;simp;omega)|(unfold zC;simp only;omega)|trace_state
    · rw [if_neg q2] at hr
      subst hr
      (repeat' (first|refine And.intro ?_ ?_|intro _))<;>first|omega|exact True.intro|exact False.elim ‹False›|skip
      all_goals first|omega|rfl|(unfold zC;simp;omega)|(unfold zC;simp only;omega)|trace_state
  rw [if_neg q1] at hr
  by_cases q4:p=3
  · exact absurd rfl (g3 q4)
  rw [if_neg q4] at hr
  by_cases q8:p=0∨p=1
  · rw [if_pos q8] at hr
    have hl: ∀ (l:Ln) (s:Str),zI ⟨⟨l.b,l.cr,l.code⟩,p,⟨m,tg,hm,hf,hl⟩,le,none,true,out⟩ s=zI ⟨l,p,⟨m,tg,hm,hf,hl⟩,le,none,true,out⟩ s:=fun l s=>rfl
    simp only [hl]
    clear hl
    generalize lnF ln c=z at *
    obtain⟨l2,s,is,e⟩:=z
    simp only at hr hll ⊢
    have hlo:(zI ⟨l2,p,⟨m,tg,hm,hf,hl⟩,le,none,true,out⟩ s).1.out.length≤out.length+2:=U1 _ _
    generalize zI ⟨l2,p,⟨m,tg,hm,hf,hl⟩,le,none,true,out⟩ s=y at *
    obtain⟨y,ye⟩:=y
    simp only at hr hlo ⊢
    by_cases q5:e=0
    · rw [if_neg (fun h=>h q5)] at hr
      cases is with
      | true=>
        rw [if_pos rfl] at hr
        by_cases q6:ye=0
        · rw [if_neg (fun h=>h q6)] at hr
          subst hr
          (repeat' (first|refine And.intro ?_ ?_|intro _))<;>first|omega|exact True.intro|exact False.elim ‹False›|skip
          all_goals first|omega|rfl|contradiction|exact⟨rfl,⟨hfs,by simp only;omega⟩,by omega⟩|(simp only [xk];done)|exact hfs.1|(exact(hfs.2 _ ‹_›).1)|(exact(hfs.2 _ ‹_›).2)|(unfold zC;omega)|(simp only;omega)|trace_state
        · rw [if_pos q6] at hr
          subst hr
          (repeat' (first|refine And.intro ?_ ?_|intro _))<;>first|omega|exact True.intro|exact False.elim ‹False›|skip
          all_goals first|omega|rfl|contradiction|exact⟨rfl,⟨hfs,by simp only;omega⟩,by omega⟩|(simp only [xk];done)|exact hfs.1|(exact(hfs.2 _ ‹_›).1)|(exact(hfs.2 _ ‹_›).2)|(unfold zC;omega)|(simp only;omega)|trace_state
      | false=>
        rw [if_neg Bool.false_ne_true] at hr
        subst hr
        (repeat' (first|refine And.intro ?_ ?_|intro _))<;>first|omega|exact True.intro|exact False.elim ‹False›|skip
        all_goals first|omega|rfl|contradiction|trace_state
    · rw [if_pos q5] at hr
      subst hr
      (repeat' (first|refine And.intro ?_ ?_|intro _))<;>first|omega|exact True.intro|exact False.elim ‹False›|skip
      all_goals first|omega|rfl|contradiction|(unfold zC;simp only;omega)|trace_state
  rw [if_neg q8] at hr
  subst hr
  (repeat' (first|refine And.intro ?_ ?_|intro _))<;>first|omega|exact True.intro|exact False.elim ‹False›|skip
  all_goals first|omega|rfl|contradiction|trace_state
theorem zfO (ln:Ln) (p:Int) (m tg:Str) (hm:Int) (hf:List Fld) (hl le:Int) (out:List Evt) (k:Int) (hneed:rqN ⟨ln,p,⟨m,tg,hm,hf,hl⟩,le,none,false,out⟩∧0≤k∧k≤255):Spc Tryz.prog 22 [.v (.one (.ptr 0 0)),.v (.one (.p (.int .u8 k)))] [.abs (.rq ⟨ln,p,⟨m,tg,hm,hf,hl⟩,le,none,false,out⟩)] (.ret (.tup [])) [.abs (.rq ((rqF ⟨ln,p,⟨m,tg,hm,hf,hl⟩,le,none,false,out⟩ (UInt8.ofNat k.toNat))))]:=by
  obtain⟨⟨i,hi,hI0⟩,hk0,hk1⟩:=hneed
  obtain⟨g1,g2,g3,g4,g5,g6,g7,g8,g9,g10⟩:=hI0
  simp only at g1 g2 g3 g4 g5 g6 g7 g8 g9 g10
  have hfs:FsOk hf:=⟨by omega,fun f hm=>by have:=g6 f hm;omega⟩
  have hll:=Xi ln (UInt8.ofNat k.toNat)
  generalize hr:rqF ⟨ln,p,⟨m,tg,hm,hf,hl⟩,le,none,false,out⟩ (UInt8.ofNat k.toNat)=r
  refine spcG zi mixed Tryz.func22 (by kernel_rfl) { cfgQ with fz:=[45],keep:=some [0,1,4,5,6,7,8,9,13,62]} [qi,qh,YK,YJ,WV,WU,zW,zV,zZ,zY,yw,yu,yD,yC,xH,xG,Yf,Ye,qV,qU,Ya,Z9] (by kernel_rfl) ?_
  intro I X hI hX
  refine zh (let y0:=I.hid (α:=Int) (Go.Ab.Ln.code (Prod.fst (lnF (Go.Ab.Ln.mk (Go.Ab.Ln.b ln) (Go.Ab.Ln.cr ln) (Go.Ab.Ln.code ln)) (UInt8.ofNat (Int.toNat k)))));let y1:=I.hid (α:=Bool) (Go.Ab.Ln.cr (Prod.fst (lnF (Go.Ab.Ln.mk (Go.Ab.Ln.b ln) (Go.Ab.Ln.cr ln) (Go.Ab.Ln.code ln)) (UInt8.ofNat (Int.toNat k)))));let y2:=I.hid (α:=Str) (Go.Ab.Ln.b (Prod.fst (lnF (Go.Ab.Ln.mk (Go.Ab.Ln.b ln) (Go.Ab.Ln.cr ln) (Go.Ab.Ln.code ln)) (UInt8.ofNat (Int.toNat k)))));let y3:=I.hid (α:=Str) (Prod.fst (Prod.snd (lnF (Go.Ab.Ln.mk (Go.Ab.Ln.b ln) (Go.Ab.Ln.cr ln) (Go.Ab.Ln.code ln)) (UInt8.ofNat (Int.toNat k)))));let y4:=I.hid (α:=Int) (Prod.snd (Prod.snd (Prod.snd (lnF (Go.Ab.Ln.mk (Go.Ab.Ln.b ln) (Go.Ab.Ln.cr ln) (Go.Ab.Ln.code ln)) (UInt8.ofNat (Int.toNat k))))));let y5:=I.hid (α:=Go.Ab.Rq) (Prod.fst (zI (Go.Ab.Rq.mk (Go.Ab.Ln.mk y2 y1 y0) p (Hd.mk m tg hm hf hl) le (Option.none) Bool.false out) y3));let y6:=I.hid (α:=(List Go.Ab.Evt)) (HAppend.hAppend out ([(Go.Ab.Evt.mk (2:Int) (Hd.mk ([]:Str) ([]:Str) (0:Int) ([]:List Fld) (0:Int)) (I.hid (α:=Str) ([]:Str)) (Go.Ab.Prt.mk ([]:Str) ([]:Str) ([]:Str) ([]:Str)) (0:Int))]:List Go.Ab.Evt));let y7:=I.hid (α:=(List Go.Ab.Evt)) (HAppend.hAppend out ([(Go.Ab.Evt.mk (2:Int) (Hd.mk ([]:Str) ([]:Str) (0:Int) ([]:List Fld) (0:Int)) ([(I.i2b k)]:Str) (Go.Ab.Prt.mk ([]:Str) ([]:Str) ([]:Str) ([]:Str)) (0:Int))]:List Go.Ab.Evt));let y8:=I.hid (α:=(Prop)) (zC (Go.Ab.Rq.mk (Go.Ab.Ln.mk (Go.Ab.Ln.b ln) (Go.Ab.Ln.cr ln) (Go.Ab.Ln.code ln)) p (Hd.mk m tg hm hf hl) le (Option.none) Bool.false out));let y9:=I.hid (α:=Int) (Prod.snd (zI (Go.Ab.Rq.mk (Go.Ab.Ln.mk y2 y1 y0) p (Hd.mk m tg hm hf hl) le (Option.none) Bool.false out) y3));let y10:=I.hid (α:=Go.Ab.Rq) (yc (Go.Ab.Rq.mk (Go.Ab.Ln.mk y2 y1 y0) p (Hd.mk m tg hm hf hl) le (Option.none) Bool.false out) y4);let y11:=I.hid (α:=(Prop)) (zC (Go.Ab.Rq.mk (Go.Ab.Ln.mk y2 y1 y0) p (Hd.mk m tg hm hf hl) le (Option.none) Bool.false out));let y12:=I.hid (α:=(Prop)) (And (xk (Go.Ab.Rq.mk (Go.Ab.Ln.mk y2 y1 y0) p (Hd.mk m tg hm hf hl) le (Option.none) Bool.false out)) (And (rqFs (Go.Ab.Rq.mk (Go.Ab.Ln.mk y2 y1 y0) p (Hd.mk m tg hm hf hl) le (Option.none) Bool.false out)) (LE.le (List.length y3) 1000000)));let y13:=I.hid (α:=Bool) (Prod.fst (Prod.snd (Prod.snd (lnF (Go.Ab.Ln.mk (Go.Ab.Ln.b ln) (Go.Ab.Ln.cr ln) (Go.Ab.Ln.code ln)) (UInt8.ofNat (Int.toNat k))))));let y14:=I.hid (α:=(Prop)) (And (LE.le (0:Int) k) (And (LE.le k (255:Int)) (LE.le (List.length (Go.Ab.Ln.b ln)) 1000000)));let y15:=I.hid (α:=Go.Ab.Rq) (yc y5 y9);.br (I.ieq p 2) (.need (I.inr Go.IntKind.u8 k) (.need y8 (.need (I.inr Go.IntKind.i64 (I.sub le 1)) (.br (I.ieq (I.sub le 1) 0) (.need (I.hid (α:=(Prop)) (zC (Go.Ab.Rq.mk (Go.Ab.Ln.mk (Go.Ab.Ln.b ln) (Go.Ab.Ln.cr ln) (Go.Ab.Ln.code ln)) p (Hd.mk m tg hm hf hl) (I.sub le 1) (Option.none) Bool.false y7))) (.fin (.ret (.tup [])) [(.abs (.rq (I.hid (α:=Go.Ab.Rq) (yU (Go.Ab.Rq.mk (Go.Ab.Ln.mk (Go.Ab.Ln.b ln) (Go.Ab.Ln.cr ln) (Go.Ab.Ln.code ln)) p (Hd.mk m tg hm hf hl) (I.sub le 1) (Option.none) Bool.false y7)))))])) (.fin (.ret (.tup [])) [(.abs (.rq (Go.Ab.Rq.mk (Go.Ab.Ln.mk (Go.Ab.Ln.b ln) (Go.Ab.Ln.cr ln) (Go.Ab.Ln.code ln)) p (Hd.mk m tg hm hf hl) (I.sub le 1) (Option.none) Bool.false y7)))]))))) (.br (I.ieq p 3) (.need (I.hid (α:=(Prop)) False) (.br (I.bnot (I.ieq 0 0)) (.need y8 (.fin (.ret (.tup [])) [(.abs (.rq (I.hid (α:=Go.Ab.Rq) (yc (Go.Ab.Rq.mk (Go.Ab.Ln.mk (Go.Ab.Ln.b ln) (Go.Ab.Ln.cr ln) (Go.Ab.Ln.code ln)) p (Hd.mk m tg hm hf hl) le (Option.none) Bool.false out) (0:Int)))))])) (.br (I.ilt 0 (I.len (α:=UInt8) (I.hid (α:=Str) ([]:Str)))) (.need y8 (.br Bool.false (.need (I.hid (α:=(Prop)) (zC (Go.Ab.Rq.mk (Go.Ab.Ln.mk (Go.Ab.Ln.b ln) (Go.Ab.Ln.cr ln) (Go.Ab.Ln.code ln)) p (Hd.mk m tg hm hf hl) le (Option.none) Bool.false y6))) (.fin (.ret (.tup [])) [(.abs (.rq (I.hid (α:=Go.Ab.Rq) (yU (Go.Ab.Rq.mk (Go.Ab.Ln.mk (Go.Ab.Ln.b ln) (Go.Ab.Ln.cr ln) (Go.Ab.Ln.code ln)) p (Hd.mk m tg hm hf hl) le (Option.none) Bool.false y6)))))])) (.fin (.ret (.tup [])) [(.abs (.rq (Go.Ab.Rq.mk (Go.Ab.Ln.mk (Go.Ab.Ln.b ln) (Go.Ab.Ln.cr ln) (Go.Ab.Ln.code ln)) p (Hd.mk m tg hm hf hl) le (Option.none) Bool.false y6)))]))) (.br Bool.false (.need y8 (.fin (.ret (.tup [])) [(.abs (.rq (I.hid (α:=Go.Ab.Rq) (yU (Go.Ab.Rq.mk (Go.Ab.Ln.mk (Go.Ab.Ln.b ln) (Go.Ab.Ln.cr ln) (Go.Ab.Ln.code ln)) p (Hd.mk m tg hm hf hl) le (Option.none) Bool.false out)))))])) (.fin (.ret (.tup [])) [(.abs (.rq (Go.Ab.Rq.mk (Go.Ab.Ln.mk (Go.Ab.Ln.b ln) (Go.Ab.Ln.cr ln) (Go.Ab.Ln.code ln)) p (Hd.mk m tg hm hf hl) le (Option.none) Bool.false out)))]))))) (.br (I.ieq p 0) (.need y14 (.br (I.ieq y4 0) (.br y13 (.need y12 (.br (I.bnot (I.ieq y9 0)) (.need (I.hid (α:=(Prop)) (zC y5)) (.fin (.ret (.tup [])) [(.abs (.rq y15))])) (.fin (.ret (.tup [])) [(.abs (.rq y5))]))) (.br (I.bnot (I.ieq y4 0)) (.need y11 (.fin (.ret (.tup [])) [(.abs (.rq y10))])) (.fin (.ret (.tup [])) [(.abs (.rq (Go.Ab.Rq.mk (Go.Ab.Ln.mk y2 y1 y0) p (Hd.mk m tg hm hf hl) le (Option.none) Bool.false out)))]))) (.br (I.bnot (I.ieq y4 0)) (.need y11 (.fin (.ret (.tup [])) [(.abs (.rq y10))])) (.fin (.ret (.tup [])) [(.abs (.rq (Go.Ab.Rq.mk (Go.Ab.Ln.mk y2 y1 y0) p (Hd.mk m tg hm hf hl) le (Option.none) Bool.false out)))])))) (.br (I.ieq p 1) (.need y14 (.br (I.ieq y4 0) (.br y13 (.need y12 (.br (I.bnot (I.ieq y9 0)) (.need (I.hid (α:=(Prop)) (zC y5)) (.fin (.ret (.tup [])) [(.abs (.rq y15))])) (.fin (.ret (.tup [])) [(.abs (.rq y5))]))) (.br (I.bnot (I.ieq y4 0)) (.need y11 (.fin (.ret (.tup [])) [(.abs (.rq y10))])) (.fin (.ret (.tup [])) [(.abs (.rq (Go.Ab.Rq.mk (Go.Ab.Ln.mk y2 y1 y0) p (Hd.mk m tg hm hf hl) le (Option.none) Bool.false out)))]))) (.br (I.bnot (I.ieq y4 0)) (.need y11 (.fin (.ret (.tup [])) [(.abs (.rq y10))])) (.fin (.ret (.tup [])) [(.abs (.rq (Go.Ab.Rq.mk (Go.Ab.Ln.mk y2 y1 y0) p (Hd.mk m tg hm hf hl) le (Option.none) Bool.false out)))])))) (.fin (.ret (.tup [])) [(.abs (.rq (Go.Ab.Rq.mk (Go.Ab.Ln.mk (Go.Ab.Ln.b ln) (Go.Ab.Ln.cr ln) (Go.Ab.Ln.code ln)) p (Hd.mk m tg hm hf hl) le (Option.none) Bool.false out)))]))))) (by kernel_rfl) ?_
  simp only [zy]
  subst hI
  unfold rqF at hr
  simp only at hr
  simp only [nrmA,nrmB,nrlB,reduceCtorEq,HO.abs.injEq,Gh.rq.injEq,Rq.mk.injEq]
  generalize UInt8.ofNat k.toNat=c at *
  have hz2:lnF ⟨ln.b,ln.cr,ln.code⟩ c=lnF ln c:=rfl
  simp only [hz2]
  clear hz2 g2
  by_cases q1:p=2
  · rw [if_pos q1] at hr
    have h9:=g9 q1
    by_cases q2:le - 1=0
    · rw [if_pos q2] at hr
      subst hr
      have q3:le=1:=by omega
      subst q3
      (repeat' (first|refine And.intro ?_ ?_|intro _))<;>first|omega|exact True.intro|exact False.elim ‹False›|skip
      all_goals first|omega|rfl|(unfold zC;simp;omega)|(unfold zC;simp only;omega)|trace_state
    · rw [if_neg q2] at hr
      subst hr
      (repeat' (first|refine And.intro ?_ ?_|intro _))<;>first|omega|exact True.intro|exact False.elim ‹False›|skip
      all_goals first|omega|rfl|(unfold zC;simp;omega)|(unfold zC;simp only;omega)|trace_state
  rw [if_neg q1] at hr
  by_cases q4:p=3
  · exact absurd rfl (g3 q4)
  rw [if_neg q4] at hr
  by_cases q8:p=0∨p=1
  · exact absurd (g4 q8) (by simp)
  rw [if_neg q8] at hr
  subst hr
  (repeat' (first|refine And.intro ?_ ?_|intro _))<;>first|omega|exact True.intro|exact False.elim ‹False›|skip
  all_goals first|omega|rfl|contradiction|trace_state
theorem zfL (ln:Ln) (p:Int) (m tg:Str) (hm:Int) (hf:List Fld) (hl le:Int) (ch:Ch) (out:List Evt) (k:Int) (hneed:rqN ⟨ln,p,⟨m,tg,hm,hf,hl⟩,le,some ch,true,out⟩∧0≤k∧k≤255):Spc Tryz.prog 22 [.v (.one (.ptr 0 0)),.v (.one (.p (.int .u8 k)))] [.abs (.rq ⟨ln,p,⟨m,tg,hm,hf,hl⟩,le,some ch,true,out⟩)] (.ret (.tup [])) [.abs (.rq ((rqF ⟨ln,p,⟨m,tg,hm,hf,hl⟩,le,some ch,true,out⟩ (UInt8.ofNat k.toNat))))]:=by
  obtain⟨⟨i,hi,hI0⟩,hk0,hk1⟩:=hneed
  obtain⟨g1,g2,g3,g4,g5,g6,g7,g8,g9,g10⟩:=hI0
  simp only at g1 g2 g3 g4 g5 g6 g7 g8 g9 g10
  have hfs:FsOk hf:=⟨by omega,fun f hm=>by have:=g6 f hm;omega⟩
  have hll:=Xi ln (UInt8.ofNat k.toNat)
  generalize hr:rqF ⟨ln,p,⟨m,tg,hm,hf,hl⟩,le,some ch,true,out⟩ (UInt8.ofNat k.toNat)=r
  refine spcG zi mixed Tryz.func22 (by kernel_rfl) { cfgQ with fz:=[45],keep:=some [0,1,4,5,6,7,8,9,13,62]} [qi,qh,YK,YJ,WV,WU,zW,zV,zZ,zY,yw,yu,yD,yC,xH,xG,Yf,Ye,qV,qU,Ya,Z9] (by kernel_rfl) ?_
  intro I X hI hX
  refine zh (let y8:=I.hid (α:=Str) (Go.Ab.Ln.b (Go.Ab.Ch.ln (Prod.fst (chF (Go.Ab.Ch.mk (Go.Ab.Ln.mk (Go.Ab.Ln.b (Go.Ab.Ch.ln ch)) (Go.Ab.Ln.cr (Go.Ab.Ch.ln ch)) (Go.Ab.Ln.code (Go.Ab.Ch.ln ch))) (Go.Ab.Ch.pos ch) (Go.Ab.Ch.left ch) (Go.Ab.Ch.all ch) (Go.Ab.Ch.tails ch) (Go.Ab.Ch.code ch)) (UInt8.ofNat (Int.toNat k))))));let y7:=I.hid (α:=Bool) (Go.Ab.Ln.cr (Go.Ab.Ch.ln (Prod.fst (chF (Go.Ab.Ch.mk (Go.Ab.Ln.mk (Go.Ab.Ln.b (Go.Ab.Ch.ln ch)) (Go.Ab.Ln.cr (Go.Ab.Ch.ln ch)) (Go.Ab.Ln.code (Go.Ab.Ch.ln ch))) (Go.Ab.Ch.pos ch) (Go.Ab.Ch.left ch) (Go.Ab.Ch.all ch) (Go.Ab.Ch.tails ch) (Go.Ab.Ch.code ch)) (UInt8.ofNat (Int.toNat k))))));let y6:=I.hid (α:=Int) (Go.Ab.Ln.code (Go.Ab.Ch.ln (Prod.fst (chF (Go.Ab.Ch.mk (Go.Ab.Ln.mk (Go.Ab.Ln.b (Go.Ab.Ch.ln ch)) (Go.Ab.Ln.cr (Go.Ab.Ch.ln ch)) (Go.Ab.Ln.code (Go.Ab.Ch.ln ch))) (Go.Ab.Ch.pos ch) (Go.Ab.Ch.left ch) (Go.Ab.Ch.all ch) (Go.Ab.Ch.tails ch) (Go.Ab.Ch.code ch)) (UInt8.ofNat (Int.toNat k))))));let y12:=I.hid (α:=Int) (Go.Ab.Ch.pos (Prod.fst (chF (Go.Ab.Ch.mk (Go.Ab.Ln.mk (Go.Ab.Ln.b (Go.Ab.Ch.ln ch)) (Go.Ab.Ln.cr (Go.Ab.Ch.ln ch)) (Go.Ab.Ln.code (Go.Ab.Ch.ln ch))) (Go.Ab.Ch.pos ch) (Go.Ab.Ch.left ch) (Go.Ab.Ch.all ch) (Go.Ab.Ch.tails ch) (Go.Ab.Ch.code ch)) (UInt8.ofNat (Int.toNat k)))));let y10:=I.hid (α:=Int) (Go.Ab.Ch.left (Prod.fst (chF (Go.Ab.Ch.mk (Go.Ab.Ln.mk (Go.Ab.Ln.b (Go.Ab.Ch.ln ch)) (Go.Ab.Ln.cr (Go.Ab.Ch.ln ch)) (Go.Ab.Ln.code (Go.Ab.Ch.ln ch))) (Go.Ab.Ch.pos ch) (Go.Ab.Ch.left ch) (Go.Ab.Ch.all ch) (Go.Ab.Ch.tails ch) (Go.Ab.Ch.code ch)) (UInt8.ofNat (Int.toNat k)))));let y13:=I.hid (α:=Int) (Go.Ab.Ch.all (Prod.fst (chF (Go.Ab.Ch.mk (Go.Ab.Ln.mk (Go.Ab.Ln.b (Go.Ab.Ch.ln ch)) (Go.Ab.Ln.cr (Go.Ab.Ch.ln ch)) (Go.Ab.Ln.code (Go.Ab.Ch.ln ch))) (Go.Ab.Ch.pos ch) (Go.Ab.Ch.left ch) (Go.Ab.Ch.all ch) (Go.Ab.Ch.tails ch) (Go.Ab.Ch.code ch)) (UInt8.ofNat (Int.toNat k)))));let y9:=I.hid (α:=Int) (Go.Ab.Ch.tails (Prod.fst (chF (Go.Ab.Ch.mk (Go.Ab.Ln.mk (Go.Ab.Ln.b (Go.Ab.Ch.ln ch)) (Go.Ab.Ln.cr (Go.Ab.Ch.ln ch)) (Go.Ab.Ln.code (Go.Ab.Ch.ln ch))) (Go.Ab.Ch.pos ch) (Go.Ab.Ch.left ch) (Go.Ab.Ch.all ch) (Go.Ab.Ch.tails ch) (Go.Ab.Ch.code ch)) (UInt8.ofNat (Int.toNat k)))));let y11:=I.hid (α:=Int) (Go.Ab.Ch.code (Prod.fst (chF (Go.Ab.Ch.mk (Go.Ab.Ln.mk (Go.Ab.Ln.b (Go.Ab.Ch.ln ch)) (Go.Ab.Ln.cr (Go.Ab.Ch.ln ch)) (Go.Ab.Ln.code (Go.Ab.Ch.ln ch))) (Go.Ab.Ch.pos ch) (Go.Ab.Ch.left ch) (Go.Ab.Ch.all ch) (Go.Ab.Ch.tails ch) (Go.Ab.Ch.code ch)) (UInt8.ofNat (Int.toNat k)))));let y0:=I.hid (α:=(Prop)) (zC (Go.Ab.Rq.mk (Go.Ab.Ln.mk (Go.Ab.Ln.b ln) (Go.Ab.Ln.cr ln) (Go.Ab.Ln.code ln)) p (Hd.mk m tg hm hf hl) le (Option.some (Go.Ab.Ch.mk (Go.Ab.Ln.mk y8 y7 y6) y12 y10 y13 y9 y11)) Bool.true out));let y19:=I.hid (α:=Str) (Go.Ab.Ln.b (Prod.fst (lnF (Go.Ab.Ln.mk (Go.Ab.Ln.b ln) (Go.Ab.Ln.cr ln) (Go.Ab.Ln.code ln)) (UInt8.ofNat (Int.toNat k)))));let y18:=I.hid (α:=Bool) (Go.Ab.Ln.cr (Prod.fst (lnF (Go.Ab.Ln.mk (Go.Ab.Ln.b ln) (Go.Ab.Ln.cr ln) (Go.Ab.Ln.code ln)) (UInt8.ofNat (Int.toNat k)))));let y17:=I.hid (α:=Int) (Go.Ab.Ln.code (Prod.fst (lnF (Go.Ab.Ln.mk (Go.Ab.Ln.b ln) (Go.Ab.Ln.cr ln) (Go.Ab.Ln.code ln)) (UInt8.ofNat (Int.toNat k)))));let y1:=I.hid (α:=Go.Ab.Rq) (Prod.fst (zI (Go.Ab.Rq.mk (Go.Ab.Ln.mk y19 y18 y17) p (Hd.mk m tg hm hf hl) le (Option.some (Go.Ab.Ch.mk (Go.Ab.Ln.mk (Go.Ab.Ln.b (Go.Ab.Ch.ln ch)) (Go.Ab.Ln.cr (Go.Ab.Ch.ln ch)) (Go.Ab.Ln.code (Go.Ab.Ch.ln ch))) (Go.Ab.Ch.pos ch) (Go.Ab.Ch.left ch) (Go.Ab.Ch.all ch) (Go.Ab.Ch.tails ch) (Go.Ab.Ch.code ch))) Bool.true out) (I.hid (α:=Str) (Prod.fst (Prod.snd (lnF (Go.Ab.Ln.mk (Go.Ab.Ln.b ln) (Go.Ab.Ln.cr ln) (Go.Ab.Ln.code ln)) (UInt8.ofNat (Int.toNat k))))))));let y2:=I.hid (α:=Go.Ab.Rq) (yc (Go.Ab.Rq.mk (Go.Ab.Ln.mk y19 y18 y17) p (Hd.mk m tg hm hf hl) le (Option.some (Go.Ab.Ch.mk (Go.Ab.Ln.mk (Go.Ab.Ln.b (Go.Ab.Ch.ln ch)) (Go.Ab.Ln.cr (Go.Ab.Ch.ln ch)) (Go.Ab.Ln.code (Go.Ab.Ch.ln ch))) (Go.Ab.Ch.pos ch) (Go.Ab.Ch.left ch) (Go.Ab.Ch.all ch) (Go.Ab.Ch.tails ch) (Go.Ab.Ch.code ch))) Bool.true out) (I.hid (α:=Int) (Prod.snd (Prod.snd (Prod.snd (lnF (Go.Ab.Ln.mk (Go.Ab.Ln.b ln) (Go.Ab.Ln.cr ln) (Go.Ab.Ln.code ln)) (UInt8.ofNat (Int.toNat k))))))));let y3:=I.hid (α:=Int) (Prod.snd (zI (Go.Ab.Rq.mk (Go.Ab.Ln.mk y19 y18 y17) p (Hd.mk m tg hm hf hl) le (Option.some (Go.Ab.Ch.mk (Go.Ab.Ln.mk (Go.Ab.Ln.b (Go.Ab.Ch.ln ch)) (Go.Ab.Ln.cr (Go.Ab.Ch.ln ch)) (Go.Ab.Ln.code (Go.Ab.Ch.ln ch))) (Go.Ab.Ch.pos ch) (Go.Ab.Ch.left ch) (Go.Ab.Ch.all ch) (Go.Ab.Ch.tails ch) (Go.Ab.Ch.code ch))) Bool.true out) (I.hid (α:=Str) (Prod.fst (Prod.snd (lnF (Go.Ab.Ln.mk (Go.Ab.Ln.b ln) (Go.Ab.Ln.cr ln) (Go.Ab.Ln.code ln)) (UInt8.ofNat (Int.toNat k))))))));let y4:=I.hid (α:=(Prop)) (zC (Go.Ab.Rq.mk (Go.Ab.Ln.mk y19 y18 y17) p (Hd.mk m tg hm hf hl) le (Option.some (Go.Ab.Ch.mk (Go.Ab.Ln.mk (Go.Ab.Ln.b (Go.Ab.Ch.ln ch)) (Go.Ab.Ln.cr (Go.Ab.Ch.ln ch)) (Go.Ab.Ln.code (Go.Ab.Ch.ln ch))) (Go.Ab.Ch.pos ch) (Go.Ab.Ch.left ch) (Go.Ab.Ch.all ch) (Go.Ab.Ch.tails ch) (Go.Ab.Ch.code ch))) Bool.true out));let y5:=I.hid (α:=(Prop)) (And (xk (Go.Ab.Rq.mk (Go.Ab.Ln.mk y19 y18 y17) p (Hd.mk m tg hm hf hl) le (Option.some (Go.Ab.Ch.mk (Go.Ab.Ln.mk (Go.Ab.Ln.b (Go.Ab.Ch.ln ch)) (Go.Ab.Ln.cr (Go.Ab.Ch.ln ch)) (Go.Ab.Ln.code (Go.Ab.Ch.ln ch))) (Go.Ab.Ch.pos ch) (Go.Ab.Ch.left ch) (Go.Ab.Ch.all ch) (Go.Ab.Ch.tails ch) (Go.Ab.Ch.code ch))) Bool.true out)) (And (rqFs (Go.Ab.Rq.mk (Go.Ab.Ln.mk y19 y18 y17) p (Hd.mk m tg hm hf hl) le (Option.some (Go.Ab.Ch.mk (Go.Ab.Ln.mk (Go.Ab.Ln.b (Go.Ab.Ch.ln ch)) (Go.Ab.Ln.cr (Go.Ab.Ch.ln ch)) (Go.Ab.Ln.code (Go.Ab.Ch.ln ch))) (Go.Ab.Ch.pos ch) (Go.Ab.Ch.left ch) (Go.Ab.Ch.all ch) (Go.Ab.Ch.tails ch) (Go.Ab.Ch.code ch))) Bool.true out)) (LE.le (List.length (I.hid (α:=Str) (Prod.fst (Prod.snd (lnF (Go.Ab.Ln.mk (Go.Ab.Ln.b ln) (Go.Ab.Ln.cr ln) (Go.Ab.Ln.code ln)) (UInt8.ofNat (Int.toNat k))))))) 1000000)));let y14:=I.hid (α:=(List Go.Ab.Evt)) (HAppend.hAppend out ([(Go.Ab.Evt.mk (2:Int) (Hd.mk ([]:Str) ([]:Str) (0:Int) ([]:List Fld) (0:Int)) (I.hid (α:=Str) (Prod.fst (Prod.snd (chF (Go.Ab.Ch.mk (Go.Ab.Ln.mk (Go.Ab.Ln.b (Go.Ab.Ch.ln ch)) (Go.Ab.Ln.cr (Go.Ab.Ch.ln ch)) (Go.Ab.Ln.code (Go.Ab.Ch.ln ch))) (Go.Ab.Ch.pos ch) (Go.Ab.Ch.left ch) (Go.Ab.Ch.all ch) (Go.Ab.Ch.tails ch) (Go.Ab.Ch.code ch)) (UInt8.ofNat (Int.toNat k)))))) (Go.Ab.Prt.mk ([]:Str) ([]:Str) ([]:Str) ([]:Str)) (0:Int))]:List Go.Ab.Evt));let y15:=I.ieq (I.hid (α:=Int) (Prod.snd (Prod.snd (Prod.snd (lnF (Go.Ab.Ln.mk (Go.Ab.Ln.b ln) (Go.Ab.Ln.cr ln) (Go.Ab.Ln.code ln)) (UInt8.ofNat (Int.toNat k))))))) 0;let y16:=I.hid (α:=(List Go.Ab.Evt)) (HAppend.hAppend out ([(Go.Ab.Evt.mk (2:Int) (Hd.mk ([]:Str) ([]:Str) (0:Int) ([]:List Fld) (0:Int)) ([(I.i2b k)]:Str) (Go.Ab.Prt.mk ([]:Str) ([]:Str) ([]:Str) ([]:Str)) (0:Int))]:List Go.Ab.Evt));let y20:=I.hid (α:=Bool) (Prod.fst (Prod.snd (Prod.snd (chF (Go.Ab.Ch.mk (Go.Ab.Ln.mk (Go.Ab.Ln.b (Go.Ab.Ch.ln ch)) (Go.Ab.Ln.cr (Go.Ab.Ch.ln ch)) (Go.Ab.Ln.code (Go.Ab.Ch.ln ch))) (Go.Ab.Ch.pos ch) (Go.Ab.Ch.left ch) (Go.Ab.Ch.all ch) (Go.Ab.Ch.tails ch) (Go.Ab.Ch.code ch)) (UInt8.ofNat (Int.toNat k))))));let y21:=I.hid (α:=Int) (Prod.snd (Prod.snd (Prod.snd (chF (Go.Ab.Ch.mk (Go.Ab.Ln.mk (Go.Ab.Ln.b (Go.Ab.Ch.ln ch)) (Go.Ab.Ln.cr (Go.Ab.Ch.ln ch)) (Go.Ab.Ln.code (Go.Ab.Ch.ln ch))) (Go.Ab.Ch.pos ch) (Go.Ab.Ch.left ch) (Go.Ab.Ch.all ch) (Go.Ab.Ch.tails ch) (Go.Ab.Ch.code ch)) (UInt8.ofNat (Int.toNat k))))));let y22:=I.hid (α:=Bool) (Prod.fst (Prod.snd (Prod.snd (lnF (Go.Ab.Ln.mk (Go.Ab.Ln.b ln) (Go.Ab.Ln.cr ln) (Go.Ab.Ln.code ln)) (UInt8.ofNat (Int.toNat k))))));let y23:=I.hid (α:=(Prop)) (And (LE.le (0:Int) k) (And (LE.le k (255:Int)) (LE.le (List.length (Go.Ab.Ln.b ln)) 1000000)));let y24:=I.hid (α:=Go.Ab.Rq) (yc y1 y3);.br (I.ieq p 2) (.need (I.inr Go.IntKind.u8 k) (.need (I.hid (α:=(Prop)) (zC (Go.Ab.Rq.mk (Go.Ab.Ln.mk (Go.Ab.Ln.b ln) (Go.Ab.Ln.cr ln) (Go.Ab.Ln.code ln)) p (Hd.mk m tg hm hf hl) le (Option.some (Go.Ab.Ch.mk (Go.Ab.Ln.mk (Go.Ab.Ln.b (Go.Ab.Ch.ln ch)) (Go.Ab.Ln.cr (Go.Ab.Ch.ln ch)) (Go.Ab.Ln.code (Go.Ab.Ch.ln ch))) (Go.Ab.Ch.pos ch) (Go.Ab.Ch.left ch) (Go.Ab.Ch.all ch) (Go.Ab.Ch.tails ch) (Go.Ab.Ch.code ch))) Bool.true out))) (.need (I.inr Go.IntKind.i64 (I.sub le 1)) (.br (I.ieq (I.sub le 1) 0) (.need (I.hid (α:=(Prop)) (zC (Go.Ab.Rq.mk (Go.Ab.Ln.mk (Go.Ab.Ln.b ln) (Go.Ab.Ln.cr ln) (Go.Ab.Ln.code ln)) p (Hd.mk m tg hm hf hl) (I.sub le 1) (Option.some (Go.Ab.Ch.mk (Go.Ab.Ln.mk (Go.Ab.Ln.b (Go.Ab.Ch.ln ch)) (Go.Ab.Ln.cr (Go.Ab.Ch.ln ch)) (Go.Ab.Ln.code (Go.Ab.Ch.ln ch))) (Go.Ab.Ch.pos ch) (Go.Ab.Ch.left ch) (Go.Ab.Ch.all ch) (Go.Ab.Ch.tails ch) (Go.Ab.Ch.code ch))) Bool.true y16))) (.fin (.ret (.tup [])) [(.abs (.rq (I.hid (α:=Go.Ab.Rq) (yU (Go.Ab.Rq.mk (Go.Ab.Ln.mk (Go.Ab.Ln.b ln) (Go.Ab.Ln.cr ln) (Go.Ab.Ln.code ln)) p (Hd.mk m tg hm hf hl) (I.sub le 1) (Option.some (Go.Ab.Ch.mk (Go.Ab.Ln.mk (Go.Ab.Ln.b (Go.Ab.Ch.ln ch)) (Go.Ab.Ln.cr (Go.Ab.Ch.ln ch)) (Go.Ab.Ln.code (Go.Ab.Ch.ln ch))) (Go.Ab.Ch.pos ch) (Go.Ab.Ch.left ch) (Go.Ab.Ch.all ch) (Go.Ab.Ch.tails ch) (Go.Ab.Ch.code ch))) Bool.true y16)))))])) (.fin (.ret (.tup [])) [(.abs (.rq (Go.Ab.Rq.mk (Go.Ab.Ln.mk (Go.Ab.Ln.b ln) (Go.Ab.Ln.cr ln) (Go.Ab.Ln.code ln)) p (Hd.mk m tg hm hf hl) (I.sub le 1) (Option.some (Go.Ab.Ch.mk (Go.Ab.Ln.mk (Go.Ab.Ln.b (Go.Ab.Ch.ln ch)) (Go.Ab.Ln.cr (Go.Ab.Ch.ln ch)) (Go.Ab.Ln.code (Go.Ab.Ch.ln ch))) (Go.Ab.Ch.pos ch) (Go.Ab.Ch.left ch) (Go.Ab.Ch.all ch) (Go.Ab.Ch.tails ch) (Go.Ab.Ch.code ch))) Bool.true y16)))]))))) (.br (I.ieq p 3) (.need (I.hid (α:=(Prop)) (And (And (LE.le (0:Int) k) (LE.le k (255:Int))) (And (LE.le (List.length (Go.Ab.Ln.b (Go.Ab.Ch.ln ch))) 1000000) (And (And (LE.le (Neg.neg (1000000:Int)) (Go.Ab.Ch.left ch)) (LE.le (Go.Ab.Ch.left ch) (100000000:Int))) (And (And (LE.le (0:Int) (Go.Ab.Ch.all ch)) (LE.le (Go.Ab.Ch.all ch) (1000000:Int))) (And (LE.le (0:Int) (Go.Ab.Ch.tails ch)) (LE.le (Go.Ab.Ch.tails ch) (1000000:Int)))))))) (.br (I.bnot (I.ieq y21 0)) (.need y0 (.fin (.ret (.tup [])) [(.abs (.rq (I.hid (α:=Go.Ab.Rq) (yc (Go.Ab.Rq.mk (Go.Ab.Ln.mk (Go.Ab.Ln.b ln) (Go.Ab.Ln.cr ln) (Go.Ab.Ln.code ln)) p (Hd.mk m tg hm hf hl) le (Option.some (Go.Ab.Ch.mk (Go.Ab.Ln.mk y8 y7 y6) y12 y10 y13 y9 y11)) Bool.true out) y21))))])) (.br (I.ilt 0 (I.len (α:=UInt8) (I.hid (α:=Str) (Prod.fst (Prod.snd (chF (Go.Ab.Ch.mk (Go.Ab.Ln.mk (Go.Ab.Ln.b (Go.Ab.Ch.ln ch)) (Go.Ab.Ln.cr (Go.Ab.Ch.ln ch)) (Go.Ab.Ln.code (Go.Ab.Ch.ln ch))) (Go.Ab.Ch.pos ch) (Go.Ab.Ch.left ch) (Go.Ab.Ch.all ch) (Go.Ab.Ch.tails ch) (Go.Ab.Ch.code ch)) (UInt8.ofNat (Int.toNat k)))))))) (.need y0 (.br y20 (.need (I.hid (α:=(Prop)) (zC (Go.Ab.Rq.mk (Go.Ab.Ln.mk (Go.Ab.Ln.b ln) (Go.Ab.Ln.cr ln) (Go.Ab.Ln.code ln)) p (Hd.mk m tg hm hf hl) le (Option.some (Go.Ab.Ch.mk (Go.Ab.Ln.mk y8 y7 y6) y12 y10 y13 y9 y11)) Bool.true y14))) (.fin (.ret (.tup [])) [(.abs (.rq (I.hid (α:=Go.Ab.Rq) (yU (Go.Ab.Rq.mk (Go.Ab.Ln.mk (Go.Ab.Ln.b ln) (Go.Ab.Ln.cr ln) (Go.Ab.Ln.code ln)) p (Hd.mk m tg hm hf hl) le (Option.some (Go.Ab.Ch.mk (Go.Ab.Ln.mk y8 y7 y6) y12 y10 y13 y9 y11)) Bool.true y14)))))])) (.fin (.ret (.tup [])) [(.abs (.rq (Go.Ab.Rq.mk (Go.Ab.Ln.mk (Go.Ab.Ln.b ln) (Go.Ab.Ln.cr ln) (Go.Ab.Ln.code ln)) p (Hd.mk m tg hm hf hl) le (Option.some (Go.Ab.Ch.mk (Go.Ab.Ln.mk y8 y7 y6) y12 y10 y13 y9 y11)) Bool.true y14)))]))) (.br y20 (.need y0 (.fin (.ret (.tup [])) [(.abs (.rq (I.hid (α:=Go.Ab.Rq) (yU (Go.Ab.Rq.mk (Go.Ab.Ln.mk (Go.Ab.Ln.b ln) (Go.Ab.Ln.cr ln) (Go.Ab.Ln.code ln)) p (Hd.mk m tg hm hf hl) le (Option.some (Go.Ab.Ch.mk (Go.Ab.Ln.mk y8 y7 y6) y12 y10 y13 y9 y11)) Bool.true out)))))])) (.fin (.ret (.tup [])) [(.abs (.rq (Go.Ab.Rq.mk (Go.Ab.Ln.mk (Go.Ab.Ln.b ln) (Go.Ab.Ln.cr ln) (Go.Ab.Ln.code ln)) p (Hd.mk m tg hm hf hl) le (Option.some (Go.Ab.Ch.mk (Go.Ab.Ln.mk y8 y7 y6) y12 y10 y13 y9 y11)) Bool.true out)))]))))) (.br (I.ieq p 0) (.need y23 (.br y15 (.br y22 (.need y5 (.br (I.bnot (I.ieq y3 0)) (.need (I.hid (α:=(Prop)) (zC y1)) (.fin (.ret (.tup [])) [(.abs (.rq y24))])) (.fin (.ret (.tup [])) [(.abs (.rq y1))]))) (.br (I.bnot y15) (.need y4 (.fin (.ret (.tup [])) [(.abs (.rq y2))])) (.fin (.ret (.tup [])) [(.abs (.rq (Go.Ab.Rq.mk (Go.Ab.Ln.mk y19 y18 y17) p (Hd.mk m tg hm hf hl) le (Option.some (Go.Ab.Ch.mk (Go.Ab.Ln.mk (Go.Ab.Ln.b (Go.Ab.Ch.ln ch)) (Go.Ab.Ln.cr (Go.Ab.Ch.ln ch)) (Go.Ab.Ln.code (Go.Ab.Ch.ln ch))) (Go.Ab.Ch.pos ch) (Go.Ab.Ch.left ch) (Go.Ab.Ch.all ch) (Go.Ab.Ch.tails ch) (Go.Ab.Ch.code ch))) Bool.true out)))]))) (.br (I.bnot y15) (.need y4 (.fin (.ret (.tup [])) [(.abs (.rq y2))])) (.fin (.ret (.tup [])) [(.abs (.rq (Go.Ab.Rq.mk (Go.Ab.Ln.mk y19 y18 y17) p (Hd.mk m tg hm hf hl) le (Option.some (Go.Ab.Ch.mk (Go.Ab.Ln.mk (Go.Ab.Ln.b (Go.Ab.Ch.ln ch)) (Go.Ab.Ln.cr (Go.Ab.Ch.ln ch)) (Go.Ab.Ln.code (Go.Ab.Ch.ln ch))) (Go.Ab.Ch.pos ch) (Go.Ab.Ch.left ch) (Go.Ab.Ch.all ch) (Go.Ab.Ch.tails ch) (Go.Ab.Ch.code ch))) Bool.true out)))])))) (.br (I.ieq p 1) (.need y23 (.br y15 (.br y22 (.need y5 (.br (I.bnot (I.ieq y3 0)) (.need (I.hid (α:=(Prop)) (zC y1)) (.fin (.ret (.tup [])) [(.abs (.rq y24))])) (.fin (.ret (.tup [])) [(.abs (.rq y1))]))) (.br (I.bnot y15) (.need y4 (.fin (.ret (.tup [])) [(.abs (.rq y2))])) (.fin (.ret (.tup [])) [(.abs (.rq (Go.Ab.Rq.mk (Go.Ab.Ln.mk y19 y18 y17) p (Hd.mk m tg hm hf hl) le (Option.some (Go.Ab.Ch.mk (Go.Ab.Ln.mk (Go.Ab.Ln.b (Go.Ab.Ch.ln ch)) (Go.Ab.Ln.cr (Go.Ab.Ch.ln ch)) (Go.Ab.Ln.code (Go.Ab.Ch.ln ch))) (Go.Ab.Ch.pos ch) (Go.Ab.Ch.left ch) (Go.Ab.Ch.all ch) (Go.Ab.Ch.tails ch) (Go.Ab.Ch.code ch))) Bool.true out)))]))) (.br (I.bnot y15) (.need y4 (.fin (.ret (.tup [])) [(.abs (.rq y2))])) (.fin (.ret (.tup [])) [(.abs (.rq (Go.Ab.Rq.mk (Go.Ab.Ln.mk y19 y18 y17) p (Hd.mk m tg hm hf hl) le (Option.some (Go.Ab.Ch.mk (Go.Ab.Ln.mk (Go.Ab.Ln.b (Go.Ab.Ch.ln ch)) (Go.Ab.Ln.cr (Go.Ab.Ch.ln ch)) (Go.Ab.Ln.code (Go.Ab.Ch.ln ch))) (Go.Ab.Ch.pos ch) (Go.Ab.Ch.left ch) (Go.Ab.Ch.all ch) (Go.Ab.Ch.tails ch) (Go.Ab.Ch.code ch))) Bool.true out)))])))) (.fin (.ret (.tup [])) [(.abs (.rq (Go.Ab.Rq.mk (Go.Ab.Ln.mk (Go.Ab.Ln.b ln) (Go.Ab.Ln.cr ln) (Go.Ab.Ln.code ln)) p (Hd.mk m tg hm hf hl) le (Option.some (Go.Ab.Ch.mk (Go.Ab.Ln.mk (Go.Ab.Ln.b (Go.Ab.Ch.ln ch)) (Go.Ab.Ln.cr (Go.Ab.Ch.ln ch)) (Go.Ab.Ln.code (Go.Ab.Ch.ln ch))) (Go.Ab.Ch.pos ch) (Go.Ab.Ch.left ch) (Go.Ab.Ch.all ch) (Go.Ab.Ch.tails ch) (Go.Ab.Ch.code ch))) Bool.true out)))]))))) (by kernel_rfl) ?_
  simp only [zy]
  subst hI
  unfold rqF at hr
  simp only at hr
  simp only [nrmA,nrmB,nrlB,reduceCtorEq,HO.abs.injEq,Gh.rq.injEq,Rq.mk.injEq]
  generalize UInt8.ofNat k.toNat=c at *
  have hni:=zd0 (g2 ch rfl) hi
  have hz:chF ⟨⟨ch.ln.b,ch.ln.cr,ch.ln.code⟩,ch.pos,ch.left,ch.all,ch.tails,ch.code⟩ c=chF ch c:=rfl
  have hck:ckOf ⟨ln,p,⟨m,tg,hm,hf,hl⟩,le,some ch,true,out⟩=ch:=rfl
  simp only [hz]
  rw [hck] at hr
  clear hz hck
  have hz2:lnF ⟨ln.b,ln.cr,ln.code⟩ c=lnF ln c:=rfl
  simp only [hz2]
  clear hz2 g2
  by_cases q1:p=2
  · rw [if_pos q1] at hr
    have h9:=g9 q1
    by_cases q2:le - 1=0
    · rw [if_pos q2] at hr
      subst hr
      have q3:le=1:=by omega
      subst q3
      (repeat' (first|refine And.intro ?_ ?_|intro _))<;>first|omega|exact True.intro|exact False.elim ‹False›|skip
      all_goals first|omega|rfl|(unfold zC;simp;omega)|(unfold zC;simp only;omega)|trace_state
    · rw [if_neg q2] at hr
      subst hr
      (repeat' (first|refine And.intro ?_ ?_|intro _))<;>first|omega|exact True.intro|exact False.elim ‹False›|skip
      all_goals first|omega|rfl|(unfold zC;simp;omega)|(unfold zC;simp only;omega)|trace_state
  rw [if_neg q1] at hr
  by_cases q4:p=3
  · rw [if_pos q4] at hr
    generalize chF ch c=z at *
    obtain⟨⟨⟨zb,zc,zo⟩,z1,z2,z3,z4,z5⟩,d,ov,e⟩:=z
    simp only at hr ⊢
    have hd0:d.length=0↔d=[]:=List.length_eq_zero_iff
    by_cases q5:e=0
    · rw [if_neg (fun h=>h q5)] at hr
      cases ov with
      | true=>
        rw [if_pos rfl] at hr
        by_cases q6:d=[]
        · rw [if_neg (fun h=>h q6)] at hr
          have q7:=hd0.2 q6
          subst hr
          (repeat' (first|refine And.intro ?_ ?_|intro _))<;>first|omega|exact True.intro|exact False.elim ‹False›|skip
          all_goals first|omega|rfl|(unfold zC;simp;omega)|(unfold zC;simp only;omega)|contradiction|exact⟨⟨hk0,hk1⟩,hni⟩|trace_state
        · rw [if_pos q6] at hr
          have q7: ¬ d.length=0:=fun h=>q6 (hd0.1 h)
          subst hr
          (repeat' (first|refine And.intro ?_ ?_|intro _))<;>first|omega|exact True.intro|exact False.elim ‹False›|skip
          all_goals first|omega|rfl|(unfold zC;simp;omega)|(unfold zC;simp only;omega)|contradiction|exact⟨⟨hk0,hk1⟩,hni⟩|trace_state
      | false=>
        rw [if_neg Bool.false_ne_true] at hr
        by_cases q6:d=[]
        · rw [if_neg (fun h=>h q6)] at hr
          have q7:=hd0.2 q6
          subst hr
          (repeat' (first|refine And.intro ?_ ?_|intro _))<;>first|omega|exact True.intro|exact False.elim ‹False›|skip
          all_goals first|omega|rfl|(unfold zC;simp;omega)|(unfold zC;simp only;omega)|contradiction|exact⟨⟨hk0,hk1⟩,hni⟩|trace_state
        · rw [if_pos q6] at hr
          have q7: ¬ d.length=0:=fun h=>q6 (hd0.1 h)
          subst hr
          (repeat' (first|refine And.intro ?_ ?_|intro _))<;>first|omega|exact True.intro|exact False.elim ‹False›|skip
          all_goals first|omega|rfl|(unfold zC;simp;omega)|(unfold zC;simp only;omega)|contradiction|exact⟨⟨hk0,hk1⟩,hni⟩|trace_state
    · rw [if_pos q5] at hr
      subst hr
      (repeat' (first|refine And.intro ?_ ?_|intro _))<;>first|omega|exact True.intro|exact False.elim ‹False›|skip
      all_goals first|omega|rfl|(unfold zC;simp;omega)|(unfold zC;simp only;omega)|contradiction|exact⟨⟨hk0,hk1⟩,hni⟩|trace_state
  rw [if_neg q4] at hr
  by_cases q8:p=0∨p=1
  · rw [if_pos q8] at hr
    have hl: ∀ (l:Ln) (s:Str),zI ⟨⟨l.b,l.cr,l.code⟩,p,⟨m,tg,hm,hf,hl⟩,le,some ch,true,out⟩ s=zI ⟨l,p,⟨m,tg,hm,hf,hl⟩,le,some ch,true,out⟩ s:=fun l s=>rfl
    simp only [hl]
    clear hl
    generalize lnF ln c=z at *
    obtain⟨l2,s,is,e⟩:=z
    simp only at hr hll ⊢
    have hlo:(zI ⟨l2,p,⟨m,tg,hm,hf,hl⟩,le,some ch,true,out⟩ s).1.out.length≤out.length+2:=U1 _ _
    generalize zI ⟨l2,p,⟨m,tg,hm,hf,hl⟩,le,some ch,true,out⟩ s=y at *
    obtain⟨y,ye⟩:=y
    simp only at hr hlo ⊢
    by_cases q5:e=0
    · rw [if_neg (fun h=>h q5)] at hr
      cases is with
      | true=>
        rw [if_pos rfl] at hr
        by_cases q6:ye=0
        · rw [if_neg (fun h=>h q6)] at hr
          subst hr
          (repeat' (first|refine And.intro ?_ ?_|intro _))<;>first|omega|exact True.intro|exact False.elim ‹False›|skip
          all_goals first|omega|rfl|contradiction|exact⟨rfl,⟨hfs,by simp only;omega⟩,by omega⟩|(simp only [xk];done)|exact hfs.1|(exact(hfs.2 _ ‹_›).1)|(exact(hfs.2 _ ‹_›).2)|(unfold zC;omega)|(simp only;omega)|trace_state
        · rw [if_pos q6] at hr
          subst hr
          (repeat' (first|refine And.intro ?_ ?_|intro _))<;>first|omega|exact True.intro|exact False.elim ‹False›|skip
          all_goals first|omega|rfl|contradiction|exact⟨rfl,⟨hfs,by simp only;omega⟩,by omega⟩|(simp only [xk];done)|exact hfs.1|(exact(hfs.2 _ ‹_›).1)|(exact(hfs.2 _ ‹_›).2)|(unfold zC;omega)|(simp only;omega)|trace_state
      | false=>
        rw [if_neg Bool.false_ne_true] at hr
        subst hr
        (repeat' (first|refine And.intro ?_ ?_|intro _))<;>first|omega|exact True.intro|exact False.elim ‹False›|skip
        all_goals first|omega|rfl|contradiction|trace_state
    · rw [if_pos q5] at hr
      subst hr
      (repeat' (first|refine And.intro ?_ ?_|intro _))<;>first|omega|exact True.intro|exact False.elim ‹False›|skip
      all_goals first|omega|rfl|contradiction|(unfold zC;simp only;omega)|trace_state
  rw [if_neg q8] at hr
  subst hr
  (repeat' (first|refine And.intro ?_ ?_|intro _))<;>first|omega|exact True.intro|exact False.elim ‹False›|skip
  all_goals first|omega|rfl|contradiction|trace_state
theorem zfM (ln:Ln) (p:Int) (m tg:Str) (hm:Int) (hf:List Fld) (hl le:Int) (ch:Ch) (out:List Evt) (k:Int) (hneed:rqN ⟨ln,p,⟨m,tg,hm,hf,hl⟩,le,some ch,false,out⟩∧0≤k∧k≤255):Spc Tryz.prog 22 [.v (.one (.ptr 0 0)),.v (.one (.p (.int .u8 k)))] [.abs (.rq ⟨ln,p,⟨m,tg,hm,hf,hl⟩,le,some ch,false,out⟩)] (.ret (.tup [])) [.abs (.rq ((rqF ⟨ln,p,⟨m,tg,hm,hf,hl⟩,le,some ch,false,out⟩ (UInt8.ofNat k.toNat))))]:=by
  obtain⟨⟨i,hi,hI0⟩,hk0,hk1⟩:=hneed
  obtain⟨g1,g2,g3,g4,g5,g6,g7,g8,g9,g10⟩:=hI0
  simp only at g1 g2 g3 g4 g5 g6 g7 g8 g9 g10
  have hfs:FsOk hf:=⟨by omega,fun f hm=>by have:=g6 f hm;omega⟩
  have hll:=Xi ln (UInt8.ofNat k.toNat)
  generalize hr:rqF ⟨ln,p,⟨m,tg,hm,hf,hl⟩,le,some ch,false,out⟩ (UInt8.ofNat k.toNat)=r
  refine spcG zi mixed Tryz.func22 (by kernel_rfl) { cfgQ with fz:=[45],keep:=some [0,1,4,5,6,7,8,9,13,62]} [qi,qh,YK,YJ,WV,WU,zW,zV,zZ,zY,yw,yu,yD,yC,xH,xG,Yf,Ye,qV,qU,Ya,Z9] (by kernel_rfl) ?_
  intro I X hI hX
  refine zh (let y8:=I.hid (α:=Str) (Go.Ab.Ln.b (Go.Ab.Ch.ln (Prod.fst (chF (Go.Ab.Ch.mk (Go.Ab.Ln.mk (Go.Ab.Ln.b (Go.Ab.Ch.ln ch)) (Go.Ab.Ln.cr (Go.Ab.Ch.ln ch)) (Go.Ab.Ln.code (Go.Ab.Ch.ln ch))) (Go.Ab.Ch.pos ch) (Go.Ab.Ch.left ch) (Go.Ab.Ch.all ch) (Go.Ab.Ch.tails ch) (Go.Ab.Ch.code ch)) (UInt8.ofNat (Int.toNat k))))));let y7:=I.hid (α:=Bool) (Go.Ab.Ln.cr (Go.Ab.Ch.ln (Prod.fst (chF (Go.Ab.Ch.mk (Go.Ab.Ln.mk (Go.Ab.Ln.b (Go.Ab.Ch.ln ch)) (Go.Ab.Ln.cr (Go.Ab.Ch.ln ch)) (Go.Ab.Ln.code (Go.Ab.Ch.ln ch))) (Go.Ab.Ch.pos ch) (Go.Ab.Ch.left ch) (Go.Ab.Ch.all ch) (Go.Ab.Ch.tails ch) (Go.Ab.Ch.code ch)) (UInt8.ofNat (Int.toNat k))))));let y6:=I.hid (α:=Int) (Go.Ab.Ln.code (Go.Ab.Ch.ln (Prod.fst (chF (Go.Ab.Ch.mk (Go.Ab.Ln.mk (Go.Ab.Ln.b (Go.Ab.Ch.ln ch)) (Go.Ab.Ln.cr (Go.Ab.Ch.ln ch)) (Go.Ab.Ln.code (Go.Ab.Ch.ln ch))) (Go.Ab.Ch.pos ch) (Go.Ab.Ch.left ch) (Go.Ab.Ch.all ch) (Go.Ab.Ch.tails ch) (Go.Ab.Ch.code ch)) (UInt8.ofNat (Int.toNat k))))));let y12:=I.hid (α:=Int) (Go.Ab.Ch.pos (Prod.fst (chF (Go.Ab.Ch.mk (Go.Ab.Ln.mk (Go.Ab.Ln.b (Go.Ab.Ch.ln ch)) (Go.Ab.Ln.cr (Go.Ab.Ch.ln ch)) (Go.Ab.Ln.code (Go.Ab.Ch.ln ch))) (Go.Ab.Ch.pos ch) (Go.Ab.Ch.left ch) (Go.Ab.Ch.all ch) (Go.Ab.Ch.tails ch) (Go.Ab.Ch.code ch)) (UInt8.ofNat (Int.toNat k)))));let y10:=I.hid (α:=Int) (Go.Ab.Ch.left (Prod.fst (chF (Go.Ab.Ch.mk (Go.Ab.Ln.mk (Go.Ab.Ln.b (Go.Ab.Ch.ln ch)) (Go.Ab.Ln.cr (Go.Ab.Ch.ln ch)) (Go.Ab.Ln.code (Go.Ab.Ch.ln ch))) (Go.Ab.Ch.pos ch) (Go.Ab.Ch.left ch) (Go.Ab.Ch.all ch) (Go.Ab.Ch.tails ch) (Go.Ab.Ch.code ch)) (UInt8.ofNat (Int.toNat k)))));let y13:=I.hid (α:=Int) (Go.Ab.Ch.all (Prod.fst (chF (Go.Ab.Ch.mk (Go.Ab.Ln.mk (Go.Ab.Ln.b (Go.Ab.Ch.ln ch)) (Go.Ab.Ln.cr (Go.Ab.Ch.ln ch)) (Go.Ab.Ln.code (Go.Ab.Ch.ln ch))) (Go.Ab.Ch.pos ch) (Go.Ab.Ch.left ch) (Go.Ab.Ch.all ch) (Go.Ab.Ch.tails ch) (Go.Ab.Ch.code ch)) (UInt8.ofNat (Int.toNat k)))));let y9:=I.hid (α:=Int) (Go.Ab.Ch.tails (Prod.fst (chF (Go.Ab.Ch.mk (Go.Ab.Ln.mk (Go.Ab.Ln.b (Go.Ab.Ch.ln ch)) (Go.Ab.Ln.cr (Go.Ab.Ch.ln ch)) (Go.Ab.Ln.code (Go.Ab.Ch.ln ch))) (Go.Ab.Ch.pos ch) (Go.Ab.Ch.left ch) (Go.Ab.Ch.all ch) (Go.Ab.Ch.tails ch) (Go.Ab.Ch.code ch)) (UInt8.ofNat (Int.toNat k)))));let y11:=I.hid (α:=Int) (Go.Ab.Ch.code (Prod.fst (chF (Go.Ab.Ch.mk (Go.Ab.Ln.mk (Go.Ab.Ln.b (Go.Ab.Ch.ln ch)) (Go.Ab.Ln.cr (Go.Ab.Ch.ln ch)) (Go.Ab.Ln.code (Go.Ab.Ch.ln ch))) (Go.Ab.Ch.pos ch) (Go.Ab.Ch.left ch) (Go.Ab.Ch.all ch) (Go.Ab.Ch.tails ch) (Go.Ab.Ch.code ch)) (UInt8.ofNat (Int.toNat k)))));let y0:=I.hid (α:=(Prop)) (zC (Go.Ab.Rq.mk (Go.Ab.Ln.mk (Go.Ab.Ln.b ln) (Go.Ab.Ln.cr ln) (Go.Ab.Ln.code ln)) p (Hd.mk m tg hm hf hl) le (Option.some (Go.Ab.Ch.mk (Go.Ab.Ln.mk y8 y7 y6) y12 y10 y13 y9 y11)) Bool.false out));let y19:=I.hid (α:=Str) (Go.Ab.Ln.b (Prod.fst (lnF (Go.Ab.Ln.mk (Go.Ab.Ln.b ln) (Go.Ab.Ln.cr ln) (Go.Ab.Ln.code ln)) (UInt8.ofNat (Int.toNat k)))));let y18:=I.hid (α:=Bool) (Go.Ab.Ln.cr (Prod.fst (lnF (Go.Ab.Ln.mk (Go.Ab.Ln.b ln) (Go.Ab.Ln.cr ln) (Go.Ab.Ln.code ln)) (UInt8.ofNat (Int.toNat k)))));let y17:=I.hid (α:=Int) (Go.Ab.Ln.code (Prod.fst (lnF (Go.Ab.Ln.mk (Go.Ab.Ln.b ln) (Go.Ab.Ln.cr ln) (Go.Ab.Ln.code ln)) (UInt8.ofNat (Int.toNat k)))));let y1:=I.hid (α:=Go.Ab.Rq) (Prod.fst (zI (Go.Ab.Rq.mk (Go.Ab.Ln.mk y19 y18 y17) p (Hd.mk m tg hm hf hl) le (Option.some (Go.Ab.Ch.mk (Go.Ab.Ln.mk (Go.Ab.Ln.b (Go.Ab.Ch.ln ch)) (Go.Ab.Ln.cr (Go.Ab.Ch.ln ch)) (Go.Ab.Ln.code (Go.Ab.Ch.ln ch))) (Go.Ab.Ch.pos ch) (Go.Ab.Ch.left ch) (Go.Ab.Ch.all ch) (Go.Ab.Ch.tails ch) (Go.Ab.Ch.code ch))) Bool.false out) (I.hid (α:=Str) (Prod.fst (Prod.snd (lnF (Go.Ab.Ln.mk (Go.Ab.Ln.b ln) (Go.Ab.Ln.cr ln) (Go.Ab.Ln.code ln)) (UInt8.ofNat (Int.toNat k))))))));let y2:=I.hid (α:=Go.Ab.Rq) (yc (Go.Ab.Rq.mk (Go.Ab.Ln.mk y19 y18 y17) p (Hd.mk m tg hm hf hl) le (Option.some (Go.Ab.Ch.mk (Go.Ab.Ln.mk (Go.Ab.Ln.b (Go.Ab.Ch.ln ch)) (Go.Ab.Ln.cr (Go.Ab.Ch.ln ch)) (Go.Ab.Ln.code (Go.Ab.Ch.ln ch))) (Go.Ab.Ch.pos ch) (Go.Ab.Ch.left ch) (Go.Ab.Ch.all ch) (Go.Ab.Ch.tails ch) (Go.Ab.Ch.code ch))) Bool.false out) (I.hid (α:=Int) (Prod.snd (Prod.snd (Prod.snd (lnF (Go.Ab.Ln.mk (Go.Ab.Ln.b ln) (Go.Ab.Ln.cr ln) (Go.Ab.Ln.code ln)) (UInt8.ofNat (Int.toNat k))))))));let y3:=I.hid (α:=Int) (Prod.snd (zI (Go.Ab.Rq.mk (Go.Ab.Ln.mk y19 y18 y17) p (Hd.mk m tg hm hf hl) le (Option.some (Go.Ab.Ch.mk (Go.Ab.Ln.mk (Go.Ab.Ln.b (Go.Ab.Ch.ln ch)) (Go.Ab.Ln.cr (Go.Ab.Ch.ln ch)) (Go.Ab.Ln.code (Go.Ab.Ch.ln ch))) (Go.Ab.Ch.pos ch) (Go.Ab.Ch.left ch) (Go.Ab.Ch.all ch) (Go.Ab.Ch.tails ch) (Go.Ab.Ch.code ch))) Bool.false out) (I.hid (α:=Str) (Prod.fst (Prod.snd (lnF (Go.Ab.Ln.mk (Go.Ab.Ln.b ln) (Go.Ab.Ln.cr ln) (Go.Ab.Ln.code ln)) (UInt8.ofNat (Int.toNat k))))))));let y4:=I.hid (α:=(Prop)) (zC (Go.Ab.Rq.mk (Go.Ab.Ln.mk y19 y18 y17) p (Hd.mk m tg hm hf hl) le (Option.some (Go.Ab.Ch.mk (Go.Ab.Ln.mk (Go.Ab.Ln.b (Go.Ab.Ch.ln ch)) (Go.Ab.Ln.cr (Go.Ab.Ch.ln ch)) (Go.Ab.Ln.code (Go.Ab.Ch.ln ch))) (Go.Ab.Ch.pos ch) (Go.Ab.Ch.left ch) (Go.Ab.Ch.all ch) (Go.Ab.Ch.tails ch) (Go.Ab.Ch.code ch))) Bool.false out));let y5:=I.hid (α:=(Prop)) (And (xk (Go.Ab.Rq.mk (Go.Ab.Ln.mk y19 y18 y17) p (Hd.mk m tg hm hf hl) le (Option.some (Go.Ab.Ch.mk (Go.Ab.Ln.mk (Go.Ab.Ln.b (Go.Ab.Ch.ln ch)) (Go.Ab.Ln.cr (Go.Ab.Ch.ln ch)) (Go.Ab.Ln.code (Go.Ab.Ch.ln ch))) (Go.Ab.Ch.pos ch) (Go.Ab.Ch.left ch) (Go.Ab.Ch.all ch) (Go.Ab.Ch.tails ch) (Go.Ab.Ch.code ch))) Bool.false out)) (And (rqFs (Go.Ab.Rq.mk (Go.Ab.Ln.mk y19 y18 y17) p (Hd.mk m tg hm hf hl) le (Option.some (Go.Ab.Ch.mk (Go.Ab.Ln.mk (Go.Ab.Ln.b (Go.Ab.Ch.ln ch)) (Go.Ab.Ln.cr (Go.Ab.Ch.ln ch)) (Go.Ab.Ln.code (Go.Ab.Ch.ln ch))) (Go.Ab.Ch.pos ch) (Go.Ab.Ch.left ch) (Go.Ab.Ch.all ch) (Go.Ab.Ch.tails ch) (Go.Ab.Ch.code ch))) Bool.false out)) (LE.le (List.length (I.hid (α:=Str) (Prod.fst (Prod.snd (lnF (Go.Ab.Ln.mk (Go.Ab.Ln.b ln) (Go.Ab.Ln.cr ln) (Go.Ab.Ln.code ln)) (UInt8.ofNat (Int.toNat k))))))) 1000000)));let y14:=I.hid (α:=(List Go.Ab.Evt)) (HAppend.hAppend out ([(Go.Ab.Evt.mk (2:Int) (Hd.mk ([]:Str) ([]:Str) (0:Int) ([]:List Fld) (0:Int)) (I.hid (α:=Str) (Prod.fst (Prod.snd (chF (Go.Ab.Ch.mk (Go.Ab.Ln.mk (Go.Ab.Ln.b (Go.Ab.Ch.ln ch)) (Go.Ab.Ln.cr (Go.Ab.Ch.ln ch)) (Go.Ab.Ln.code (Go.Ab.Ch.ln ch))) (Go.Ab.Ch.pos ch) (Go.Ab.Ch.left ch) (Go.Ab.Ch.all ch) (Go.Ab.Ch.tails ch) (Go.Ab.Ch.code ch)) (UInt8.ofNat (Int.toNat k)))))) (Go.Ab.Prt.mk ([]:Str) ([]:Str) ([]:Str) ([]:Str)) (0:Int))]:List Go.Ab.Evt));let y15:=I.ieq (I.hid (α:=Int) (Prod.snd (Prod.snd (Prod.snd (lnF (Go.Ab.Ln.mk (Go.Ab.Ln.b ln) (Go.Ab.Ln.cr ln) (Go.Ab.Ln.code ln)) (UInt8.ofNat (Int.toNat k))))))) 0;let y16:=I.hid (α:=(List Go.Ab.Evt)) (HAppend.hAppend out ([(Go.Ab.Evt.mk (2:Int) (Hd.mk ([]:Str) ([]:Str) (0:Int) ([]:List Fld) (0:Int)) ([(I.i2b k)]:Str) (Go.Ab.Prt.mk ([]:Str) ([]:Str) ([]:Str) ([]:Str)) (0:Int))]:List Go.Ab.Evt));let y20:=I.hid (α:=Bool) (Prod.fst (Prod.snd (Prod.snd (chF (Go.Ab.Ch.mk (Go.Ab.Ln.mk (Go.Ab.Ln.b (Go.Ab.Ch.ln ch)) (Go.Ab.Ln.cr (Go.Ab.Ch.ln ch)) (Go.Ab.Ln.code (Go.Ab.Ch.ln ch))) (Go.Ab.Ch.pos ch) (Go.Ab.Ch.left ch) (Go.Ab.Ch.all ch) (Go.Ab.Ch.tails ch) (Go.Ab.Ch.code ch)) (UInt8.ofNat (Int.toNat k))))));let y21:=I.hid (α:=Int) (Prod.snd (Prod.snd (Prod.snd (chF (Go.Ab.Ch.mk (Go.Ab.Ln.mk (Go.Ab.Ln.b (Go.Ab.Ch.ln ch)) (Go.Ab.Ln.cr (Go.Ab.Ch.ln ch)) (Go.Ab.Ln.code (Go.Ab.Ch.ln ch))) (Go.Ab.Ch.pos ch) (Go.Ab.Ch.left ch) (Go.Ab.Ch.all ch) (Go.Ab.Ch.tails ch) (Go.Ab.Ch.code ch)) (UInt8.ofNat (Int.toNat k))))));let y22:=I.hid (α:=Bool) (Prod.fst (Prod.snd (Prod.snd (lnF (Go.Ab.Ln.mk (Go.Ab.Ln.b ln) (Go.Ab.Ln.cr ln) (Go.Ab.Ln.code ln)) (UInt8.ofNat (Int.toNat k))))));let y23:=I.hid (α:=(Prop)) (And (LE.le (0:Int) k) (And (LE.le k (255:Int)) (LE.le (List.length (Go.Ab.Ln.b ln)) 1000000)));let y24:=I.hid (α:=Go.Ab.Rq) (yc y1 y3);.br (I.ieq p 2) (.need (I.inr Go.IntKind.u8 k) (.need (I.hid (α:=(Prop)) (zC (Go.Ab.Rq.mk (Go.Ab.Ln.mk (Go.Ab.Ln.b ln) (Go.Ab.Ln.cr ln) (Go.Ab.Ln.code ln)) p (Hd.mk m tg hm hf hl) le (Option.some (Go.Ab.Ch.mk (Go.Ab.Ln.mk (Go.Ab.Ln.b (Go.Ab.Ch.ln ch)) (Go.Ab.Ln.cr (Go.Ab.Ch.ln ch)) (Go.Ab.Ln.code (Go.Ab.Ch.ln ch))) (Go.Ab.Ch.pos ch) (Go.Ab.Ch.left ch) (Go.Ab.Ch.all ch) (Go.Ab.Ch.tails ch) (Go.Ab.Ch.code ch))) Bool.false out))) (.need (I.inr Go.IntKind.i64 (I.sub le 1)) (.br (I.ieq (I.sub le 1) 0) (.need (I.hid (α:=(Prop)) (zC (Go.Ab.Rq.mk (Go.Ab.Ln.mk (Go.Ab.Ln.b ln) (Go.Ab.Ln.cr ln) (Go.Ab.Ln.code ln)) p (Hd.mk m tg hm hf hl) (I.sub le 1) (Option.some (Go.Ab.Ch.mk (Go.Ab.Ln.mk (Go.Ab.Ln.b (Go.Ab.Ch.ln ch)) (Go.Ab.Ln.cr (Go.Ab.Ch.ln ch)) (Go.Ab.Ln.code (Go.Ab.Ch.ln ch))) (Go.Ab.Ch.pos ch) (Go.Ab.Ch.left ch) (Go.Ab.Ch.all ch) (Go.Ab.Ch.tails ch) (Go.Ab.Ch.code ch))) Bool.false y16))) (.fin (.ret (.tup [])) [(.abs (.rq (I.hid (α:=Go.Ab.Rq) (yU (Go.Ab.Rq.mk (Go.Ab.Ln.mk (Go.Ab.Ln.b ln) (Go.Ab.Ln.cr ln) (Go.Ab.Ln.code ln)) p (Hd.mk m tg hm hf hl) (I.sub le 1) (Option.some (Go.Ab.Ch.mk (Go.Ab.Ln.mk (Go.Ab.Ln.b (Go.Ab.Ch.ln ch)) (Go.Ab.Ln.cr (Go.Ab.Ch.ln ch)) (Go.Ab.Ln.code (Go.Ab.Ch.ln ch))) (Go.Ab.Ch.pos ch) (Go.Ab.Ch.left ch) (Go.Ab.Ch.all ch) (Go.Ab.Ch.tails ch) (Go.Ab.Ch.code ch))) Bool.false y16)))))])) (.fin (.ret (.tup [])) [(.abs (.rq (Go.Ab.Rq.mk (Go.Ab.Ln.mk (Go.Ab.Ln.b ln) (Go.Ab.Ln.cr ln) (Go.Ab.Ln.code ln)) p (Hd.mk m tg hm hf hl) (I.sub le 1) (Option.some (Go.Ab.Ch.mk (Go.Ab.Ln.mk (Go.Ab.Ln.b (Go.Ab.Ch.ln ch)) (Go.Ab.Ln.cr (Go.Ab.Ch.ln ch)) (Go.Ab.Ln.code (Go.Ab.Ch.ln ch))) (Go.Ab.Ch.pos ch) (Go.Ab.Ch.left ch) (Go.Ab.Ch.all ch) (Go.Ab.Ch.tails ch) (Go.Ab.Ch.code ch))) Bool.false y16)))]))))) (.br (I.ieq p 3) (.need (I.hid (α:=(Prop)) (And (And (LE.le (0:Int) k) (LE.le k (255:Int))) (And (LE.le (List.length (Go.Ab.Ln.b (Go.Ab.Ch.ln ch))) 1000000) (And (And (LE.le (Neg.neg (1000000:Int)) (Go.Ab.Ch.left ch)) (LE.le (Go.Ab.Ch.left ch) (100000000:Int))) (And (And (LE.le (0:Int) (Go.Ab.Ch.all ch)) (LE.le (Go.Ab.Ch.all ch) (1000000:Int))) (And (LE.le (0:Int) (Go.Ab.Ch.tails ch)) (LE.le (Go.Ab.Ch.tails ch) (1000000:Int)))))))) (.br (I.bnot (I.ieq y21 0)) (.need y0 (.fin (.ret (.tup [])) [(.abs (.rq (I.hid (α:=Go.Ab.Rq) (yc (Go.Ab.Rq.mk (Go.Ab.Ln.mk (Go.Ab.Ln.b ln) (Go.Ab.Ln.cr ln) (Go.Ab.Ln.code ln)) p (Hd.mk m tg hm hf hl) le (Option.some (Go.Ab.Ch.mk (Go.Ab.Ln.mk y8 y7 y6) y12 y10 y13 y9 y11)) Bool.false out) y21))))])) (.br (I.ilt 0 (I.len (α:=UInt8) (I.hid (α:=Str) (Prod.fst (Prod.snd (chF (Go.Ab.Ch.mk (Go.Ab.Ln.mk (Go.Ab.Ln.b (Go.Ab.Ch.ln ch)) (Go.Ab.Ln.cr (Go.Ab.Ch.ln ch)) (Go.Ab.Ln.code (Go.Ab.Ch.ln ch))) (Go.Ab.Ch.pos ch) (Go.Ab.Ch.left ch) (Go.Ab.Ch.all ch) (Go.Ab.Ch.tails ch) (Go.Ab.Ch.code ch)) (UInt8.ofNat (Int.toNat k)))))))) (.need y0 (.br y20 (.need (I.hid (α:=(Prop)) (zC (Go.Ab.Rq.mk (Go.Ab.Ln.mk (Go.Ab.Ln.b ln) (Go.Ab.Ln.cr ln) (Go.Ab.Ln.code ln)) p (Hd.mk m tg hm hf hl) le (Option.some (Go.Ab.Ch.mk (Go.Ab.Ln.mk y8 y7 y6) y12 y10 y13 y9 y11)) Bool.false y14))) (.fin (.ret (.tup [])) [(.abs (.rq (I.hid (α:=Go.Ab.Rq) (yU (Go.Ab.Rq.mk (Go.Ab.Ln.mk (Go.Ab.Ln.b ln) (Go.Ab.Ln.cr ln) (Go.Ab.Ln.code ln)) p (Hd.mk m tg hm hf hl) le (Option.some (Go.Ab.Ch.mk (Go.Ab.Ln.mk y8 y7 y6) y12 y10 y13 y9 y11)) Bool.false y14)))))])) (.fin (.ret (.tup [])) [(.abs (.rq (Go.Ab.Rq.mk (Go.Ab.Ln.mk (Go.Ab.Ln.b ln) (Go.Ab.Ln.cr ln) (Go.Ab.Ln.code ln)) p (Hd.mk m tg hm hf hl) le (Option.some (Go.Ab.Ch.mk (Go.Ab.Ln.mk y8 y7 y6) y12 y10 y13 y9 y11)) Bool.false y14)))]))) (.br y20 (.need y0 (.fin (.ret (.tup [])) [(.abs (.rq (I.hid (α:=Go.Ab.Rq) (yU (Go.Ab.Rq.mk (Go.Ab.Ln.mk (Go.Ab.Ln.b ln) (Go.Ab.Ln.cr ln) (Go.Ab.Ln.code ln)) p (Hd.mk m tg hm hf hl) le (Option.some (Go.Ab.Ch.mk (Go.Ab.Ln.mk y8 y7 y6) y12 y10 y13 y9 y11)) Bool.false out)))))])) (.fin (.ret (.tup [])) [(.abs (.rq (Go.Ab.Rq.mk (Go.Ab.Ln.mk (Go.Ab.Ln.b ln) (Go.Ab.Ln.cr ln) (Go.Ab.Ln.code ln)) p (Hd.mk m tg hm hf hl) le (Option.some (Go.Ab.Ch.mk (Go.Ab.Ln.mk y8 y7 y6) y12 y10 y13 y9 y11)) Bool.false out)))]))))) (.br (I.ieq p 0) (.need y23 (.br y15 (.br y22 (.need y5 (.br (I.bnot (I.ieq y3 0)) (.need (I.hid (α:=(Prop)) (zC y1)) (.fin (.ret (.tup [])) [(.abs (.rq y24))])) (.fin (.ret (.tup [])) [(.abs (.rq y1))]))) (.br (I.bnot y15) (.need y4 (.fin (.ret (.tup [])) [(.abs (.rq y2))])) (.fin (.ret (.tup [])) [(.abs (.rq (Go.Ab.Rq.mk (Go.Ab.Ln.mk y19 y18 y17) p (Hd.mk m tg hm hf hl) le (Option.some (Go.Ab.Ch.mk (Go.Ab.Ln.mk (Go.Ab.Ln.b (Go.Ab.Ch.ln ch)) (Go.Ab.Ln.cr (Go.Ab.Ch.ln ch)) (Go.Ab.Ln.code (Go.Ab.Ch.ln ch))) (Go.Ab.Ch.pos ch) (Go.Ab.Ch.left ch) (Go.Ab.Ch.all ch) (Go.Ab.Ch.tails ch) (Go.Ab.Ch.code ch))) Bool.false out)))]))) (.br (I.bnot y15) (.need y4 (.fin (.ret (.tup [])) [(.abs (.rq y2))])) (.fin (.ret (.tup [])) [(.abs (.rq (Go.Ab.Rq.mk (Go.Ab.Ln.mk y19 y18 y17) p (Hd.mk m tg hm hf hl) le (Option.some (Go.Ab.Ch.mk (Go.Ab.Ln.mk (Go.Ab.Ln.b (Go.Ab.Ch.ln ch)) (Go.Ab.Ln.cr (Go.Ab.Ch.ln ch)) (Go.Ab.Ln.code (Go.Ab.Ch.ln ch))) (Go.Ab.Ch.pos ch) (Go.Ab.Ch.left ch) (Go.Ab.Ch.all ch) (Go.Ab.Ch.tails ch) (Go.Ab.Ch.code ch))) Bool.false out)))])))) (.br (I.ieq p 1) (.need y23 (.br y15 (.br y22 (.need y5 (.br (I.bnot (I.ieq y3 0)) (.need (I.hid (α:=(Prop)) (zC y1)) (.fin (.ret (.tup [])) [(.abs (.rq y24))])) (.fin (.ret (.tup [])) [(.abs (.rq y1))]))) (.br (I.bnot y15) (.need y4 (.fin (.ret (.tup [])) [(.abs (.rq y2))])) (.fin (.ret (.tup [])) [(.abs (.rq (Go.Ab.Rq.mk (Go.Ab.Ln.mk y19 y18 y17) p (Hd.mk m tg hm hf hl) le (Option.some (Go.Ab.Ch.mk (Go.Ab.Ln.mk (Go.Ab.Ln.b (Go.Ab.Ch.ln ch)) (Go.Ab.Ln.cr (Go.Ab.Ch.ln ch)) (Go.Ab.Ln.code (Go.Ab.Ch.ln ch))) (Go.Ab.Ch.pos ch) (Go.Ab.Ch.left ch) (Go.Ab.Ch.all ch) (Go.Ab.Ch.tails ch) (Go.Ab.Ch.code ch))) Bool.false out)))]))) (.br (I.bnot y15) (.need y4 (.fin (.ret (.tup [])) [(.abs (.rq y2))])) (.fin (.ret (.tup [])) [(.abs (.rq (Go.Ab.Rq.mk (Go.Ab.Ln.mk y19 y18 y17) p (Hd.mk m tg hm hf hl) le (Option.some (Go.Ab.Ch.mk (Go.Ab.Ln.mk (Go.Ab.Ln.b (Go.Ab.Ch.ln ch)) (Go.Ab.Ln.cr (Go.Ab.Ch.ln ch)) (Go.Ab.Ln.code (Go.Ab.Ch.ln ch))) (Go.Ab.Ch.pos ch) (Go.Ab.Ch.left ch) (Go.Ab.Ch.all ch) (Go.Ab.Ch.tails ch) (Go.Ab.Ch.code ch))) Bool.false out)))])))) (.fin (.ret (.tup [])) [(.abs (.rq (Go.Ab.Rq.mk (Go.Ab.Ln.mk (Go.Ab.Ln.b ln) (Go.Ab.Ln.cr ln) (Go.Ab.Ln.code ln)) p (Hd.mk m tg hm hf hl) le (Option.some (Go.Ab.Ch.mk (Go.Ab.Ln.mk (Go.Ab.Ln.b (Go.Ab.Ch.ln ch)) (Go.Ab.Ln.cr (Go.Ab.Ch.ln ch)) (Go.Ab.Ln.code (Go.Ab.Ch.ln ch))) (Go.Ab.Ch.pos ch) (Go.Ab.Ch.left ch) (Go.Ab.Ch.all ch) (Go.Ab.Ch.tails ch) (Go.Ab.Ch.code ch))) Bool.false out)))]))))) (by kernel_rfl) ?_
  simp only [zy]
  subst hI
  unfold rqF at hr
  simp only at hr
  simp only [nrmA,nrmB,nrlB,reduceCtorEq,HO.abs.injEq,Gh.rq.injEq,Rq.mk.injEq]
  generalize UInt8.ofNat k.toNat=c at *
  have hni:=zd0 (g2 ch rfl) hi
  have hz:chF ⟨⟨ch.ln.b,ch.ln.cr,ch.ln.code⟩,ch.pos,ch.left,ch.all,ch.tails,ch.code⟩ c=chF ch c:=rfl
  have hck:ckOf ⟨ln,p,⟨m,tg,hm,hf,hl⟩,le,some ch,false,out⟩=ch:=rfl
  simp only [hz]
  rw [hck] at hr
  clear hz hck
  have hz2:lnF ⟨ln.b,ln.cr,ln.code⟩ c=lnF ln c:=rfl
  simp only [hz2]
  clear hz2 g2
  by_cases q1:p=2
  · rw [if_pos q1] at hr
    have h9:=g9 q1
    by_cases q2:le - 1=0
    · rw [if_pos q2] at hr
      subst hr
      have q3:le=1:=by omega
      subst q3
      (repeat' (first|refine And.intro ?_ ?_|intro _))<;>first|omega|exact True.intro|exact False.elim ‹False›|skip
      all_goals first|omega|rfl|(unfold zC;simp;omega)|(unfold zC;simp only;omega)|trace_state
    · rw [if_neg q2] at hr
      subst hr
      (repeat' (first|refine And.intro ?_ ?_|intro _))<;>first|omega|exact True.intro|exact False.elim ‹False›|skip
      all_goals first|omega|rfl|(unfold zC;simp;omega)|(unfold zC;simp only;omega)|trace_state
  rw [if_neg q1] at hr
  by_cases q4:p=3
  · rw [if_pos q4] at hr
    generalize chF ch c=z at *
    obtain⟨⟨⟨zb,zc,zo⟩,z1,z2,z3,z4,z5⟩,d,ov,e⟩:=z
    simp only at hr ⊢
    have hd0:d.length=0↔d=[]:=List.length_eq_zero_iff
    by_cases q5:e=0
    · rw [if_neg (fun h=>h q5)] at hr
      cases ov with
      | true=>
        rw [if_pos rfl] at hr
        by_cases q6:d=[]
        · rw [if_neg (fun h=>h q6)] at hr
          have q7:=hd0.2 q6
          subst hr
          (repeat' (first|refine And.intro ?_ ?_|intro _))<;>first|omega|exact True.intro|exact False.elim ‹False›|skip
          all_goals first|omega|rfl|(unfold zC;simp;omega)|(unfold zC;simp only;omega)|contradiction|exact⟨⟨hk0,hk1⟩,hni⟩|trace_state
        · rw [if_pos q6] at hr
          have q7: ¬ d.length=0:=fun h=>q6 (hd0.1 h)
          subst hr
          (repeat' (first|refine And.intro ?_ ?_|intro _))<;>first|omega|exact True.intro|exact False.elim ‹False›|skip
          all_goals first|omega|rfl|(unfold zC;simp;omega)|(unfold zC;simp only;omega)|contradiction|exact⟨⟨hk0,hk1⟩,hni⟩|trace_state
      | false=>
        rw [if_neg Bool.false_ne_true] at hr
        by_cases q6:d=[]
        · rw [if_neg (fun h=>h q6)] at hr
          have q7:=hd0.2 q6
          subst hr
          (repeat' (first|refine And.intro ?_ ?_|intro _))<;>first|omega|exact True.intro|exact False.elim ‹False›|skip
          all_goals first|omega|rfl|(unfold zC;simp;omega)|(unfold zC;simp only;omega)|contradiction|exact⟨⟨hk0,hk1⟩,hni⟩|trace_state
        · rw [if_pos q6] at hr
          have q7: ¬ d.length=0:=fun h=>q6 (hd0.1 h)
          subst hr
          (repeat' (first|refine And.intro ?_ ?_|intro _))<;>first|omega|exact True.intro|exact False.elim ‹False›|skip
          all_goals first|omega|rfl|(unfold zC;simp;omega)|(unfold zC;simp only;omega)|contradiction|exact⟨⟨hk0,hk1⟩,hni⟩|trace_state
    · rw [if_pos q5] at hr
      subst hr
      (repeat' (first|refine And.intro ?_ ?_|intro _))<;>first|omega|exact True.intro|exact False.elim ‹False›|skip
      all_goals first|omega|rfl|(unfold zC;simp;omega)|(unfold zC;simp only;omega)|contradiction|exact⟨⟨hk0,hk1⟩,hni⟩|trace_state
  rw [if_neg q4] at hr
  by_cases q8:p=0∨p=1
  · exact absurd (g4 q8) (by simp)
  rw [if_neg q8] at hr
  subst hr
  (repeat' (first|refine And.intro ?_ ?_|intro _))<;>first|omega|exact True.intro|exact False.elim ‹False›|skip
  all_goals first|omega|rfl|contradiction|trace_state
theorem zjw (q:Rq) (k:Int) (hneed:rqN q∧0≤k∧k≤255):Spc Tryz.prog 22 [.v (.one (.ptr 0 0)),.v (.one (.p (.int .u8 k)))] [.abs (.rq q)] (.ret (.tup [])) [.abs (.rq ((rqF q (UInt8.ofNat k.toNat))))]:=by
  obtain⟨ln,p,⟨m,tg,hm,hf,hl⟩,le,ck,own,out⟩:=q
  cases ck with
  | none=>cases own with
    |true=>exact zfN ln p m tg hm hf hl le out k hneed
    |false=>exact zfO ln p m tg hm hf hl le out k hneed
  | some ch=>cases own with
    |true=>exact zfL ln p m tg hm hf hl le ch out k hneed
    |false=>exact zfM ln p m tg hm hf hl le ch out k hneed
def Yj (I:Alg) (args:List D) (hp:List HO):Option CT:=match args,hp with
  |[.v (.one (.ptr 0 0)),.v (.one (.p (.int .u8 k)))],[.abs (.rq q)]=>(fun(q:Rq) (k:Int)=>(some (.one ⟨I.hid (rqN q∧0≤k∧k≤255),(.ret (.tup [])),[.abs (.rq (I.hid ((rqF q (UInt8.ofNat k.toNat)))))]⟩):Option CT)) q k
  |_,_=>none
theorem zan:zD Tryz.prog 22 (Yj alg):=by
  intro args hp r h
  unfold Yj at h
  split at h
  · cases h;exact fun hn=>zjw _ _ hn
  · cases h
def wK:Know Tryz.prog:=⟨22,Yj,zan⟩
def wJ:Know Tryz.prog:=⟨22,fun I=>zH I (Yj I),zf zan⟩
end Go.Proofs.YtmibhbdfigpkmaaGreatDoor
namespace Go.Proofs.YtmibhbdfigpkmaaGreatDoor
open Go Go.Sep Go.Ab
set_option maxRecDepth 100000
def zN (l:List Evt):Nat:=(l.map fun e=>e.bytes.length).sum
theorem yO (a b:List Evt):zN (a++b)=zN a+zN b:=by simp [zN]
theorem yT (e:Evt):zN [e]=e.bytes.length:=by simp [zN]
theorem zgw (o:List Evt) (e:Evt):zN (vT o e)≤zN o+e.bytes.length:=by
  rcases List.eq_nil_or_concat o with rfl|⟨z,x,rfl⟩
  · rw [tJ,yT];omega
  · rw [List.concat_eq_append,yR]
    split
    · rw [yO,yO,yT,yT];simp only [evB,List.length_append];omega
    · rw [yO _ [e],yT e];exact Nat.le_refl _
theorem Zf (l:List Evt) (e:Evt):zF (l++[e])=vT (zF l) e:=by simp [zF,List.foldl_append]
theorem V6 (l:List Evt):zN (zF l)≤zN l:=by
  suffices ∀ l o:List Evt,zN (l.foldl vT o)≤zN o+zN l by have:=this l [];simpa [zF,zN] using this
  intro l
  induction l with
  |nil=>intro o;simp [zN]
  | cons e r ih=>
    intro o
    have h1:=ih (vT o e)
    have h2:=zgw o e
    have h3:zN (e::r)=e.bytes.length+zN r:=by simp [zN]
    rw [List.foldl_cons];omega
theorem zgx (o:List Evt) (e:Evt):(vT o e).length≤o.length+1:=by
  rcases List.eq_nil_or_concat o with rfl|⟨z,x,rfl⟩
  · simp [tJ]
  · rw [List.concat_eq_append,yR]
    split<;>simp
theorem Xm (l:List Evt) (i:Nat):zN (l.take i)≤zN l:=by
  have:=yO (l.take i) (l.drop i)
  rw [List.take_append_drop] at this
  omega
theorem tK {l:List Evt} {e:Evt} (h:e ∈ l):e.bytes.length≤zN l:=by
  obtain⟨a,b,rfl⟩:=List.append_of_mem h
  have:=yO a (e::b)
  have h3:zN (e::b)=e.bytes.length+zN b:=by simp [zN]
  omega
theorem ql (l:List Evt):(zF l).length≤l.length:=by
  suffices ∀ l o:List Evt,(l.foldl vT o).length≤o.length+l.length by have:=this l [];simpa [zF] using this
  intro l
  induction l with
  |nil=>intro o;simp
  | cons e r ih=>
    intro o
    have h1:=ih (vT o e)
    have h2:=zgx o e
    rw [List.foldl_cons,List.length_cons];omega
theorem zjq (l:List Evt) (hneed:zN l≤1000000∧l.length≤10000000):Spc Tryz.prog 17 [.v (.one (.row 0))] [.row .evt 32 l] (.ret (.v (.one (.row 1)))) [.row .evt 32 l,.row .evt 32 ((zF l))]:=by
  obtain⟨hn1,hn2⟩:=hneed
  refine spcG zi mixed Tryz.func17 (by kernel_rfl) { nr:=[3],keep:=some [0,2,3,5,6,7,8,9,10]} [] (by kernel_rfl) ?_
  intro I X hI hX
  refine zh (.code 0 [1,1,0,1,0] ⟨[(10,(.v (.one (.p (.int .i64 0))))),(9,(.v (.one (.p (.int .i64 (I.len (α:=Go.Ab.Evt) l)))))),(8,(.v (.one (.row 0)))),(3,(.v (.one (.row 1)))),(2,(.v (.one .nilS))),(0,(.v (.one (.row 0))))],[(.row .evt 32 l),(.row .evt 32 ([]:List Go.Ab.Evt))],52,none⟩) (by kernel_rfl) ?_
  simp only [zy]
  refine zG hI zi mixed [] hX [0,3,8,9,10] (fun(g:Nat × List Evt)=>match g with|(i,o)=>i≤l.length∧o=zF (l.take i)) (fun(g:Nat × List Evt)=>match g with|(i,o)=>⟨[(0,.v (.one (.row 0))),(3,.v (.one (.row 1))),(8,.v (.one (.row 0))),(9,.v (.one (.p (.int .i64 ((I.len (α:=Evt) l)))))),(10,.v (.one (.p (.int .i64 i))))],[.row .evt 32 l,.row .evt 32 o],52,none⟩) (fun(g:Nat × List Evt)=>match g with|(i,o)=>l.length - i) (0,[]) (by kernel_rfl) (by kernel_rfl) ?_ ?_
  · exact⟨Nat.zero_le _,rfl⟩
  rintro⟨i,o⟩ ⟨h1,h2⟩ A hA
  simp only at hA h1 h2
  refine zh (let y0:=I.get (α:=Go.Ab.Evt) l (Go.Ab.Evt.mk (0:Int) (Hd.mk ([]:Str) ([]:Str) (0:Int) ([]:List Fld) (0:Int)) ([]:Str) (Go.Ab.Prt.mk ([]:Str) ([]:Str) ([]:Str) ([]:Str)) (0:Int)) (Nat.cast i);let y1:=I.few (I.add (I.len (α:=Go.Ab.Evt) o) (I.len (α:=Go.Ab.Evt) ([(Go.Ab.Evt.mk (Go.Ab.Evt.kind y0) (Hd.mk (Hd.method (Go.Ab.Evt.head y0)) (Hd.target (Go.Ab.Evt.head y0)) (Hd.minor (Go.Ab.Evt.head y0)) (Hd.fields (Go.Ab.Evt.head y0)) (Hd.length (Go.Ab.Evt.head y0))) (Go.Ab.Evt.bytes y0) (Go.Ab.Prt.mk (Go.Ab.Prt.name (Go.Ab.Evt.part y0)) (Go.Ab.Prt.file (Go.Ab.Evt.part y0)) (Go.Ab.Prt.type (Go.Ab.Evt.part y0)) (Go.Ab.Prt.bytes (Go.Ab.Evt.part y0))) (Go.Ab.Evt.code y0))]:List Go.Ab.Evt))) 100000000;let y2:HO:=.row .evt 32 (I.app (α:=Go.Ab.Evt) o ([(Go.Ab.Evt.mk (Go.Ab.Evt.kind y0) (Hd.mk (Hd.method (Go.Ab.Evt.head y0)) (Hd.target (Go.Ab.Evt.head y0)) (Hd.minor (Go.Ab.Evt.head y0)) (Hd.fields (Go.Ab.Evt.head y0)) (Hd.length (Go.Ab.Evt.head y0))) (Go.Ab.Evt.bytes y0) (Go.Ab.Prt.mk (Go.Ab.Prt.name (Go.Ab.Evt.part y0)) (Go.Ab.Prt.file (Go.Ab.Evt.part y0)) (Go.Ab.Prt.type (Go.Ab.Evt.part y0)) (Go.Ab.Prt.bytes (Go.Ab.Evt.part y0))) (Go.Ab.Evt.code y0))]:List Go.Ab.Evt));let y6:=I.sub (I.len (α:=Go.Ab.Evt) o) 1;let y3:=I.get (α:=Go.Ab.Evt) o (Go.Ab.Evt.mk (0:Int) (Hd.mk ([]:Str) ([]:Str) (0:Int) ([]:List Fld) (0:Int)) ([]:Str) (Go.Ab.Prt.mk ([]:Str) ([]:Str) ([]:Str) ([]:Str)) (0:Int)) y6;let y4:=I.inb y6 (I.len (α:=Go.Ab.Evt) o);let y5:=I.inr Go.IntKind.i64 (I.add (Nat.cast i) 1);let y7:=I.inb (Nat.cast i) (I.len (α:=Go.Ab.Evt) l);let y8:=I.len (α:=UInt8) (Go.Ab.Evt.bytes y3);.br (I.ilt (Nat.cast i) (I.len (α:=Go.Ab.Evt) l)) (.need y7 (.need y7 (.need (I.inr Go.IntKind.i64 y6) (.br (I.ieq (Go.Ab.Evt.kind y0) 2) (.br (I.ile 0 y6) (.need y4 (.need y4 (.br (I.ieq (Go.Ab.Evt.kind y3) 2) (.need y4 (.need y4 (.need (I.few y8 140737488355328) (.need (I.few (I.add y8 (I.len (α:=UInt8) (Go.Ab.Evt.bytes y0))) 140737488355328) (.need y4 (.need y4 (.need y5 (.need (A ⟨[(0,(.v (.one (.row 0)))),(3,(.v (.one (.row 1)))),(8,(.v (.one (.row 0)))),(9,(.v (.one (.p (.int .i64 (I.len (α:=Go.Ab.Evt) l)))))),(10,(.v (.one (.p (.int .i64 (I.add (Nat.cast i) 1))))))],[(.row .evt 32 l),(.row .evt 32 (I.set (α:=Go.Ab.Evt) o y6 (Go.Ab.Evt.mk (2:Int) (Hd.mk ([]:Str) ([]:Str) (0:Int) ([]:List Fld) (0:Int)) (I.app (α:=UInt8) (Go.Ab.Evt.bytes y3) (Go.Ab.Evt.bytes y0)) (Go.Ab.Prt.mk ([]:Str) ([]:Str) ([]:Str) ([]:Str)) (0:Int))))],52,none⟩) .qed)))))))) (.need y1 (.need y5 (.need (A ⟨[(0,(.v (.one (.row 0)))),(3,(.v (.one (.row 1)))),(8,(.v (.one (.row 0)))),(9,(.v (.one (.p (.int .i64 (I.len (α:=Go.Ab.Evt) l)))))),(10,(.v (.one (.p (.int .i64 (I.add (Nat.cast i) 1))))))],[(.row .evt 32 l),y2],52,none⟩) .qed)))))) (.need y1 (.need y5 (.need (A ⟨[(0,(.v (.one (.row 0)))),(3,(.v (.one (.row 1)))),(8,(.v (.one (.row 0)))),(9,(.v (.one (.p (.int .i64 (I.len (α:=Go.Ab.Evt) l)))))),(10,(.v (.one (.p (.int .i64 (I.add (Nat.cast i) 1))))))],[(.row .evt 32 l),y2],52,none⟩) .qed)))) (.need y1 (.need y5 (.need (A ⟨[(0,(.v (.one (.row 0)))),(3,(.v (.one (.row 1)))),(8,(.v (.one (.row 0)))),(9,(.v (.one (.p (.int .i64 (I.len (α:=Go.Ab.Evt) l)))))),(10,(.v (.one (.p (.int .i64 (I.add (Nat.cast i) 1))))))],[(.row .evt 32 l),y2],52,none⟩) .qed))))))) (.fin (.ret (.v (.one (.row 1)))) [(.row .evt 32 l),(.row .evt 32 o)])) (by kernel_rfl) ?_
  simp only [zy]
  subst hI
  simp only [nrmA,nrmB,nrlB,reduceCtorEq]
  have hl1:=ql (l.take i)
  have hl2:(l.take i).length≤i:=by rw [List.length_take];omega
  have hl3:=V6 (l.take i)
  have hl4: ∀ x ∈ zF (l.take i),x.bytes.length≤1000000:=fun x h=>by
    have a:=tK h
    have b:=Xm l i
    omega
  have hw: ¬ i<l.length→o=zF l:=fun h=>by rw [h2,List.take_of_length_le (by omega)]
  have hy:i<l.length→zF (l.take (i+1))=vT o (l.getD i ⟨0,⟨[],[],0,[],0⟩,[],⟨[],[],[],[]⟩,0⟩):=fun h=>by rw [List.take_succ_eq_append_getElem h,Zf,h2];simp [h]
  have hl5:i<l.length→(l.getD i ⟨0,⟨[],[],0,[],0⟩,[],⟨[],[],[],[]⟩,0⟩).bytes.length≤1000000:=fun h=>by
    have:l.getD i ⟨0,⟨[],[],0,[],0⟩,[],⟨[],[],[],[]⟩,0⟩ ∈ l:=by simp [h]
    have:=tK this
    omega
  rw [← h2] at hl1 hl4
  refine⟨fun c=> ?_,fun c=>hw (by omega)⟩
  have hlt:i<l.length:=by omega
  have hy:=hy hlt
  have hl5:=hl5 hlt
  generalize l.getD i ⟨0,⟨[],[],0,[],0⟩,[],⟨[],[],[],[]⟩,0⟩=e at *
  have hgo: ∀ r:List Evt,r=vT o e→(fun p:Nat × List Evt=>p.1≤l.length∧p.2=zF (l.take p.1)) (i+1,r):=fun r h=>⟨by simp only;omega,by simp only;rw [hy,h]⟩
  rcases List.eq_nil_or_concat o with he|⟨z,x,he⟩
  · subst he
    rw [tJ] at hgo
    simp only [List.length_cons,List.length_nil]
    (repeat' (first|refine And.intro ?_ ?_|intro _))<;>first|omega|exact True.intro|exact False.elim ‹False›|skip
    all_goals first
      |omega
      |exact hA (i+1,_) (hgo _ rfl) (by simp only;omega)
  · rw [List.concat_eq_append] at he
    subst he
    have hx:=hl4 x (List.mem_append_right _ (List.mem_singleton.2 rfl))
    have hz:(((z++[x]).length:Int) - 1).toNat=z.length:=by rw [List.length_append,List.length_singleton];omega
    have hg: ∀ d,(z++[x]).getD z.length d=x:=fun d=>by simp
    have hs: ∀ d,(z++[x]).set z.length d=z++[d]:=fun d=>by simp
    rw [yR] at hgo
    rw [List.length_append,List.length_singleton] at hl1
    simp only [hz,hg,hs]
    simp only [List.length_append,List.length_cons,List.length_nil]
    clear hz hg hs
    (repeat' (first|refine And.intro ?_ ?_|intro _))<;>first|omega|exact True.intro|exact False.elim ‹False›|skip
    all_goals first
      |omega
      |(rw [if_pos ⟨‹e.kind=2›,‹x.kind=2›⟩] at hgo;exact hA (i+1,_) (hgo _ rfl) (by simp only;omega))
      |(rw [if_neg (fun h=>‹¬ e.kind=2› h.1)] at hgo;exact hA (i+1,_) (hgo _ rfl) (by simp only;omega))
      |(rw [if_neg (fun h=>‹¬ x.kind=2› h.2)] at hgo;exact hA (i+1,_) (hgo _ rfl) (by simp only;omega))
def Yc (I:Alg) (args:List D) (hp:List HO):Option CT:=match args,hp with
  |[.v (.one (.row 0))],[.row .evt 32 l]=>(fun(l:List Evt)=>(some (.one ⟨I.hid (zN l≤1000000∧l.length≤10000000),(.ret (.v (.one (.row 1)))),[.row .evt 32 l,.row .evt 32 (I.hid ((zF l)))]⟩):Option CT)) l
  |_,_=>none
theorem zad:zD Tryz.prog 17 (Yc alg):=by
  intro args hp r h
  unfold Yc at h
  split at h
  · cases h;exact fun hn=>zjq _ hn
  · cases h
def xu:Know Tryz.prog:=⟨17,Yc,zad⟩
def xq:Know Tryz.prog:=⟨17,fun I=>zH I (Yc I),zf zad⟩
end Go.Proofs.YtmibhbdfigpkmaaGreatDoor
namespace Go.Proofs.YtmibhbdfigpkmaaGreatDoor
open Go Go.Sep Go.Ab
set_option maxRecDepth 100000
theorem zen (q:Rq):zN (yx q).1.out≤zN q.out:=by
  unfold yx yU
  repeat' split
  all_goals simp [zN,evH,evE]
theorem zel (q:Rq) (s:Str):zN (zI q s).1.out≤zN q.out:=by
  have hd:=zen q
  unfold zI
  repeat' split
  all_goals first|exact hd|exact Nat.le_refl _
theorem Rf (q:Rq) (c:UInt8):zN (rqF q c).out≤zN q.out+1:=by
  have hl:=zel { q with ln:=(lnF q.ln c).1} (lnF q.ln c).2.1
  have hd:=(zd1 (s:=ckOf q) (c:=c)).1
  unfold rqF
  split
  · split
    · simp only [yU,yO,yT,evB,evE,List.length_cons,List.length_nil];omega
    · simp only [yO,yT,evB,List.length_cons,List.length_nil];omega
  split
  · split
    · simp only [yc,yO,yT,evF,List.length_nil];omega
    split
    · simp only [yU,yO,yT,evE,List.length_nil]
      split
      · simp only [yO,yT,evB];omega
      · omega
    · show zN (if(chF (ckOf q) c).2.1≠[] then q.out++[evB (chF (ckOf q) c).2.1] else q.out)≤_
      split
      · simp only [yO,yT,evB];omega
      · omega
  split
  · split
    · simp only [yc,yO,yT,evF,List.length_nil];omega
    split
    · split
      · simp only [yc,yO,yT,evF,List.length_nil];simp only at hl;omega
      · simp only at hl;omega
    · exact Nat.le_succ _
  · exact Nat.le_succ _
def rqAt (q:Rq) (b:Str) (n i:Nat):Prop:=RqI (xC { q with out:=[]} (b.take i)) (n+i)∧zN (xC { q with out:=[]} (b.take i)).out≤i
theorem zcY {q:Rq} {n:Nat} (h:RqI { q with out:=[]} n) (b:Str):rqAt q b n 0:=⟨h,by simp [xC,zN]⟩
theorem SV (q:Rq) (b:Str) {i:Nat} (h:i<b.length):xC q (b.take (i+1))=rqF (xC q (b.take i)) (b.getD i 0):=by
  rw [show b.getD i 0=b[i] by simp [h],List.take_succ_eq_append_getElem h]
  unfold xC
  rw [List.foldl_append]
  rfl
def rqN0 (q:Rq) (b:Str):Prop:=∃ n,RqI { q with out:=[]} n∧n+b.length≤1000000
theorem zfx (ln:Ln) (p:Int) (m tg:Str) (hm:Int) (hf:List Fld) (hl le:Int) (out:List Evt) (b:Str) (hneed:rqN0 ⟨ln,p,⟨m,tg,hm,hf,hl⟩,le,none,true,out⟩ b):Spc Tryz.prog 9 [.v (.one (.ptr 0 0)),.v (.one (.p (.list .byte b)))] [.abs (.rq ⟨ln,p,⟨m,tg,hm,hf,hl⟩,le,none,true,out⟩)] (.ret (.v (.one (.row 1)))) [.abs (.rq ((yh ⟨ln,p,⟨m,tg,hm,hf,hl⟩,le,none,true,out⟩ b))),.row .evt 32 ((zF (yh ⟨ln,p,⟨m,tg,hm,hf,hl⟩,le,none,true,out⟩ b).out))]:=by
  obtain⟨n,hI0,hnb⟩:=hneed
  have hat:=zcY hI0 b
  refine spcG zi mixed Tryz.func9 (by kernel_rfl) { cfgQ with fz:=[],keep:=some [0,1,4,6,10,11,12]} [wK,wJ,xu,xq] (by kernel_rfl) ?_
  intro I X hI hX
  refine zh (.code 0 [1,1,0,1,0] ⟨[(12,(.v (.one (.p (.int .i64 0))))),(11,(.v (.one (.p (.int .i64 (I.len (α:=UInt8) b)))))),(10,(.v (.one (.p (.list .byte b))))),(4,(.v (.one .nilS))),(0,(.v (.one (.ptr 0 0)))),(1,(.v (.one (.p (.list .byte b)))))],[(.obj 57 [(.ptr 1 0),(.p (.int .i64 p)),(.p (.str m)),(.p (.str tg)),(.p (.int .i64 hm)),(.row 2),(.p (.int .i64 hl)),(.p (.int .i64 le)),(.p (.val (.pointer .none))),.nilS]),(.pack [(.obj 82 [(.row 1),(.p (.bool (Go.Ab.Ln.cr ln))),(.p (.int .i64 (Go.Ab.Ln.code ln)))]),(.row .byte 5 (Go.Ab.Ln.b ln))]),(.row .fld 51 hf),(.row .evt 32 out)],25,none⟩) (by kernel_rfl) ?_
  simp only [zy]
  have hr:({ (⟨ln,p,⟨m,tg,hm,hf,hl⟩,le,none,true,out⟩:Rq) with out:=[]}:Rq)=(⟨ln,p,⟨m,tg,hm,hf,hl⟩,le,none,true,[]⟩:Rq):=rfl
  unfold rqAt at hat
  unfold yh
  rw [hr] at hat ⊢
  refine zG hI zi mixed [wK,wJ,xu,xq] hX [0,1,10,11,12] (fun(g:Nat × Rq)=>match g with|(i,r)=>i≤b.length∧r=xC (⟨ln,p,⟨m,tg,hm,hf,hl⟩,le,none,true,[]⟩:Rq) (b.take i)∧RqI r (n+i)∧zN r.out≤i) (fun(g:Nat × Rq)=>match g with|(i,r)=>⟨[(0,.v (.one (.ptr 0 0))),(1,.v (.one (.p (.list .byte b)))),(10,.v (.one (.p (.list .byte b)))),(11,.v (.one (.p (.int .i64 ((I.len (α:=UInt8) b)))))),(12,.v (.one (.p (.int .i64 i))))],[.abs (.rq r)],25,none⟩) (fun(g:Nat × Rq)=>match g with|(i,r)=>b.length - i) (0,(⟨ln,p,⟨m,tg,hm,hf,hl⟩,le,none,true,[]⟩:Rq)) (by kernel_rfl) (by kernel_rfl) ?_ ?_
  · exact⟨Nat.zero_le _,rfl,hat.1,hat.2⟩
  rintro⟨i,⟨ln2,p2,⟨m2,t2,hm2,hf2,hl2⟩,le2,ck2,own2,out2⟩⟩ ⟨h1,h2,h3,h4⟩ A hA
  simp only at hA h1 h2 h3 h4
  have hrn:i<b.length→rqN _:=fun h=>⟨n+i,by omega,h3⟩
  have hgo:i<b.length→_:=fun h=>hA (i+1,rqF ⟨ln2,p2,⟨m2,t2,hm2,hf2,hl2⟩,le2,ck2,own2,out2⟩ (b.getD i 0)) ⟨by simp only;omega,by simp only;rw [SV _ _ h,← h2],by simp only;exact zem h3 _,by simp only;have:=Rf ⟨ln2,p2,⟨m2,t2,hm2,hf2,hl2⟩,le2,ck2,own2,out2⟩ (b.getD i 0);simp only at this;omega⟩ (by simp only;omega)
  have hend: ¬ i<b.length→_:=fun h=>h2.trans (by rw [List.take_of_length_le (by omega)])
  rcases ck2 with _|ch2<;>rcases own2 with _|_
  · have h0:=h1
    refine zh (let y0:=I.b2i (I.get (α:=UInt8) b 0 (Nat.cast i));let y1:=I.inb (Nat.cast i) (I.len (α:=UInt8) b);.br (I.ilt (Nat.cast i) (I.len (α:=UInt8) b)) (.need y1 (.need y1 (.need (I.hid (α:=(Prop)) (And (rqN (Go.Ab.Rq.mk ln2 p2 (Hd.mk m2 t2 hm2 hf2 hl2) le2 (Option.none) Bool.false out2)) (And (LE.le (0:Int) y0) (LE.le y0 (255:Int))))) (.need (I.inr Go.IntKind.i64 (I.add (Nat.cast i) 1)) (.need (A ⟨[(0,(.v (.one (.ptr 0 0)))),(1,(.v (.one (.p (.list .byte b))))),(10,(.v (.one (.p (.list .byte b))))),(11,(.v (.one (.p (.int .i64 (I.len (α:=UInt8) b)))))),(12,(.v (.one (.p (.int .i64 (I.add (Nat.cast i) 1))))))],[(.abs (.rq (I.hid (α:=Go.Ab.Rq) (rqF (Go.Ab.Rq.mk ln2 p2 (Hd.mk m2 t2 hm2 hf2 hl2) le2 (Option.none) Bool.false out2) (UInt8.ofNat (Int.toNat y0))))))],25,none⟩) .qed))))) (.need (I.hid (α:=(Prop)) (And (LE.le (zN out2) 1000000) (LE.le (List.length out2) 10000000))) (.fin (.ret (.v (.one (.row 1)))) [(.abs (.rq (Go.Ab.Rq.mk (Go.Ab.Ln.mk (Go.Ab.Ln.b ln2) (Go.Ab.Ln.cr ln2) (Go.Ab.Ln.code ln2)) p2 (Hd.mk m2 t2 hm2 hf2 hl2) le2 (Option.none) Bool.false out2))),(.row .evt 32 (I.hid (α:=(List Go.Ab.Evt)) (zF out2)))]))) (by kernel_rfl) ?_
    simp only [zy]
    subst hI
    simp only [nrmA,nrmB,nrlB,reduceCtorEq,HO.abs.injEq,Gh.rq.injEq,Rq.mk.injEq]
    by_cases hi:i<b.length
    · have hg:=hgo hi
      have hn:=hrn hi
      (repeat' (first|refine And.intro ?_ ?_|intro _))<;>first|omega|exact True.intro|exact False.elim ‹False›|skip
      all_goals first|omega|exact hg|exact hn|contradiction|(have:=(b.getD i 0).toNat_lt;omega)|trace_state
    · have hg:=hend hi
      rw [← hg]
      have hon:=h3.on
      simp only at hon
      (repeat' (first|refine And.intro ?_ ?_|intro _))<;>first|omega|exact True.intro|exact False.elim ‹False›|skip
      all_goals first|omega|rfl|contradiction|exact⟨by omega,by omega⟩|trace_state
  · have h0:=h1
    refine zh (let y0:=I.b2i (I.get (α:=UInt8) b 0 (Nat.cast i));let y1:=I.inb (Nat.cast i) (I.len (α:=UInt8) b);.br (I.ilt (Nat.cast i) (I.len (α:=UInt8) b)) (.need y1 (.need y1 (.need (I.hid (α:=(Prop)) (And (rqN (Go.Ab.Rq.mk ln2 p2 (Hd.mk m2 t2 hm2 hf2 hl2) le2 (Option.none) Bool.true out2)) (And (LE.le (0:Int) y0) (LE.le y0 (255:Int))))) (.need (I.inr Go.IntKind.i64 (I.add (Nat.cast i) 1)) (.need (A ⟨[(0,(.v (.one (.ptr 0 0)))),(1,(.v (.one (.p (.list .byte b))))),(10,(.v (.one (.p (.list .byte b))))),(11,(.v (.one (.p (.int .i64 (I.len (α:=UInt8) b)))))),(12,(.v (.one (.p (.int .i64 (I.add (Nat.cast i) 1))))))],[(.abs (.rq (I.hid (α:=Go.Ab.Rq) (rqF (Go.Ab.Rq.mk ln2 p2 (Hd.mk m2 t2 hm2 hf2 hl2) le2 (Option.none) Bool.true out2) (UInt8.ofNat (Int.toNat y0))))))],25,none⟩) .qed))))) (.need (I.hid (α:=(Prop)) (And (LE.le (zN out2) 1000000) (LE.le (List.length out2) 10000000))) (.fin (.ret (.v (.one (.row 1)))) [(.abs (.rq (Go.Ab.Rq.mk (Go.Ab.Ln.mk (Go.Ab.Ln.b ln2) (Go.Ab.Ln.cr ln2) (Go.Ab.Ln.code ln2)) p2 (Hd.mk m2 t2 hm2 hf2 hl2) le2 (Option.none) Bool.true out2))),(.row .evt 32 (I.hid (α:=(List Go.Ab.Evt)) (zF out2)))]))) (by kernel_rfl) ?_
    simp only [zy]
    subst hI
    simp only [nrmA,nrmB,nrlB,reduceCtorEq,HO.abs.injEq,Gh.rq.injEq,Rq.mk.injEq]
    by_cases hi:i<b.length
    · have hg:=hgo hi
      have hn:=hrn hi
      (repeat' (first|refine And.intro ?_ ?_|intro _))<;>first|omega|exact True.intro|exact False.elim ‹False›|skip
      all_goals first|omega|exact hg|exact hn|contradiction|(have:=(b.getD i 0).toNat_lt;omega)|trace_state
    · have hg:=hend hi
      rw [← hg]
      have hon:=h3.on
      simp only at hon
      (repeat' (first|refine And.intro ?_ ?_|intro _))<;>first|omega|exact True.intro|exact False.elim ‹False›|skip
      all_goals first|omega|rfl|contradiction|exact⟨by omega,by omega⟩|trace_state
  · have h0:=h1
    refine zh (let y0:=I.b2i (I.get (α:=UInt8) b 0 (Nat.cast i));let y1:=I.inb (Nat.cast i) (I.len (α:=UInt8) b);.br (I.ilt (Nat.cast i) (I.len (α:=UInt8) b)) (.need y1 (.need y1 (.need (I.hid (α:=(Prop)) (And (rqN (Go.Ab.Rq.mk ln2 p2 (Hd.mk m2 t2 hm2 hf2 hl2) le2 (Option.some ch2) Bool.false out2)) (And (LE.le (0:Int) y0) (LE.le y0 (255:Int))))) (.need (I.inr Go.IntKind.i64 (I.add (Nat.cast i) 1)) (.need (A ⟨[(0,(.v (.one (.ptr 0 0)))),(1,(.v (.one (.p (.list .byte b))))),(10,(.v (.one (.p (.list .byte b))))),(11,(.v (.one (.p (.int .i64 (I.len (α:=UInt8) b)))))),(12,(.v (.one (.p (.int .i64 (I.add (Nat.cast i) 1))))))],[(.abs (.rq (I.hid (α:=Go.Ab.Rq) (rqF (Go.Ab.Rq.mk ln2 p2 (Hd.mk m2 t2 hm2 hf2 hl2) le2 (Option.some ch2) Bool.false out2) (UInt8.ofNat (Int.toNat y0))))))],25,none⟩) .qed))))) (.need (I.hid (α:=(Prop)) (And (LE.le (zN out2) 1000000) (LE.le (List.length out2) 10000000))) (.fin (.ret (.v (.one (.row 1)))) [(.abs (.rq (Go.Ab.Rq.mk (Go.Ab.Ln.mk (Go.Ab.Ln.b ln2) (Go.Ab.Ln.cr ln2) (Go.Ab.Ln.code ln2)) p2 (Hd.mk m2 t2 hm2 hf2 hl2) le2 (Option.some (Go.Ab.Ch.mk (Go.Ab.Ln.mk (Go.Ab.Ln.b (Go.Ab.Ch.ln ch2)) (Go.Ab.Ln.cr (Go.Ab.Ch.ln ch2)) (Go.Ab.Ln.code (Go.Ab.Ch.ln ch2))) (Go.Ab.Ch.pos ch2) (Go.Ab.Ch.left ch2) (Go.Ab.Ch.all ch2) (Go.Ab.Ch.tails ch2) (Go.Ab.Ch.code ch2))) Bool.false out2))),(.row .evt 32 (I.hid (α:=(List Go.Ab.Evt)) (zF out2)))]))) (by kernel_rfl) ?_
    simp only [zy]
    subst hI
    simp only [nrmA,nrmB,nrlB,reduceCtorEq,HO.abs.injEq,Gh.rq.injEq,Rq.mk.injEq]
    by_cases hi:i<b.length
    · have hg:=hgo hi
      have hn:=hrn hi
      (repeat' (first|refine And.intro ?_ ?_|intro _))<;>first|omega|exact True.intro|exact False.elim ‹False›|skip
      all_goals first|omega|exact hg|exact hn|contradiction|(have:=(b.getD i 0).toNat_lt;omega)|trace_state
    · have hg:=hend hi
      rw [← hg]
      have hon:=h3.on
      simp only at hon
      (repeat' (first|refine And.intro ?_ ?_|intro _))<;>first|omega|exact True.intro|exact False.elim ‹False›|skip
      all_goals first|omega|rfl|contradiction|exact⟨by omega,by omega⟩|trace_state
  · have h0:=h1
    refine zh (let y0:=I.b2i (I.get (α:=UInt8) b 0 (Nat.cast i));let y1:=I.inb (Nat.cast i) (I.len (α:=UInt8) b);.br (I.ilt (Nat.cast i) (I.len (α:=UInt8) b)) (.need y1 (.need y1 (.need (I.hid (α:=(Prop)) (And (rqN (Go.Ab.Rq.mk ln2 p2 (Hd.mk m2 t2 hm2 hf2 hl2) le2 (Option.some ch2) Bool.true out2)) (And (LE.le (0:Int) y0) (LE.le y0 (255:Int))))) (.need (I.inr Go.IntKind.i64 (I.add (Nat.cast i) 1)) (.need (A ⟨[(0,(.v (.one (.ptr 0 0)))),(1,(.v (.one (.p (.list .byte b))))),(10,(.v (.one (.p (.list .byte b))))),(11,(.v (.one (.p (.int .i64 (I.len (α:=UInt8) b)))))),(12,(.v (.one (.p (.int .i64 (I.add (Nat.cast i) 1))))))],[(.abs (.rq (I.hid (α:=Go.Ab.Rq) (rqF (Go.Ab.Rq.mk ln2 p2 (Hd.mk m2 t2 hm2 hf2 hl2) le2 (Option.some ch2) Bool.true out2) (UInt8.ofNat (Int.toNat y0))))))],25,none⟩) .qed))))) (.need (I.hid (α:=(Prop)) (And (LE.le (zN out2) 1000000) (LE.le (List.length out2) 10000000))) (.fin (.ret (.v (.one (.row 1)))) [(.abs (.rq (Go.Ab.Rq.mk (Go.Ab.Ln.mk (Go.Ab.Ln.b ln2) (Go.Ab.Ln.cr ln2) (Go.Ab.Ln.code ln2)) p2 (Hd.mk m2 t2 hm2 hf2 hl2) le2 (Option.some (Go.Ab.Ch.mk (Go.Ab.Ln.mk (Go.Ab.Ln.b (Go.Ab.Ch.ln ch2)) (Go.Ab.Ln.cr (Go.Ab.Ch.ln ch2)) (Go.Ab.Ln.code (Go.Ab.Ch.ln ch2))) (Go.Ab.Ch.pos ch2) (Go.Ab.Ch.left ch2) (Go.Ab.Ch.all ch2) (Go.Ab.Ch.tails ch2) (Go.Ab.Ch.code ch2))) Bool.true out2))),(.row .evt 32 (I.hid (α:=(List Go.Ab.Evt)) (zF out2)))]))) (by kernel_rfl) ?_
    simp only [zy]
    subst hI
    simp only [nrmA,nrmB,nrlB,reduceCtorEq,HO.abs.injEq,Gh.rq.injEq,Rq.mk.injEq]
    by_cases hi:i<b.length
    · have hg:=hgo hi
      have hn:=hrn hi
      (repeat' (first|refine And.intro ?_ ?_|intro _))<;>first|omega|exact True.intro|exact False.elim ‹False›|skip
      all_goals first|omega|exact hg|exact hn|contradiction|(have:=(b.getD i 0).toNat_lt;omega)|trace_state
    · have hg:=hend hi
      rw [← hg]
      have hon:=h3.on
      simp only at hon
      (repeat' (first|refine And.intro ?_ ?_|intro _))<;>first|omega|exact True.intro|exact False.elim ‹False›|skip
      all_goals first|omega|rfl|contradiction|exact⟨by omega,by omega⟩|trace_state
theorem zfy (ln:Ln) (p:Int) (m tg:Str) (hm:Int) (hf:List Fld) (hl le:Int) (out:List Evt) (b:Str) (hneed:rqN0 ⟨ln,p,⟨m,tg,hm,hf,hl⟩,le,none,false,out⟩ b):Spc Tryz.prog 9 [.v (.one (.ptr 0 0)),.v (.one (.p (.list .byte b)))] [.abs (.rq ⟨ln,p,⟨m,tg,hm,hf,hl⟩,le,none,false,out⟩)] (.ret (.v (.one (.row 1)))) [.abs (.rq ((yh ⟨ln,p,⟨m,tg,hm,hf,hl⟩,le,none,false,out⟩ b))),.row .evt 32 ((zF (yh ⟨ln,p,⟨m,tg,hm,hf,hl⟩,le,none,false,out⟩ b).out))]:=by
  obtain⟨n,hI0,hnb⟩:=hneed
  have hat:=zcY hI0 b
  refine spcG zi mixed Tryz.func9 (by kernel_rfl) { cfgQ with fz:=[],keep:=some [0,1,4,6,10,11,12]} [wK,wJ,xu,xq] (by kernel_rfl) ?_
  intro I X hI hX
  refine zh (.code 0 [1,1,0,1,0] ⟨[(12,(.v (.one (.p (.int .i64 0))))),(11,(.v (.one (.p (.int .i64 (I.len (α:=UInt8) b)))))),(10,(.v (.one (.p (.list .byte b))))),(4,(.v (.one .nilS))),(0,(.v (.one (.ptr 0 0)))),(1,(.v (.one (.p (.list .byte b)))))],[(.obj 57 [(.ptr 1 0),(.p (.int .i64 p)),(.p (.str m)),(.p (.str tg)),(.p (.int .i64 hm)),(.p (.list .fld hf)),(.p (.int .i64 hl)),(.p (.int .i64 le)),(.p (.val (.pointer .none))),.nilS]),(.pack [(.obj 82 [(.row 1),(.p (.bool (Go.Ab.Ln.cr ln))),(.p (.int .i64 (Go.Ab.Ln.code ln)))]),(.row .byte 5 (Go.Ab.Ln.b ln))]),(.row .evt 32 out)],25,none⟩) (by kernel_rfl) ?_
  simp only [zy]
  have hr:({ (⟨ln,p,⟨m,tg,hm,hf,hl⟩,le,none,false,out⟩:Rq) with out:=[]}:Rq)=(⟨ln,p,⟨m,tg,hm,hf,hl⟩,le,none,false,[]⟩:Rq):=rfl
  unfold rqAt at hat
  unfold yh
  rw [hr] at hat ⊢
  refine zG hI zi mixed [wK,wJ,xu,xq] hX [0,1,10,11,12] (fun(g:Nat × Rq)=>match g with|(i,r)=>i≤b.length∧r=xC (⟨ln,p,⟨m,tg,hm,hf,hl⟩,le,none,false,[]⟩:Rq) (b.take i)∧RqI r (n+i)∧zN r.out≤i) (fun(g:Nat × Rq)=>match g with|(i,r)=>⟨[(0,.v (.one (.ptr 0 0))),(1,.v (.one (.p (.list .byte b)))),(10,.v (.one (.p (.list .byte b)))),(11,.v (.one (.p (.int .i64 ((I.len (α:=UInt8) b)))))),(12,.v (.one (.p (.int .i64 i))))],[.abs (.rq r)],25,none⟩) (fun(g:Nat × Rq)=>match g with|(i,r)=>b.length - i) (0,(⟨ln,p,⟨m,tg,hm,hf,hl⟩,le,none,false,[]⟩:Rq)) (by kernel_rfl) (by kernel_rfl) ?_ ?_
  · exact⟨Nat.zero_le _,rfl,hat.1,hat.2⟩
  rintro⟨i,⟨ln2,p2,⟨m2,t2,hm2,hf2,hl2⟩,le2,ck2,own2,out2⟩⟩ ⟨h1,h2,h3,h4⟩ A hA
  simp only at hA h1 h2 h3 h4
  have hrn:i<b.length→rqN _:=fun h=>⟨n+i,by omega,h3⟩
  have hgo:i<b.length→_:=fun h=>hA (i+1,rqF ⟨ln2,p2,⟨m2,t2,hm2,hf2,hl2⟩,le2,ck2,own2,out2⟩ (b.getD i 0)) ⟨by simp only;omega,by simp only;rw [SV _ _ h,← h2],by simp only;exact zem h3 _,by simp only;have:=Rf ⟨ln2,p2,⟨m2,t2,hm2,hf2,hl2⟩,le2,ck2,own2,out2⟩ (b.getD i 0);simp only at this;omega⟩ (by simp only;omega)
  have hend: ¬ i<b.length→_:=fun h=>h2.trans (by rw [List.take_of_length_le (by omega)])
  rcases ck2 with _|ch2<;>rcases own2 with _|_
  · have h0:=h1
    refine zh (let y0:=I.b2i (I.get (α:=UInt8) b 0 (Nat.cast i));let y1:=I.inb (Nat.cast i) (I.len (α:=UInt8) b);.br (I.ilt (Nat.cast i) (I.len (α:=UInt8) b)) (.need y1 (.need y1 (.need (I.hid (α:=(Prop)) (And (rqN (Go.Ab.Rq.mk ln2 p2 (Hd.mk m2 t2 hm2 hf2 hl2) le2 (Option.none) Bool.false out2)) (And (LE.le (0:Int) y0) (LE.le y0 (255:Int))))) (.need (I.inr Go.IntKind.i64 (I.add (Nat.cast i) 1)) (.need (A ⟨[(0,(.v (.one (.ptr 0 0)))),(1,(.v (.one (.p (.list .byte b))))),(10,(.v (.one (.p (.list .byte b))))),(11,(.v (.one (.p (.int .i64 (I.len (α:=UInt8) b)))))),(12,(.v (.one (.p (.int .i64 (I.add (Nat.cast i) 1))))))],[(.abs (.rq (I.hid (α:=Go.Ab.Rq) (rqF (Go.Ab.Rq.mk ln2 p2 (Hd.mk m2 t2 hm2 hf2 hl2) le2 (Option.none) Bool.false out2) (UInt8.ofNat (Int.toNat y0))))))],25,none⟩) .qed))))) (.need (I.hid (α:=(Prop)) (And (LE.le (zN out2) 1000000) (LE.le (List.length out2) 10000000))) (.fin (.ret (.v (.one (.row 1)))) [(.abs (.rq (Go.Ab.Rq.mk (Go.Ab.Ln.mk (Go.Ab.Ln.b ln2) (Go.Ab.Ln.cr ln2) (Go.Ab.Ln.code ln2)) p2 (Hd.mk m2 t2 hm2 hf2 hl2) le2 (Option.none) Bool.false out2))),(.row .evt 32 (I.hid (α:=(List Go.Ab.Evt)) (zF out2)))]))) (by kernel_rfl) ?_
    simp only [zy]
    subst hI
    simp only [nrmA,nrmB,nrlB,reduceCtorEq,HO.abs.injEq,Gh.rq.injEq,Rq.mk.injEq]
    by_cases hi:i<b.length
    · have hg:=hgo hi
      have hn:=hrn hi
      (repeat' (first|refine And.intro ?_ ?_|intro _))<;>first|omega|exact True.intro|exact False.elim ‹False›|skip
      all_goals first|omega|exact hg|exact hn|contradiction|(have:=(b.getD i 0).toNat_lt;omega)|trace_state
    · have hg:=hend hi
      rw [← hg]
      have hon:=h3.on
      simp only at hon
      (repeat' (first|refine And.intro ?_ ?_|intro _))<;>first|omega|exact True.intro|exact False.elim ‹False›|skip
      all_goals first|omega|rfl|contradiction|exact⟨by omega,by omega⟩|trace_state
  · have h0:=h1
    refine zh (let y0:=I.b2i (I.get (α:=UInt8) b 0 (Nat.cast i));let y1:=I.inb (Nat.cast i) (I.len (α:=UInt8) b);.br (I.ilt (Nat.cast i) (I.len (α:=UInt8) b)) (.need y1 (.need y1 (.need (I.hid (α:=(Prop)) (And (rqN (Go.Ab.Rq.mk ln2 p2 (Hd.mk m2 t2 hm2 hf2 hl2) le2 (Option.none) Bool.true out2)) (And (LE.le (0:Int) y0) (LE.le y0 (255:Int))))) (.need (I.inr Go.IntKind.i64 (I.add (Nat.cast i) 1)) (.need (A ⟨[(0,(.v (.one (.ptr 0 0)))),(1,(.v (.one (.p (.list .byte b))))),(10,(.v (.one (.p (.list .byte b))))),(11,(.v (.one (.p (.int .i64 (I.len (α:=UInt8) b)))))),(12,(.v (.one (.p (.int .i64 (I.add (Nat.cast i) 1))))))],[(.abs (.rq (I.hid (α:=Go.Ab.Rq) (rqF (Go.Ab.Rq.mk ln2 p2 (Hd.mk m2 t2 hm2 hf2 hl2) le2 (Option.none) Bool.true out2) (UInt8.ofNat (Int.toNat y0))))))],25,none⟩) .qed))))) (.need (I.hid (α:=(Prop)) (And (LE.le (zN out2) 1000000) (LE.le (List.length out2) 10000000))) (.fin (.ret (.v (.one (.row 1)))) [(.abs (.rq (Go.Ab.Rq.mk (Go.Ab.Ln.mk (Go.Ab.Ln.b ln2) (Go.Ab.Ln.cr ln2) (Go.Ab.Ln.code ln2)) p2 (Hd.mk m2 t2 hm2 hf2 hl2) le2 (Option.none) Bool.true out2))),(.row .evt 32 (I.hid (α:=(List Go.Ab.Evt)) (zF out2)))]))) (by kernel_rfl) ?_
    simp only [zy]
    subst hI
    simp only [nrmA,nrmB,nrlB,reduceCtorEq,HO.abs.injEq,Gh.rq.injEq,Rq.mk.injEq]
    by_cases hi:i<b.length
    · have hg:=hgo hi
      have hn:=hrn hi
      (repeat' (first|refine And.intro ?_ ?_|intro _))<;>first|omega|exact True.intro|exact False.elim ‹False›|skip
      all_goals first|omega|exact hg|exact hn|contradiction|(have:=(b.getD i 0).toNat_lt;omega)|trace_state
    · have hg:=hend hi
      rw [← hg]
      have hon:=h3.on
      simp only at hon
      (repeat' (first|refine And.intro ?_ ?_|intro _))<;>first|omega|exact True.intro|exact False.elim ‹False›|skip
      all_goals first|omega|rfl|contradiction|exact⟨by omega,by omega⟩|trace_state
  · have h0:=h1
    refine zh (let y0:=I.b2i (I.get (α:=UInt8) b 0 (Nat.cast i));let y1:=I.inb (Nat.cast i) (I.len (α:=UInt8) b);.br (I.ilt (Nat.cast i) (I.len (α:=UInt8) b)) (.need y1 (.need y1 (.need (I.hid (α:=(Prop)) (And (rqN (Go.Ab.Rq.mk ln2 p2 (Hd.mk m2 t2 hm2 hf2 hl2) le2 (Option.some ch2) Bool.false out2)) (And (LE.le (0:Int) y0) (LE.le y0 (255:Int))))) (.need (I.inr Go.IntKind.i64 (I.add (Nat.cast i) 1)) (.need (A ⟨[(0,(.v (.one (.ptr 0 0)))),(1,(.v (.one (.p (.list .byte b))))),(10,(.v (.one (.p (.list .byte b))))),(11,(.v (.one (.p (.int .i64 (I.len (α:=UInt8) b)))))),(12,(.v (.one (.p (.int .i64 (I.add (Nat.cast i) 1))))))],[(.abs (.rq (I.hid (α:=Go.Ab.Rq) (rqF (Go.Ab.Rq.mk ln2 p2 (Hd.mk m2 t2 hm2 hf2 hl2) le2 (Option.some ch2) Bool.false out2) (UInt8.ofNat (Int.toNat y0))))))],25,none⟩) .qed))))) (.need (I.hid (α:=(Prop)) (And (LE.le (zN out2) 1000000) (LE.le (List.length out2) 10000000))) (.fin (.ret (.v (.one (.row 1)))) [(.abs (.rq (Go.Ab.Rq.mk (Go.Ab.Ln.mk (Go.Ab.Ln.b ln2) (Go.Ab.Ln.cr ln2) (Go.Ab.Ln.code ln2)) p2 (Hd.mk m2 t2 hm2 hf2 hl2) le2 (Option.some (Go.Ab.Ch.mk (Go.Ab.Ln.mk (Go.Ab.Ln.b (Go.Ab.Ch.ln ch2)) (Go.Ab.Ln.cr (Go.Ab.Ch.ln ch2)) (Go.Ab.Ln.code (Go.Ab.Ch.ln ch2))) (Go.Ab.Ch.pos ch2) (Go.Ab.Ch.left ch2) (Go.Ab.Ch.all ch2) (Go.Ab.Ch.tails ch2) (Go.Ab.Ch.code ch2))) Bool.false out2))),(.row .evt 32 (I.hid (α:=(List Go.Ab.Evt)) (zF out2)))]))) (by kernel_rfl) ?_
    simp only [zy]
    subst hI
    simp only [nrmA,nrmB,nrlB,reduceCtorEq,HO.abs.injEq,Gh.rq.injEq,Rq.mk.injEq]
    by_cases hi:i<b.length
    · have hg:=hgo hi
      have hn:=hrn hi
      (repeat' (first|refine And.intro ?_ ?_|intro _))<;>first|omega|exact True.intro|exact False.elim ‹False›|skip
      all_goals first|omega|exact hg|exact hn|contradiction|(have:=(b.getD i 0).toNat_lt;omega)|trace_state
    · have hg:=hend hi
      rw [← hg]
      have hon:=h3.on
      simp only at hon
      (repeat' (first|refine And.intro ?_ ?_|intro _))<;>first|omega|exact True.intro|exact False.elim ‹False›|skip
      all_goals first|omega|rfl|contradiction|exact⟨by omega,by omega⟩|trace_state
  · have h0:=h1
    refine zh (let y0:=I.b2i (I.get (α:=UInt8) b 0 (Nat.cast i));let y1:=I.inb (Nat.cast i) (I.len (α:=UInt8) b);.br (I.ilt (Nat.cast i) (I.len (α:=UInt8) b)) (.need y1 (.need y1 (.need (I.hid (α:=(Prop)) (And (rqN (Go.Ab.Rq.mk ln2 p2 (Hd.mk m2 t2 hm2 hf2 hl2) le2 (Option.some ch2) Bool.true out2)) (And (LE.le (0:Int) y0) (LE.le y0 (255:Int))))) (.need (I.inr Go.IntKind.i64 (I.add (Nat.cast i) 1)) (.need (A ⟨[(0,(.v (.one (.ptr 0 0)))),(1,(.v (.one (.p (.list .byte b))))),(10,(.v (.one (.p (.list .byte b))))),(11,(.v (.one (.p (.int .i64 (I.len (α:=UInt8) b)))))),(12,(.v (.one (.p (.int .i64 (I.add (Nat.cast i) 1))))))],[(.abs (.rq (I.hid (α:=Go.Ab.Rq) (rqF (Go.Ab.Rq.mk ln2 p2 (Hd.mk m2 t2 hm2 hf2 hl2) le2 (Option.some ch2) Bool.true out2) (UInt8.ofNat (Int.toNat y0))))))],25,none⟩) .qed))))) (.need (I.hid (α:=(Prop)) (And (LE.le (zN out2) 1000000) (LE.le (List.length out2) 10000000))) (.fin (.ret (.v (.one (.row 1)))) [(.abs (.rq (Go.Ab.Rq.mk (Go.Ab.Ln.mk (Go.Ab.Ln.b ln2) (Go.Ab.Ln.cr ln2) (Go.Ab.Ln.code ln2)) p2 (Hd.mk m2 t2 hm2 hf2 hl2) le2 (Option.some (Go.Ab.Ch.mk (Go.Ab.Ln.mk (Go.Ab.Ln.b (Go.Ab.Ch.ln ch2)) (Go.Ab.Ln.cr (Go.Ab.Ch.ln ch2)) (Go.Ab.Ln.code (Go.Ab.Ch.ln ch2))) (Go.Ab.Ch.pos ch2) (Go.Ab.Ch.left ch2) (Go.Ab.Ch.all ch2) (Go.Ab.Ch.tails ch2) (Go.Ab.Ch.code ch2))) Bool.true out2))),(.row .evt 32 (I.hid (α:=(List Go.Ab.Evt)) (zF out2)))]))) (by kernel_rfl) ?_
    simp only [zy]
    subst hI
    simp only [nrmA,nrmB,nrlB,reduceCtorEq,HO.abs.injEq,Gh.rq.injEq,Rq.mk.injEq]
    by_cases hi:i<b.length
    · have hg:=hgo hi
      have hn:=hrn hi
      (repeat' (first|refine And.intro ?_ ?_|intro _))<;>first|omega|exact True.intro|exact False.elim ‹False›|skip
      all_goals first|omega|exact hg|exact hn|contradiction|(have:=(b.getD i 0).toNat_lt;omega)|trace_state
    · have hg:=hend hi
      rw [← hg]
      have hon:=h3.on
      simp only at hon
      (repeat' (first|refine And.intro ?_ ?_|intro _))<;>first|omega|exact True.intro|exact False.elim ‹False›|skip
      all_goals first|omega|rfl|contradiction|exact⟨by omega,by omega⟩|trace_state
theorem zfv (ln:Ln) (p:Int) (m tg:Str) (hm:Int) (hf:List Fld) (hl le:Int) (ch:Ch) (out:List Evt) (b:Str) (hneed:rqN0 ⟨ln,p,⟨m,tg,hm,hf,hl⟩,le,some ch,true,out⟩ b):Spc Tryz.prog 9 [.v (.one (.ptr 0 0)),.v (.one (.p (.list .byte b)))] [.abs (.rq ⟨ln,p,⟨m,tg,hm,hf,hl⟩,le,some ch,true,out⟩)] (.ret (.v (.one (.row 1)))) [.abs (.rq ((yh ⟨ln,p,⟨m,tg,hm,hf,hl⟩,le,some ch,true,out⟩ b))),.row .evt 32 ((zF (yh ⟨ln,p,⟨m,tg,hm,hf,hl⟩,le,some ch,true,out⟩ b).out))]:=by
  obtain⟨n,hI0,hnb⟩:=hneed
  have hat:=zcY hI0 b
  refine spcG zi mixed Tryz.func9 (by kernel_rfl) { cfgQ with fz:=[],keep:=some [0,1,4,6,10,11,12]} [wK,wJ,xu,xq] (by kernel_rfl) ?_
  intro I X hI hX
  refine zh (.code 0 [1,1,0,1,0] ⟨[(12,(.v (.one (.p (.int .i64 0))))),(11,(.v (.one (.p (.int .i64 (I.len (α:=UInt8) b)))))),(10,(.v (.one (.p (.list .byte b))))),(4,(.v (.one .nilS))),(0,(.v (.one (.ptr 0 0)))),(1,(.v (.one (.p (.list .byte b)))))],[(.obj 57 [(.ptr 1 0),(.p (.int .i64 p)),(.p (.str m)),(.p (.str tg)),(.p (.int .i64 hm)),(.row 2),(.p (.int .i64 hl)),(.p (.int .i64 le)),(.ptr 3 0),.nilS]),(.pack [(.obj 82 [(.row 1),(.p (.bool (Go.Ab.Ln.cr ln))),(.p (.int .i64 (Go.Ab.Ln.code ln)))]),(.row .byte 5 (Go.Ab.Ln.b ln))]),(.row .fld 51 hf),(.pack [(.obj 98 [(.ptr 1 0),(.p (.int .i64 (Go.Ab.Ch.pos ch))),(.p (.int .i64 (Go.Ab.Ch.left ch))),(.p (.int .i64 (Go.Ab.Ch.all ch))),(.p (.int .i64 (Go.Ab.Ch.tails ch))),(.p (.int .i64 (Go.Ab.Ch.code ch)))]),(.pack [(.obj 82 [(.row 1),(.p (.bool (Go.Ab.Ln.cr (Go.Ab.Ch.ln ch)))),(.p (.int .i64 (Go.Ab.Ln.code (Go.Ab.Ch.ln ch))))]),(.row .byte 5 (Go.Ab.Ln.b (Go.Ab.Ch.ln ch)))])]),(.row .evt 32 out)],25,none⟩) (by kernel_rfl) ?_
  simp only [zy]
  have hr:({ (⟨ln,p,⟨m,tg,hm,hf,hl⟩,le,some ch,true,out⟩:Rq) with out:=[]}:Rq)=(⟨ln,p,⟨m,tg,hm,hf,hl⟩,le,some ch,true,[]⟩:Rq):=rfl
  unfold rqAt at hat
  unfold yh
  rw [hr] at hat ⊢
  refine zG hI zi mixed [wK,wJ,xu,xq] hX [0,1,10,11,12] (fun(g:Nat × Rq)=>match g with|(i,r)=>i≤b.length∧r=xC (⟨ln,p,⟨m,tg,hm,hf,hl⟩,le,some ch,true,[]⟩:Rq) (b.take i)∧RqI r (n+i)∧zN r.out≤i) (fun(g:Nat × Rq)=>match g with|(i,r)=>⟨[(0,.v (.one (.ptr 0 0))),(1,.v (.one (.p (.list .byte b)))),(10,.v (.one (.p (.list .byte b)))),(11,.v (.one (.p (.int .i64 ((I.len (α:=UInt8) b)))))),(12,.v (.one (.p (.int .i64 i))))],[.abs (.rq r)],25,none⟩) (fun(g:Nat × Rq)=>match g with|(i,r)=>b.length - i) (0,(⟨ln,p,⟨m,tg,hm,hf,hl⟩,le,some ch,true,[]⟩:Rq)) (by kernel_rfl) (by kernel_rfl) ?_ ?_
  · exact⟨Nat.zero_le _,rfl,hat.1,hat.2⟩
  rintro⟨i,⟨ln2,p2,⟨m2,t2,hm2,hf2,hl2⟩,le2,ck2,own2,out2⟩⟩ ⟨h1,h2,h3,h4⟩ A hA
  simp only at hA h1 h2 h3 h4
  have hrn:i<b.length→rqN _:=fun h=>⟨n+i,by omega,h3⟩
  have hgo:i<b.length→_:=fun h=>hA (i+1,rqF ⟨ln2,p2,⟨m2,t2,hm2,hf2,hl2⟩,le2,ck2,own2,out2⟩ (b.getD i 0)) ⟨by simp only;omega,by simp only;rw [SV _ _ h,← h2],by simp only;exact zem h3 _,by simp only;have:=Rf ⟨ln2,p2,⟨m2,t2,hm2,hf2,hl2⟩,le2,ck2,own2,out2⟩ (b.getD i 0);simp only at this;omega⟩ (by simp only;omega)
  have hend: ¬ i<b.length→_:=fun h=>h2.trans (by rw [List.take_of_length_le (by omega)])
  rcases ck2 with _|ch2<;>rcases own2 with _|_
  · have h0:=h1
    refine zh (let y0:=I.b2i (I.get (α:=UInt8) b 0 (Nat.cast i));let y1:=I.inb (Nat.cast i) (I.len (α:=UInt8) b);.br (I.ilt (Nat.cast i) (I.len (α:=UInt8) b)) (.need y1 (.need y1 (.need (I.hid (α:=(Prop)) (And (rqN (Go.Ab.Rq.mk ln2 p2 (Hd.mk m2 t2 hm2 hf2 hl2) le2 (Option.none) Bool.false out2)) (And (LE.le (0:Int) y0) (LE.le y0 (255:Int))))) (.need (I.inr Go.IntKind.i64 (I.add (Nat.cast i) 1)) (.need (A ⟨[(0,(.v (.one (.ptr 0 0)))),(1,(.v (.one (.p (.list .byte b))))),(10,(.v (.one (.p (.list .byte b))))),(11,(.v (.one (.p (.int .i64 (I.len (α:=UInt8) b)))))),(12,(.v (.one (.p (.int .i64 (I.add (Nat.cast i) 1))))))],[(.abs (.rq (I.hid (α:=Go.Ab.Rq) (rqF (Go.Ab.Rq.mk ln2 p2 (Hd.mk m2 t2 hm2 hf2 hl2) le2 (Option.none) Bool.false out2) (UInt8.ofNat (Int.toNat y0))))))],25,none⟩) .qed))))) (.need (I.hid (α:=(Prop)) (And (LE.le (zN out2) 1000000) (LE.le (List.length out2) 10000000))) (.fin (.ret (.v (.one (.row 1)))) [(.abs (.rq (Go.Ab.Rq.mk (Go.Ab.Ln.mk (Go.Ab.Ln.b ln2) (Go.Ab.Ln.cr ln2) (Go.Ab.Ln.code ln2)) p2 (Hd.mk m2 t2 hm2 hf2 hl2) le2 (Option.none) Bool.false out2))),(.row .evt 32 (I.hid (α:=(List Go.Ab.Evt)) (zF out2)))]))) (by kernel_rfl) ?_
    simp only [zy]
    subst hI
    simp only [nrmA,nrmB,nrlB,reduceCtorEq,HO.abs.injEq,Gh.rq.injEq,Rq.mk.injEq]
    by_cases hi:i<b.length
    · have hg:=hgo hi
      have hn:=hrn hi
      (repeat' (first|refine And.intro ?_ ?_|intro _))<;>first|omega|exact True.intro|exact False.elim ‹False›|skip
      all_goals first|omega|exact hg|exact hn|contradiction|(have:=(b.getD i 0).toNat_lt;omega)|trace_state
    · have hg:=hend hi
      rw [← hg]
      have hon:=h3.on
      simp only at hon
      (repeat' (first|refine And.intro ?_ ?_|intro _))<;>first|omega|exact True.intro|exact False.elim ‹False›|skip
      all_goals first|omega|rfl|contradiction|exact⟨by omega,by omega⟩|trace_state
  · have h0:=h1
    refine zh (let y0:=I.b2i (I.get (α:=UInt8) b 0 (Nat.cast i));let y1:=I.inb (Nat.cast i) (I.len (α:=UInt8) b);.br (I.ilt (Nat.cast i) (I.len (α:=UInt8) b)) (.need y1 (.need y1 (.need (I.hid (α:=(Prop)) (And (rqN (Go.Ab.Rq.mk ln2 p2 (Hd.mk m2 t2 hm2 hf2 hl2) le2 (Option.none) Bool.true out2)) (And (LE.le (0:Int) y0) (LE.le y0 (255:Int))))) (.need (I.inr Go.IntKind.i64 (I.add (Nat.cast i) 1)) (.need (A ⟨[(0,(.v (.one (.ptr 0 0)))),(1,(.v (.one (.p (.list .byte b))))),(10,(.v (.one (.p (.list .byte b))))),(11,(.v (.one (.p (.int .i64 (I.len (α:=UInt8) b)))))),(12,(.v (.one (.p (.int .i64 (I.add (Nat.cast i) 1))))))],[(.abs (.rq (I.hid (α:=Go.Ab.Rq) (rqF (Go.Ab.Rq.mk ln2 p2 (Hd.mk m2 t2 hm2 hf2 hl2) le2 (Option.none) Bool.true out2) (UInt8.ofNat (Int.toNat y0))))))],25,none⟩) .qed))))) (.need (I.hid (α:=(Prop)) (And (LE.le (zN out2) 1000000) (LE.le (List.length out2) 10000000))) (.fin (.ret (.v (.one (.row 1)))) [(.abs (.rq (Go.Ab.Rq.mk (Go.Ab.Ln.mk (Go.Ab.Ln.b ln2) (Go.Ab.Ln.cr ln2) (Go.Ab.Ln.code ln2)) p2 (Hd.mk m2 t2 hm2 hf2 hl2) le2 (Option.none) Bool.true out2))),(.row .evt 32 (I.hid (α:=(List Go.Ab.Evt)) (zF out2)))]))) (by kernel_rfl) ?_
    simp only [zy]
    subst hI
    simp only [nrmA,nrmB,nrlB,reduceCtorEq,HO.abs.injEq,Gh.rq.injEq,Rq.mk.injEq]
    by_cases hi:i<b.length
    · have hg:=hgo hi
      have hn:=hrn hi
      (repeat' (first|refine And.intro ?_ ?_|intro _))<;>first|omega|exact True.intro|exact False.elim ‹False›|skip
      all_goals first|omega|exact hg|exact hn|contradiction|(have:=(b.getD i 0).toNat_lt;omega)|trace_state
    · have hg:=hend hi
      rw [← hg]
      have hon:=h3.on
      simp only at hon
      (repeat' (first|refine And.intro ?_ ?_|intro _))<;>first|omega|exact True.intro|exact False.elim ‹False›|skip
      all_goals first|omega|rfl|contradiction|exact⟨by omega,by omega⟩|trace_state
  · have h0:=h1
    refine zh (let y0:=I.b2i (I.get (α:=UInt8) b 0 (Nat.cast i));let y1:=I.inb (Nat.cast i) (I.len (α:=UInt8) b);.br (I.ilt (Nat.cast i) (I.len (α:=UInt8) b)) (.need y1 (.need y1 (.need (I.hid (α:=(Prop)) (And (rqN (Go.Ab.Rq.mk ln2 p2 (Hd.mk m2 t2 hm2 hf2 hl2) le2 (Option.some ch2) Bool.false out2)) (And (LE.le (0:Int) y0) (LE.le y0 (255:Int))))) (.need (I.inr Go.IntKind.i64 (I.add (Nat.cast i) 1)) (.need (A ⟨[(0,(.v (.one (.ptr 0 0)))),(1,(.v (.one (.p (.list .byte b))))),(10,(.v (.one (.p (.list .byte b))))),(11,(.v (.one (.p (.int .i64 (I.len (α:=UInt8) b)))))),(12,(.v (.one (.p (.int .i64 (I.add (Nat.cast i) 1))))))],[(.abs (.rq (I.hid (α:=Go.Ab.Rq) (rqF (Go.Ab.Rq.mk ln2 p2 (Hd.mk m2 t2 hm2 hf2 hl2) le2 (Option.some ch2) Bool.false out2) (UInt8.ofNat (Int.toNat y0))))))],25,none⟩) .qed))))) (.need (I.hid (α:=(Prop)) (And (LE.le (zN out2) 1000000) (LE.le (List.length out2) 10000000))) (.fin (.ret (.v (.one (.row 1)))) [(.abs (.rq (Go.Ab.Rq.mk (Go.Ab.Ln.mk (Go.Ab.Ln.b ln2) (Go.Ab.Ln.cr ln2) (Go.Ab.Ln.code ln2)) p2 (Hd.mk m2 t2 hm2 hf2 hl2) le2 (Option.some (Go.Ab.Ch.mk (Go.Ab.Ln.mk (Go.Ab.Ln.b (Go.Ab.Ch.ln ch2)) (Go.Ab.Ln.cr (Go.Ab.Ch.ln ch2)) (Go.Ab.Ln.code (Go.Ab.Ch.ln ch2))) (Go.Ab.Ch.pos ch2) (Go.Ab.Ch.left ch2) (Go.Ab.Ch.all ch2) (Go.Ab.Ch.tails ch2) (Go.Ab.Ch.code ch2))) Bool.false out2))),(.row .evt 32 (I.hid (α:=(List Go.Ab.Evt)) (zF out2)))]))) (by kernel_rfl) ?_
    simp only [zy]
    subst hI
    simp only [nrmA,nrmB,nrlB,reduceCtorEq,HO.abs.injEq,Gh.rq.injEq,Rq.mk.injEq]
    by_cases hi:i<b.length
    · have hg:=hgo hi
      have hn:=hrn hi
      (repeat' (first|refine And.intro ?_ ?_|intro _))<;>first|omega|exact True.intro|exact False.elim ‹False›|skip
      all_goals first|omega|exact hg|exact hn|contradiction|(have:=(b.getD i 0).toNat_lt;omega)|trace_state
    · have hg:=hend hi
      rw [← hg]
      have hon:=h3.on
      simp only at hon
      (repeat' (first|refine And.intro ?_ ?_|intro _))<;>first|omega|exact True.intro|exact False.elim ‹False›|skip
      all_goals first|omega|rfl|contradiction|exact⟨by omega,by omega⟩|trace_state
  · have h0:=h1
    refine zh (let y0:=I.b2i (I.get (α:=UInt8) b 0 (Nat.cast i));let y1:=I.inb (Nat.cast i) (I.len (α:=UInt8) b);.br (I.ilt (Nat.cast i) (I.len (α:=UInt8) b)) (.need y1 (.need y1 (.need (I.hid (α:=(Prop)) (And (rqN (Go.Ab.Rq.mk ln2 p2 (Hd.mk m2 t2 hm2 hf2 hl2) le2 (Option.some ch2) Bool.true out2)) (And (LE.le (0:Int) y0) (LE.le y0 (255:Int))))) (.need (I.inr Go.IntKind.i64 (I.add (Nat.cast i) 1)) (.need (A ⟨[(0,(.v (.one (.ptr 0 0)))),(1,(.v (.one (.p (.list .byte b))))),(10,(.v (.one (.p (.list .byte b))))),(11,(.v (.one (.p (.int .i64 (I.len (α:=UInt8) b)))))),(12,(.v (.one (.p (.int .i64 (I.add (Nat.cast i) 1))))))],[(.abs (.rq (I.hid (α:=Go.Ab.Rq) (rqF (Go.Ab.Rq.mk ln2 p2 (Hd.mk m2 t2 hm2 hf2 hl2) le2 (Option.some ch2) Bool.true out2) (UInt8.ofNat (Int.toNat y0))))))],25,none⟩) .qed))))) (.need (I.hid (α:=(Prop)) (And (LE.le (zN out2) 1000000) (LE.le (List.length out2) 10000000))) (.fin (.ret (.v (.one (.row 1)))) [(.abs (.rq (Go.Ab.Rq.mk (Go.Ab.Ln.mk (Go.Ab.Ln.b ln2) (Go.Ab.Ln.cr ln2) (Go.Ab.Ln.code ln2)) p2 (Hd.mk m2 t2 hm2 hf2 hl2) le2 (Option.some (Go.Ab.Ch.mk (Go.Ab.Ln.mk (Go.Ab.Ln.b (Go.Ab.Ch.ln ch2)) (Go.Ab.Ln.cr (Go.Ab.Ch.ln ch2)) (Go.Ab.Ln.code (Go.Ab.Ch.ln ch2))) (Go.Ab.Ch.pos ch2) (Go.Ab.Ch.left ch2) (Go.Ab.Ch.all ch2) (Go.Ab.Ch.tails ch2) (Go.Ab.Ch.code ch2))) Bool.true out2))),(.row .evt 32 (I.hid (α:=(List Go.Ab.Evt)) (zF out2)))]))) (by kernel_rfl) ?_
    simp only [zy]
    subst hI
    simp only [nrmA,nrmB,nrlB,reduceCtorEq,HO.abs.injEq,Gh.rq.injEq,Rq.mk.injEq]
    by_cases hi:i<b.length
    · have hg:=hgo hi
      have hn:=hrn hi
      (repeat' (first|refine And.intro ?_ ?_|intro _))<;>first|omega|exact True.intro|exact False.elim ‹False›|skip
      all_goals first|omega|exact hg|exact hn|contradiction|(have:=(b.getD i 0).toNat_lt;omega)|trace_state
    · have hg:=hend hi
      rw [← hg]
      have hon:=h3.on
      simp only at hon
      (repeat' (first|refine And.intro ?_ ?_|intro _))<;>first|omega|exact True.intro|exact False.elim ‹False›|skip
      all_goals first|omega|rfl|contradiction|exact⟨by omega,by omega⟩|trace_state
theorem zfw (ln:Ln) (p:Int) (m tg:Str) (hm:Int) (hf:List Fld) (hl le:Int) (ch:Ch) (out:List Evt) (b:Str) (hneed:rqN0 ⟨ln,p,⟨m,tg,hm,hf,hl⟩,le,some ch,false,out⟩ b):Spc Tryz.prog 9 [.v (.one (.ptr 0 0)),.v (.one (.p (.list .byte b)))] [.abs (.rq ⟨ln,p,⟨m,tg,hm,hf,hl⟩,le,some ch,false,out⟩)] (.ret (.v (.one (.row 1)))) [.abs (.rq ((yh ⟨ln,p,⟨m,tg,hm,hf,hl⟩,le,some ch,false,out⟩ b))),.row .evt 32 ((zF (yh ⟨ln,p,⟨m,tg,hm,hf,hl⟩,le,some ch,false,out⟩ b).out))]:=by
  obtain⟨n,hI0,hnb⟩:=hneed
  have hat:=zcY hI0 b
  refine spcG zi mixed Tryz.func9 (by kernel_rfl) { cfgQ with fz:=[],keep:=some [0,1,4,6,10,11,12]} [wK,wJ,xu,xq] (by kernel_rfl) ?_
  intro I X hI hX
  refine zh (.code 0 [1,1,0,1,0] ⟨[(12,(.v (.one (.p (.int .i64 0))))),(11,(.v (.one (.p (.int .i64 (I.len (α:=UInt8) b)))))),(10,(.v (.one (.p (.list .byte b))))),(4,(.v (.one .nilS))),(0,(.v (.one (.ptr 0 0)))),(1,(.v (.one (.p (.list .byte b)))))],[(.obj 57 [(.ptr 1 0),(.p (.int .i64 p)),(.p (.str m)),(.p (.str tg)),(.p (.int .i64 hm)),(.p (.list .fld hf)),(.p (.int .i64 hl)),(.p (.int .i64 le)),(.ptr 2 0),.nilS]),(.pack [(.obj 82 [(.row 1),(.p (.bool (Go.Ab.Ln.cr ln))),(.p (.int .i64 (Go.Ab.Ln.code ln)))]),(.row .byte 5 (Go.Ab.Ln.b ln))]),(.pack [(.obj 98 [(.ptr 1 0),(.p (.int .i64 (Go.Ab.Ch.pos ch))),(.p (.int .i64 (Go.Ab.Ch.left ch))),(.p (.int .i64 (Go.Ab.Ch.all ch))),(.p (.int .i64 (Go.Ab.Ch.tails ch))),(.p (.int .i64 (Go.Ab.Ch.code ch)))]),(.pack [(.obj 82 [(.row 1),(.p (.bool (Go.Ab.Ln.cr (Go.Ab.Ch.ln ch)))),(.p (.int .i64 (Go.Ab.Ln.code (Go.Ab.Ch.ln ch))))]),(.row .byte 5 (Go.Ab.Ln.b (Go.Ab.Ch.ln ch)))])]),(.row .evt 32 out)],25,none⟩) (by kernel_rfl) ?_
  simp only [zy]
  have hr:({ (⟨ln,p,⟨m,tg,hm,hf,hl⟩,le,some ch,false,out⟩:Rq) with out:=[]}:Rq)=(⟨ln,p,⟨m,tg,hm,hf,hl⟩,le,some ch,false,[]⟩:Rq):=rfl
  unfold rqAt at hat
  unfold yh
  rw [hr] at hat ⊢
  refine zG hI zi mixed [wK,wJ,xu,xq] hX [0,1,10,11,12] (fun(g:Nat × Rq)=>match g with|(i,r)=>i≤b.length∧r=xC (⟨ln,p,⟨m,tg,hm,hf,hl⟩,le,some ch,false,[]⟩:Rq) (b.take i)∧RqI r (n+i)∧zN r.out≤i) (fun(g:Nat × Rq)=>match g with|(i,r)=>⟨[(0,.v (.one (.ptr 0 0))),(1,.v (.one (.p (.list .byte b)))),(10,.v (.one (.p (.list .byte b)))),(11,.v (.one (.p (.int .i64 ((I.len (α:=UInt8) b)))))),(12,.v (.one (.p (.int .i64 i))))],[.abs (.rq r)],25,none⟩) (fun(g:Nat × Rq)=>match g with|(i,r)=>b.length - i) (0,(⟨ln,p,⟨m,tg,hm,hf,hl⟩,le,some ch,false,[]⟩:Rq)) (by kernel_rfl) (by kernel_rfl) ?_ ?_
  · exact⟨Nat.zero_le _,rfl,hat.1,hat.2⟩
  rintro⟨i,⟨ln2,p2,⟨m2,t2,hm2,hf2,hl2⟩,le2,ck2,own2,out2⟩⟩ ⟨h1,h2,h3,h4⟩ A hA
  simp only at hA h1 h2 h3 h4
  have hrn:i<b.length→rqN _:=fun h=>⟨n+i,by omega,h3⟩
  have hgo:i<b.length→_:=fun h=>hA (i+1,rqF ⟨ln2,p2,⟨m2,t2,hm2,hf2,hl2⟩,le2,ck2,own2,out2⟩ (b.getD i 0)) ⟨by simp only;omega,by simp only;rw [SV _ _ h,← h2],by simp only;exact zem h3 _,by simp only;have:=Rf ⟨ln2,p2,⟨m2,t2,hm2,hf2,hl2⟩,le2,ck2,own2,out2⟩ (b.getD i 0);simp only at this;omega⟩ (by simp only;omega)
  have hend: ¬ i<b.length→_:=fun h=>h2.trans (by rw [List.take_of_length_le (by omega)])
  rcases ck2 with _|ch2<;>rcases own2 with _|_
  · have h0:=h1
    refine zh (let y0:=I.b2i (I.get (α:=UInt8) b 0 (Nat.cast i));let y1:=I.inb (Nat.cast i) (I.len (α:=UInt8) b);.br (I.ilt (Nat.cast i) (I.len (α:=UInt8) b)) (.need y1 (.need y1 (.need (I.hid (α:=(Prop)) (And (rqN (Go.Ab.Rq.mk ln2 p2 (Hd.mk m2 t2 hm2 hf2 hl2) le2 (Option.none) Bool.false out2)) (And (LE.le (0:Int) y0) (LE.le y0 (255:Int))))) (.need (I.inr Go.IntKind.i64 (I.add (Nat.cast i) 1)) (.need (A ⟨[(0,(.v (.one (.ptr 0 0)))),(1,(.v (.one (.p (.list .byte b))))),(10,(.v (.one (.p (.list .byte b))))),(11,(.v (.one (.p (.int .i64 (I.len (α:=UInt8) b)))))),(12,(.v (.one (.p (.int .i64 (I.add (Nat.cast i) 1))))))],[(.abs (.rq (I.hid (α:=Go.Ab.Rq) (rqF (Go.Ab.Rq.mk ln2 p2 (Hd.mk m2 t2 hm2 hf2 hl2) le2 (Option.none) Bool.false out2) (UInt8.ofNat (Int.toNat y0))))))],25,none⟩) .qed))))) (.need (I.hid (α:=(Prop)) (And (LE.le (zN out2) 1000000) (LE.le (List.length out2) 10000000))) (.fin (.ret (.v (.one (.row 1)))) [(.abs (.rq (Go.Ab.Rq.mk (Go.Ab.Ln.mk (Go.Ab.Ln.b ln2) (Go.Ab.Ln.cr ln2) (Go.Ab.Ln.code ln2)) p2 (Hd.mk m2 t2 hm2 hf2 hl2) le2 (Option.none) Bool.false out2))),(.row .evt 32 (I.hid (α:=(List Go.Ab.Evt)) (zF out2)))]))) (by kernel_rfl) ?_
    simp only [zy]
    subst hI
    simp only [nrmA,nrmB,nrlB,reduceCtorEq,HO.abs.injEq,Gh.rq.injEq,Rq.mk.injEq]
    by_cases hi:i<b.length
    · have hg:=hgo hi
      have hn:=hrn hi
      (repeat' (first|refine And.intro ?_ ?_|intro _))<;>first|omega|exact True.intro|exact False.elim ‹False›|skip
      all_goals first|omega|exact hg|exact hn|contradiction|(have:=(b.getD i 0).toNat_lt;omega)|trace_state
    · have hg:=hend hi
      rw [← hg]
      have hon:=h3.on
      simp only at hon
      (repeat' (first|refine And.intro ?_ ?_|intro _))<;>first|omega|exact True.intro|exact False.elim ‹False›|skip
      all_goals first|omega|rfl|contradiction|exact⟨by omega,by omega⟩|trace_state
  · have h0:=h1
    refine zh (let y0:=I.b2i (I.get (α:=UInt8) b 0 (Nat.cast i));let y1:=I.inb (Nat.cast i) (I.len (α:=UInt8) b);.br (I.ilt (Nat.cast i) (I.len (α:=UInt8) b)) (.need y1 (.need y1 (.need (I.hid (α:=(Prop)) (And (rqN (Go.Ab.Rq.mk ln2 p2 (Hd.mk m2 t2 hm2 hf2 hl2) le2 (Option.none) Bool.true out2)) (And (LE.le (0:Int) y0) (LE.le y0 (255:Int))))) (.need (I.inr Go.IntKind.i64 (I.add (Nat.cast i) 1)) (.need (A ⟨[(0,(.v (.one (.ptr 0 0)))),(1,(.v (.one (.p (.list .byte b))))),(10,(.v (.one (.p (.list .byte b))))),(11,(.v (.one (.p (.int .i64 (I.len (α:=UInt8) b)))))),(12,(.v (.one (.p (.int .i64 (I.add (Nat.cast i) 1))))))],[(.abs (.rq (I.hid (α:=Go.Ab.Rq) (rqF (Go.Ab.Rq.mk ln2 p2 (Hd.mk m2 t2 hm2 hf2 hl2) le2 (Option.none) Bool.true out2) (UInt8.ofNat (Int.toNat y0))))))],25,none⟩) .qed))))) (.need (I.hid (α:=(Prop)) (And (LE.le (zN out2) 1000000) (LE.le (List.length out2) 10000000))) (.fin (.ret (.v (.one (.row 1)))) [(.abs (.rq (Go.Ab.Rq.mk (Go.Ab.Ln.mk (Go.Ab.Ln.b ln2) (Go.Ab.Ln.cr ln2) (Go.Ab.Ln.code ln2)) p2 (Hd.mk m2 t2 hm2 hf2 hl2) le2 (Option.none) Bool.true out2))),(.row .evt 32 (I.hid (α:=(List Go.Ab.Evt)) (zF out2)))]))) (by kernel_rfl) ?_
    simp only [zy]
    subst hI
    simp only [nrmA,nrmB,nrlB,reduceCtorEq,HO.abs.injEq,Gh.rq.injEq,Rq.mk.injEq]
    by_cases hi:i<b.length
    · have hg:=hgo hi
      have hn:=hrn hi
      (repeat' (first|refine And.intro ?_ ?_|intro _))<;>first|omega|exact True.intro|exact False.elim ‹False›|skip
      all_goals first|omega|exact hg|exact hn|contradiction|(have:=(b.getD i 0).toNat_lt;omega)|trace_state
    · have hg:=hend hi
      rw [← hg]
      have hon:=h3.on
      simp only at hon
      (repeat' (first|refine And.intro ?_ ?_|intro _))<;>first|omega|exact True.intro|exact False.elim ‹False›|skip
      all_goals first|omega|rfl|contradiction|exact⟨by omega,by omega⟩|trace_state
  · have h0:=h1
    refine zh (let y0:=I.b2i (I.get (α:=UInt8) b 0 (Nat.cast i));let y1:=I.inb (Nat.cast i) (I.len (α:=UInt8) b);.br (I.ilt (Nat.cast i) (I.len (α:=UInt8) b)) (.need y1 (.need y1 (.need (I.hid (α:=(Prop)) (And (rqN (Go.Ab.Rq.mk ln2 p2 (Hd.mk m2 t2 hm2 hf2 hl2) le2 (Option.some ch2) Bool.false out2)) (And (LE.le (0:Int) y0) (LE.le y0 (255:Int))))) (.need (I.inr Go.IntKind.i64 (I.add (Nat.cast i) 1)) (.need (A ⟨[(0,(.v (.one (.ptr 0 0)))),(1,(.v (.one (.p (.list .byte b))))),(10,(.v (.one (.p (.list .byte b))))),(11,(.v (.one (.p (.int .i64 (I.len (α:=UInt8) b)))))),(12,(.v (.one (.p (.int .i64 (I.add (Nat.cast i) 1))))))],[(.abs (.rq (I.hid (α:=Go.Ab.Rq) (rqF (Go.Ab.Rq.mk ln2 p2 (Hd.mk m2 t2 hm2 hf2 hl2) le2 (Option.some ch2) Bool.false out2) (UInt8.ofNat (Int.toNat y0))))))],25,none⟩) .qed))))) (.need (I.hid (α:=(Prop)) (And (LE.le (zN out2) 1000000) (LE.le (List.length out2) 10000000))) (.fin (.ret (.v (.one (.row 1)))) [(.abs (.rq (Go.Ab.Rq.mk (Go.Ab.Ln.mk (Go.Ab.Ln.b ln2) (Go.Ab.Ln.cr ln2) (Go.Ab.Ln.code ln2)) p2 (Hd.mk m2 t2 hm2 hf2 hl2) le2 (Option.some (Go.Ab.Ch.mk (Go.Ab.Ln.mk (Go.Ab.Ln.b (Go.Ab.Ch.ln ch2)) (Go.Ab.Ln.cr (Go.Ab.Ch.ln ch2)) (Go.Ab.Ln.code (Go.Ab.Ch.ln ch2))) (Go.Ab.Ch.pos ch2) (Go.Ab.Ch.left ch2) (Go.Ab.Ch.all ch2) (Go.Ab.Ch.tails ch2) (Go.Ab.Ch.code ch2))) Bool.false out2))),(.row .evt 32 (I.hid (α:=(List Go.Ab.Evt)) (zF out2)))]))) (by kernel_rfl) ?_
    simp only [zy]
    subst hI
    simp only [nrmA,nrmB,nrlB,reduceCtorEq,HO.abs.injEq,Gh.rq.injEq,Rq.mk.injEq]
    by_cases hi:i<b.length
    · have hg:=hgo hi
      have hn:=hrn hi
      (repeat' (first|refine And.intro ?_ ?_|intro _))<;>first|omega|exact True.intro|exact False.elim ‹False›|skip
      all_goals first|omega|exact hg|exact hn|contradiction|(have:=(b.getD i 0).toNat_lt;omega)|trace_state
    · have hg:=hend hi
      rw [← hg]
      have hon:=h3.on
      simp only at hon
      (repeat' (first|refine And.intro ?_ ?_|intro _))<;>first|omega|exact True.intro|exact False.elim ‹False›|skip
      all_goals first|omega|rfl|contradiction|exact⟨by omega,by omega⟩|trace_state
  · have h0:=h1
    refine zh (let y0:=I.b2i (I.get (α:=UInt8) b 0 (Nat.cast i));let y1:=I.inb (Nat.cast i) (I.len (α:=UInt8) b);.br (I.ilt (Nat.cast i) (I.len (α:=UInt8) b)) (.need y1 (.need y1 (.need (I.hid (α:=(Prop)) (And (rqN (Go.Ab.Rq.mk ln2 p2 (Hd.mk m2 t2 hm2 hf2 hl2) le2 (Option.some ch2) Bool.true out2)) (And (LE.le (0:Int) y0) (LE.le y0 (255:Int))))) (.need (I.inr Go.IntKind.i64 (I.add (Nat.cast i) 1)) (.need (A ⟨[(0,(.v (.one (.ptr 0 0)))),(1,(.v (.one (.p (.list .byte b))))),(10,(.v (.one (.p (.list .byte b))))),(11,(.v (.one (.p (.int .i64 (I.len (α:=UInt8) b)))))),(12,(.v (.one (.p (.int .i64 (I.add (Nat.cast i) 1))))))],[(.abs (.rq (I.hid (α:=Go.Ab.Rq) (rqF (Go.Ab.Rq.mk ln2 p2 (Hd.mk m2 t2 hm2 hf2 hl2) le2 (Option.some ch2) Bool.true out2) (UInt8.ofNat (Int.toNat y0))))))],25,none⟩) .qed))))) (.need (I.hid (α:=(Prop)) (And (LE.le (zN out2) 1000000) (LE.le (List.length out2) 10000000))) (.fin (.ret (.v (.one (.row 1)))) [(.abs (.rq (Go.Ab.Rq.mk (Go.Ab.Ln.mk (Go.Ab.Ln.b ln2) (Go.Ab.Ln.cr ln2) (Go.Ab.Ln.code ln2)) p2 (Hd.mk m2 t2 hm2 hf2 hl2) le2 (Option.some (Go.Ab.Ch.mk (Go.Ab.Ln.mk (Go.Ab.Ln.b (Go.Ab.Ch.ln ch2)) (Go.Ab.Ln.cr (Go.Ab.Ch.ln ch2)) (Go.Ab.Ln.code (Go.Ab.Ch.ln ch2))) (Go.Ab.Ch.pos ch2) (Go.Ab.Ch.left ch2) (Go.Ab.Ch.all ch2) (Go.Ab.Ch.tails ch2) (Go.Ab.Ch.code ch2))) Bool.true out2))),(.row .evt 32 (I.hid (α:=(List Go.Ab.Evt)) (zF out2)))]))) (by kernel_rfl) ?_
    simp only [zy]
    subst hI
    simp only [nrmA,nrmB,nrlB,reduceCtorEq,HO.abs.injEq,Gh.rq.injEq,Rq.mk.injEq]
    by_cases hi:i<b.length
    · have hg:=hgo hi
      have hn:=hrn hi
      (repeat' (first|refine And.intro ?_ ?_|intro _))<;>first|omega|exact True.intro|exact False.elim ‹False›|skip
      all_goals first|omega|exact hg|exact hn|contradiction|(have:=(b.getD i 0).toNat_lt;omega)|trace_state
    · have hg:=hend hi
      rw [← hg]
      have hon:=h3.on
      simp only at hon
      (repeat' (first|refine And.intro ?_ ?_|intro _))<;>first|omega|exact True.intro|exact False.elim ‹False›|skip
      all_goals first|omega|rfl|contradiction|exact⟨by omega,by omega⟩|trace_state
theorem zjs (q:Rq) (b:Str) (hneed:rqN0 q b):Spc Tryz.prog 9 [.v (.one (.ptr 0 0)),.v (.one (.p (.list .byte b)))] [.abs (.rq q)] (.ret (.v (.one (.row 1)))) [.abs (.rq ((yh q b))),.row .evt 32 ((zF (yh q b).out))]:=by
  obtain⟨ln,p,⟨m,tg,hm,hf,hl⟩,le,ck,own,out⟩:=q
  cases ck with
  | none=>cases own with
    |true=>exact zfx ln p m tg hm hf hl le out b hneed
    |false=>exact zfy ln p m tg hm hf hl le out b hneed
  | some ch=>cases own with
    |true=>exact zfv ln p m tg hm hf hl le ch out b hneed
    |false=>exact zfw ln p m tg hm hf hl le ch out b hneed
def Yd (I:Alg) (args:List D) (hp:List HO):Option CT:=match args,hp with
  |[.v (.one (.ptr 0 0)),.v (.one (.p (.list .byte b)))],[.abs (.rq q)]=>(fun(q:Rq) (b:Str)=>(some (.one ⟨I.hid (rqN0 q b),(.ret (.v (.one (.row 1)))),[.abs (.rq (I.hid ((yh q b)))),.row .evt 32 (I.hid ((zF (yh q b).out)))]⟩):Option CT)) q b
  |_,_=>none
theorem zae:zD Tryz.prog 9 (Yd alg):=by
  intro args hp r h
  unfold Yd at h
  split at h
  · cases h;exact fun hn=>zjs _ _ hn
  · cases h
def Vr:Know Tryz.prog:=⟨9,Yd,zae⟩
def Vq:Know Tryz.prog:=⟨9,fun I=>zH I (Yd I),zf zae⟩
end Go.Proofs.YtmibhbdfigpkmaaGreatDoor
namespace Go.Proofs.YtmibhbdfigpkmaaGreatDoor
open Go Go.Sep Go.Ab
def badF:List Fld→Int
  |[]=>0
  |f::l=>if(textF f).2=0 then badF l else(textF f).2
def wY:List Fld→Str
  |[]=>[]
  |f::l=>(textF f).1++[13,10]++wY l
theorem zgS (a b:List Fld):wY (a++b)=wY a++wY b:=by
  induction a with
  |nil=>rfl
  |cons f l ih=>simp only [List.cons_append,wY,ih,List.append_assoc]
def ze9 (n:Int):Str:=[67,111,110,116,101,110,116,45,76,101,110,103,116,104,58,32]++decS n++[13,10,13,10]
theorem Ve (f:Fld):(textF f).1.length≤200:=by
  unfold textF
  split
  · simp
  split
  · simp
  split
  · simp
  · simp only [List.length_append,List.length_cons,List.length_nil];omega
theorem Ug: ∀ l:List Fld,(wY l).length≤202 * l.length
  |[]=>by simp [wY]
  | f::l=>by
    have:=Ve f
    have:=Ug l
    simp only [wY,List.length_append,List.length_cons,List.length_nil];omega
end Go.Proofs.YtmibhbdfigpkmaaGreatDoor
namespace Go.Proofs.YtmibhbdfigpkmaaGreatDoor
open Go Go.Sep Go.Ab
set_option maxRecDepth 100000
theorem zbm {fs:List Fld} {i:Nat} (h:i<fs.length):badF (fs.drop i)=if(textF (fs.getD i ⟨[],[]⟩)).2=0 then badF (fs.drop (i+1)) else(textF (fs.getD i ⟨[],[]⟩)).2:=by
  rw [List.drop_eq_getElem_cons h,badF];simp [h]
theorem TS {fs:List Fld} {i:Nat} (h:i<fs.length):wY (fs.take (i+1))=wY (fs.take i)++(textF (fs.getD i ⟨[],[]⟩)).1++[13,10]:=by
  rw [List.take_succ_eq_append_getElem h,zgS];simp [wY,h]
end Go.Proofs.YtmibhbdfigpkmaaGreatDoor
namespace Go.Proofs.YtmibhbdfigpkmaaGreatDoor
open Go Go.Sep Go.Ab Go.RowKit
set_option maxRecDepth 100000
set_option maxHeartbeats 2000000
theorem zbZ (s:ByteArray) (pos:Nat) (h:pos<s.size) (ha:128≤(s.get! pos).toNat): ∀ j,j<(Utf8.decode s pos).2→pos+j<s.size∧128≤(s.get! (pos+j)).toNat:=by
  have hn: ¬ (s.get! (pos+0)).toNat<128:=by rw [Nat.add_zero];omega
  intro j
  simp only [Utf8.decode,hn,if_false,Bool.and_eq_true,decide_eq_true_eq,beq_iff_eq,ge_iff_le]
  repeat' split
  all_goals intro hj
  all_goals(try simp only at hj)
  all_goals rcases(show j=0∨j=1∨j=2∨j=3 by omega) with rfl|rfl|rfl|rfl
  all_goals first|exact⟨h,ha⟩|omega|(constructor<;>omega)
theorem Y3 (r:Int) (w:World):Calls Tryz.prog 92 #[.int .i32 r] w fun e w'=>e=.returned (.bool (Go.validRune r))∧w'=w:=by
  go_enter Tryz.func92,Tryz.ntmps92
  go_wp2
  all_goals(try go_ret)
  all_goals(refine⟨?_,rfl⟩;first|(show Ending.returned (Value.bool true)=_;rw [show Go.validRune r=true from decide_eq_true (by omega)])|(show Ending.returned (Value.bool false)=_;rw [show Go.validRune r=false from decide_eq_false (by omega)]))
theorem zj5 (x:Int) (w:World):Calls Tryz.prog 77 #[.string ByteArray.empty,.int .u8 x] w fun e w'=>e=.returned (.int .i64 (-1))∧w'=w:=Tryz.strings_IndexByte _ _ _
theorem sixth (r:Int) (w:World) (h0:128≤r) (h1:r≤2147483647):Calls Tryz.prog 78 #[.string (Sep.S [32,9]),.int .i32 r] w fun e w'=>e=.returned (.int .i64 (-1))∧Below w.heap.size w w':=by
  by_cases hr:r=65533
  · subst hr
    go_enter Tryz.func78,Tryz.ntmps78
    go_wp2
    go_loopg [5,6] 2 (fun g _ _ wx=>∃ i:Nat,i+g=2∧wx=w.iter (Sep.S [32,9]) i)
    case atStart=>exact⟨0,by omega,rfl⟩
    case round=>
      obtain⟨i,hig,rfl⟩:=hrel
      have hsz:(Sep.S [32,9]).size=2:=rfl
      cases gk with
      | zero=>
        obtain rfl:i=2:=by omega
        have hnx:=run_next_end (P:=Tryz.prog) w (Sep.S [32,9]) 2
        go_wp2
        go_ret
        exact⟨rfl,(Below.refl _ w).alloc (Nat.le_refl _) _⟩
      | succ g=>
        have hi:i<(Sep.S [32,9]).size:=by rw [hsz];omega
        have hx128:((Sep.S [32,9])[i]'hi).toNat<128:=by
          rcases(show i=0∨i=1 by omega) with rfl|rfl<;>exact of_decide_eq_true (by kernel_rfl)
        have hnx:=fun ty=>run_next_ascii (P:=Tryz.prog) w (Sep.S [32,9]) i ty hi hx128
        generalize((Sep.S [32,9])[i]'hi).toNat=n at *
        have hne:((n:Int) == 65533)=false:=beq_eq_false_iff_ne.2 (by omega)
        go_wp2
        go_roundg g
        case measure=>omega
        case rel=>exact⟨i+1,by omega,rfl⟩
  · cases hv:Go.validRune r
    · go_enter Tryz.func78,Tryz.ntmps78
      go_wp2_with (go_at_call 92;refine(Y3 _ _).mono ?_;rintro e w' ⟨rfl,hw⟩;rw [hw,hv])
      go_ret
      exact⟨rfl,Below.refl _ w⟩
    · obtain⟨e1,e2,e3⟩:=encode_facts r (by rw [validRune_eq];exact hv) h0
      have hcv: ∀ w,(convert 21 9 (.int .i32 r)).run Tryz.prog w=.ok (.string (Utf8.encode r)) w:=fun w=>run_convert_int_string w _ _ _ _ (by rw [Tryz.underlying21];rfl) Tryz.underlying9
      obtain⟨l,hl⟩: ∃ l,Utf8.encode r=Sep.S l:=⟨(Utf8.encode r).data.toList,rfl⟩
      rw [hl] at e1 e2 e3 hcv
      have e1:2≤l.length:=e1
      have e2:l.length≤4:=e2
      have e4: ∀ a c,l=[a,c]→128≤c.toNat:=fun a c h=>by subst h;exact e3 (show 1<2 by omega)
      clear e3 hl
      have hsz:(Sep.S [32,9]).size=2:=rfl
      by_cases h2:l.length=2
      · obtain⟨a,c,rfl⟩: ∃ a c,l=[a,c]:=by
          rcases l with _|⟨a,_|⟨c,_|_⟩⟩<;>simp_all
        have e4:=e4 a c rfl
        have hbs:(Sep.S [a,c]).size=2:=rfl
        have hs1: ∀ h:1<(Sep.S [32,9]).size,(Sep.S [32,9])[1]'h=9:=fun _=>rfl
        have hs2: ∀ h:1<(Sep.S [a,c]).size,(Sep.S [a,c])[1]'h=c:=fun _=>rfl
        have hc1:((9:Int) == (c.toNat:Int))=false:=beq_eq_false_iff_ne.2 (by omega)
        have hc2:((9:Int) != (c.toNat:Int))=true:=bne_iff_ne.2 (by omega)
        have hw2:IntKind.i64.wrap 2=2:=by rw [IntKind.wrap_i64];decide
        go_enter Tryz.func78,Tryz.ntmps78
        go_wp2_with (first|(go_at_call 92;refine(Y3 _ _).mono ?_;rintro e w' ⟨rfl,hw⟩;rw [hw,hv])|((with_reducible show wpList _ _ _ (⟨_,.convert _ _ _,_,_,_,_⟩::_) _ _);refine SC rfl (v:=.string (Sep.S [a,c])) (w':=w) (hcv w) ?_;simp only [Act.put,List.setIfInBounds_toArray,List.set_cons_succ,List.set_cons_zero]))
        refine wp_scope_straight ?_
        go_wp2_with (((with_reducible show wpList _ _ _ (⟨_,.convert _ _ _,_,_,_,_⟩::_) _ _);refine SC rfl (v:=.string (Sep.S [a,c])) (w':=w) (hcv w) ?_;simp only [Act.put,List.setIfInBounds_toArray,List.set_cons_succ,List.set_cons_zero]))
        go_loopg [9] 0 (fun g v9 wx=>wx=w∧v9=.int .i64 1)
        case atStart=>exact⟨rfl,rfl⟩
        case round=>
          obtain⟨rfl,rfl⟩:=hrel
          go_wp2
          refine wp_scope_straight ?_
          go_wp2
          go_quiet (fail)
          go_wp2
          have hB:Below wr.heap.size wr (wr.drewN nq):=⟨rfl,rfl,rfl,Nat.le_refl _,fun _ _=>rfl⟩
          generalize wr.drewN nq=w2 at hB ⊢
          go_quiet (first|(go_at_call 77;refine Calls.quiet_of_same (zj5 _ _)))
          go_wp2
          simp only [Exit.noGoto,Exit.inBlock,Exit.then]
          go_ret
          exact⟨rfl,hB.trans ⟨rfl,rfl,rfl,Nat.le_refl _,fun _ _=>rfl⟩⟩
      · have hlt:decide (((Sep.S l).size:Int) - 1<2)=false:=decide_eq_false (by show ¬ ((l.length:Int) - 1<2);omega)
        generalize hB:Sep.S l=B at *
        go_enter Tryz.func78,Tryz.ntmps78
        go_wp2_with (first|(go_at_call 92;refine(Y3 _ _).mono ?_;rintro e w' ⟨rfl,hw⟩;rw [hw,hv])|((with_reducible show wpList _ _ _ (⟨_,.convert _ _ _,_,_,_,_⟩::_) _ _);refine SC rfl (v:=.string B) (w':=w) (hcv w) ?_;simp only [Act.put,List.setIfInBounds_toArray,List.set_cons_succ,List.set_cons_zero]))
        refine wp_scope_straight ?_
        go_wp2_with (((with_reducible show wpList _ _ _ (⟨_,.convert _ _ _,_,_,_,_⟩::_) _ _);refine SC rfl (v:=.string B) (w':=w) (hcv w) ?_;simp only [Act.put,List.setIfInBounds_toArray,List.set_cons_succ,List.set_cons_zero]))
        go_loopg [9] 0 (fun g v9 wx=>wx=w∧v9=.int .i64 ((B.size:Int) - 1))
        case atStart=>exact⟨rfl,rfl⟩
        case round=>
          obtain⟨rfl,rfl⟩:=hrel
          go_wp2
          simp only [Exit.noGoto,Exit.inBlock,Exit.then]
          go_ret
          exact⟨rfl,Below.refl _ _⟩
theorem zje (n:Int) (w:World):Calls Tryz.prog 79 #[.int .i64 n] w fun e w'=>e=.returned (.bool (decide (8<n)))∧w'=w:=by
  go_enter Tryz.func79,Tryz.ntmps79
  go_wp2
  go_ret
  exact⟨rfl,rfl⟩
def rIx (r:Nat):Int:=if r<128 then Lib.indexByte [32,9] r.toUInt8 else -1
theorem zlm (r:Nat) (w:World) (h:r≤2147483647):Calls Tryz.prog 78 #[.string (Sep.S [32,9]),.int .i32 r] w fun e w'=>e=.returned (.int .i64 (rIx r))∧Below w.heap.size w w':=by
  unfold rIx
  by_cases h1:r<128
  · rw [if_pos h1]
    exact(Any.strings_IndexRune_ascii (ρ:=Tryz.lays150_ren) { Tryz.lays150 with} (Sep.S [32,9]) r w (by omega) (by omega)).mono fun e w' h=>⟨h.1,by rw [h.2];exact Below.refl _ _⟩
  · rw [if_neg h1]
    exact sixth r w (by omega) (by omega)
theorem zjn (s:ByteArray) (i:Nat) (hi:i<s.size) (hn:Lib.NoAny s.data.toList [32,9] i):(0≤rIx (Utf8.decode s i).1→Lib.indexAny s.data.toList [32,9]=i)∧(¬ 0≤rIx (Utf8.decode s i).1→Lib.NoAny s.data.toList [32,9] (i+(Utf8.decode s i).2))∧1≤(Utf8.decode s i).2:=by
  have hat: ∀ j (h:j<s.size),s.data.toList[j]? =some (s.get! j):=fun j h=>by
    rw [Lib.data_getElem? s j h]
    have:=get_at s j h
    rw [Nat.add_zero] at this
    rw [this]
  by_cases hx:(s.get! i).toNat<128
  · have hx2:(s[i]'hi).toNat<128:=by
      have:=get_at s i hi
      rw [Nat.add_zero] at this
      rw [← this];exact hx
    have hd:=decode_ascii s i hi hx2
    have he:s[i]'hi=s.get! i:=by
      have:=get_at s i hi
      rw [Nat.add_zero] at this
      exact this.symm
    rw [hd,he]
    have hback:(s.get! i).toNat.toUInt8=s.get! i:=by simp
    have hcon:=Lib.contains_iff_indexByte [32,9] (s.get! i)
    unfold rIx
    rw [if_pos hx,hback]
    refine⟨fun h=> ?_,fun h=> ?_,Nat.le_refl _⟩
    · exact Lib.indexAny_hit hn (hat i hi) (by rw [hcon];exact decide_eq_true h)
    · exact hn.succ (hat i hi) (by rw [hcon];exact decide_eq_false h)
  · have hw:=zbZ s i hi (by omega)
    have hx2:128≤(s[i]'hi).toNat:=by
      have:=get_at s i hi
      rw [Nat.add_zero] at this
      rw [← this];omega
    have hd:=decode_high s i hi hx2
    unfold rIx
    rw [if_neg (by omega)]
    refine⟨fun h=>absurd h (by decide),fun _=> ?_,hd.2⟩
    intro j b hj hb
    by_cases hji:j<i
    · exact hn j b hji hb
    · obtain⟨k1,k2⟩:=hw (j - i) (by omega)
      rw [show i+(j - i)=j by omega] at k1 k2
      rw [hat j k1] at hb
      cases hb
      have hn1:s.get! j≠32:=fun e=>by rw [e] at k2;exact absurd k2 (by decide)
      have hn2:s.get! j≠9:=fun e=>by rw [e] at k2;exact absurd k2 (by decide)
      simp [hn1,hn2]
theorem ziq (s:ByteArray) (w:World) (h8:s.size≤8):Calls Tryz.prog 61 #[.string s,.string (Sep.S [32,9])] w fun e w'=>e=.returned (.int .i64 (Lib.indexAny s.data.toList [32,9]))∧Below w.heap.size w w':=by
  have h8z:decide ((8:Int)<(s.size:Int))=false:=decide_eq_false (by omega)
  have hsz:(Sep.S [32,9]).size=2:=rfl
  have hemp:(Sep.S [32,9]).toList.isEmpty=false:=by rw [Lib.toList_data];rfl
  go_enter Tryz.func61,Tryz.ntmps61
  go_wp2_with (go_at_call 79;refine(zje _ _).mono ?_;rintro e w' ⟨rfl,hw⟩;rw [hw,h8z])
  go_loopg [9,10] s.size (fun g _ _ wx=>∃ i:Nat,s.size≤i+g∧wx.heap[w.heap.size]? =some (.stringIter s i)∧Below w.heap.size w wx∧Lib.NoAny s.data.toList [32,9] i)
  case atStart=>exact⟨0,by omega,World.iter_heap w s 0,(Below.refl _ w).alloc (Nat.le_refl _) _,Lib.NoAny.zero _ _⟩
  case round=>
    obtain⟨i,hig,hit,hbw,hno⟩:=hrel
    have HN:Aside (Lib.NoAny s.data.toList [32,9] i):=hno
    clear hno
    by_cases hi:i<s.size
    · obtain⟨g',rfl⟩: ∃ g',gk=g'+1:=⟨gk - 1,by omega⟩
      have hnx: ∀ ty,(Instr.next (.pointer (some ⟨w.heap.size,0,none⟩)) true ty).run Tryz.prog wr=_:=fun ty=>Lib.run_next_any_at wr w.heap.size s i ty hit hi
      obtain⟨k1,k2,k3⟩:=zjn s i hi HN.out
      have hR:=decode_le s i
      generalize hdk:Utf8.decode s i=D at *
      obtain⟨R,K⟩:=D
      simp only at hnx k1 k2 k3 hR
      have hit2:=Lib.iterAt_heap wr w.heap.size s i (i+K) hit
      have hbw2:=Lib.below_iterAt hbw (k:=w.heap.size) (Nat.le_refl _) s (i+K)
      obtain⟨W,hWd⟩: ∃ W,wr.iterAt w.heap.size s (i+K)=W:=⟨_,rfl⟩
      rw [hWd] at hnx hit2 hbw2
      have hltW:w.heap.size<W.heap.size:=(Array.getElem?_eq_some_iff.1 hit2).1
      have cS:=zlm R W hR
      clear hdk
      generalize rIx R=z at *
      by_cases hz:0≤z
      · have k1:=k1 hz
        clear k2
        go_wp2_with (go_at_call 78;refine cS.mono ?_;rintro e W' ⟨rfl,hbc⟩)
        go_ret
        exact⟨by rw [k1];rfl,hbw2.trans (hbc.mono hbw2.size)⟩
      · have k2:=k2 hz
        have K2:Aside (Lib.NoAny s.data.toList [32,9] (i+K)):=k2
        clear k1 k2
        go_wp2_with (go_at_call 78;refine cS.mono ?_;rintro e W' ⟨rfl,hbc⟩)
        go_roundg g'
        case measure=>omega
        case rel=>exact⟨i+K,by omega,(hbc.block _ hltW).trans hit2,hbw2.trans (hbc.mono hbw2.size),K2.out⟩
    · have hnx:=fun ty=>Lib.run_next_end_at (P:=Tryz.prog) wr w.heap.size s i ty hit hi
      have hn:Lib.indexAny s.data.toList [32,9]= -1:=Lib.indexAny_none fun j b hj hb=>HN.out j b (by rw [← Lib.size_eq] at hj;omega) hb
      go_wp2
      go_ret
      exact⟨by rw [hn];rfl,hbw⟩
theorem zkT (s:ByteArray) (w:World) (hs:s.size<4294967281) (hv: ∀ w,(zeroValue 107).run Tryz.prog w=.ok (.agg (Array.replicate 256 (.bool false))) w):Calls Tryz.prog 61 #[.string s,.string (Sep.S [32,9])] w fun e w'=>e=.returned (.int .i64 (Lib.indexAny s.data.toList [32,9]))∧Below w.heap.size w w':=by
  by_cases h8:s.size≤8
  · exact ziq s w h8
  · refine(Any.strings_IndexAny_long (ρ:=Tryz.lays150_ren) { Tryz.lays150 with} hv (by kernel_rfl) s (Sep.S [32,9]) w (by decide) (by omega) hs (by decide) (fun j b h=> ?_)).mono fun e w' ⟨h1,h2⟩=>⟨h1,?_⟩
    · have:b ∈ ([32,9]:List UInt8):=List.mem_of_getElem? h
      simp only [List.mem_cons,List.not_mem_nil,or_false] at this
      rcases this with rfl|rfl<;>decide
    · rw [h2]
      exact((Below.refl _ _).alloc (Nat.le_refl _) _).alloc (by simp) _
theorem zbb (s:ByteArray) (w:World) (hs:s.size<4294967281) (hv: ∀ w,(zeroValue 107).run Tryz.prog w=.ok (.agg (Array.replicate 256 (.bool false))) w):Calls Tryz.prog 34 #[.string s,.string (Sep.S [32,9])] w fun e w'=>e=.returned (.bool (Lib.containsAny s.data.toList [32,9]))∧Below w.heap.size w w':=by
  have c:=zkT s w hs hv
  go_enter Tryz.func34,Tryz.ntmps34
  go_wp2_with (go_at_call 61;refine c.mono ?_;rintro e w' ⟨rfl,hw⟩)
  go_ret
  exact⟨rfl,hw⟩
end Go.Proofs.YtmibhbdfigpkmaaGreatDoor
namespace Go.Proofs.YtmibhbdfigpkmaaGreatDoor
open Go Go.Sep Go.Ab
set_option maxRecDepth 100000
theorem zja (w:World):(zeroValue 107).run Tryz.prog w=.ok (.agg (Array.replicate 256 (.bool false))) w:=by
  kernel_rfl
theorem zba (s p:Str) (hneed:s.length≤1000000∧p=[32,9]):Spc Tryz.prog 34 [.v (.one (.p (.str s))),.v (.one (.p (.str p)))] [] (.ret (.v (.one (.p (.bool (Lib.containsAny s p)))))) []:=by
  obtain⟨g1,g3⟩:=hneed
  subst g3
  refine Spc.of_below ⟨_,Tryz.func34,by kernel_rfl,by kernel_rfl⟩ fun S bs w vs _ hM=> ?_
  obtain⟨v,r,rfl⟩: ∃ v r,vs=v::r:=by cases vs with|nil=>exact hM.elim|cons v r=>exact⟨v,r,rfl⟩
  obtain⟨h1,hM⟩:=hM
  obtain⟨v2,r2,rfl⟩: ∃ v r2,r=v::r2:=by cases r with|nil=>exact hM.elim|cons v r=>exact⟨v,r,rfl⟩
  obtain⟨h2,hM⟩:=hM
  obtain rfl:r2=[]:=by cases r2 with|nil=>rfl|cons v r=>exact hM.elim
  cases h1 with
  | str _ hl1=>
    cases h2 with
    | str _ hl2=>
      refine⟨.bool (Lib.containsAny s [32,9]),.bool _,(zbb (Sep.S s) w (by show s.length<_;omega) zja).mono fun e w' h=> ?_⟩
      exact⟨h.1,h.2⟩
def wF (I:Alg) (args:List D) (hp:List HO):Option CT:=match args,hp with
  |[.v (.one (.p (.str s))),.v (.one (.p (.str p)))],[]=>(fun(s p:Str)=>(some (.one ⟨I.hid (s.length≤1000000∧p=[32,9]),(.ret (.v (.one (.p (.bool (I.hid (Lib.containsAny s p))))))),[]⟩):Option CT)) s p
  |_,_=>none
theorem ZC:zD Tryz.prog 34 (wF alg):=by
  intro args hp r h
  unfold wF at h
  split at h
  · cases h;exact fun hn=>zba _ _ hn
  · cases h
def ZB:Know Tryz.prog:=⟨34,wF,ZC⟩
def ZA:Know Tryz.prog:=⟨34,fun I=>zH I (wF I),zf ZC⟩
def rqHd (m t:Str):Str:=m++[32]++t++[32,72,84,84,80,47,49,46,49]
def rqwC (m t:Str) (fs:List Fld) (b:Str):Int:=
  if yF m=false then 6
  else if Lib.hasPrefix t [47]=false then 5
  else if Lib.containsAny t [32,9]=true then 5
  else if xR t=false then 5
  else if 200<(rqHd m t).length then 4
  else if 4000<b.length then 4
  else if 15<fs.length then 8
  else if 0<(valsF fs wR).length+(valsF fs rW).length then 12
  else if(oneF (valsF fs wX)).2≠0 then 13
  else badF fs
def rqwT (m t:Str) (fs:List Fld) (b:Str):Str:=
  if rqwC m t fs b=0 then rqHd m t++[13,10]++wY fs++ze9 b.length++b else []
theorem zhR (m t:Str) (mi:Int) (fs:List Fld) (le:Int) (b:Str) (hneed:(m.length≤1000000∧t.length≤1000000)∧(fs.length≤1000∧∀ f ∈ fs,f.name.length≤1000000∧f.value.length≤1000000)∧b.length≤1000000):Spc Tryz.prog 14 [.v (.agg [(.p (.str m)),(.p (.str t)),(.p (.int .i64 mi)),(.p (.list .fld fs)),(.p (.int .i64 le))]),.v (.one (.p (.list .byte b)))] [] (.ret (.tup [(.one (.p (.list .byte ((rqwT m t fs b))))),(.one (.p (.int .i64 ((rqwC m t fs b)))))])) []:=by
  obtain⟨⟨hm1,ht1⟩,⟨hfl,hf⟩,hb⟩:=hneed
  generalize hc:rqwC m t fs b=c
  generalize ht:rqwT m t fs b=T
  have hbl:=Qm (b.length:Int)
  have hx0:=wG fs wR
  have hx1:=wG fs rW
  refine spcG zi mixed Tryz.func14 (by kernel_rfl) { rl:=[0],keep:=some [0,1,2,4,5,6,8,9,11,12,13,79,80,81]} [vw,vk,uh,ug,ze7,ze6,Ul,Uk,Qh,Qg,zgB,zgA,uq,uo,ZB,ZA] (by kernel_rfl) ?_
  intro I X hI hX
  refine zh (let y4:=([99,111,110,116,101,110,116,45,108,101,110,103,116,104]:Str);let y3:=([116,114,97,110,115,102,101,114,45,101,110,99,111,100,105,110,103]:Str);let y0:=I.add (I.len (α:=Str) (I.hid (α:=(List (Str))) (valsF fs y4))) (I.len (α:=Str) (I.hid (α:=(List (Str))) (valsF fs y3)));let y1:=([32,72,84,84,80,47,49,46,49]:Str);let y2:=I.len (α:=UInt8) (I.app (α:=UInt8) (I.app (α:=UInt8) (I.app (α:=UInt8) m ([32]:Str)) t) y1);let y5:=I.hid (α:=Int) (Prod.snd (oneF (valsF fs ([104,111,115,116]:Str))));.need (I.few (I.add (I.len (α:=UInt8) m) (I.len (α:=UInt8) ([32]:Str))) 1000000000) (.need (I.few (I.add (I.len (α:=UInt8) (I.app (α:=UInt8) m ([32]:Str))) (I.len (α:=UInt8) t)) 1000000000) (.need (I.few (I.add (I.len (α:=UInt8) (I.app (α:=UInt8) (I.app (α:=UInt8) m ([32]:Str)) t)) (I.len (α:=UInt8) y1)) 1000000000) (.need (I.hid (α:=(Prop)) (LE.le (List.length m) 1000000)) (.br (I.bnot (I.hid (α:=Bool) (yF m))) (.fin (.ret (.tup [(.one (.p (.list .byte ([]:Str)))),(.one (.p (.int .i64 6)))])) []) (.need (I.hid (α:=(Prop)) True) (.br (I.bnot (I.hid (α:=Bool) (Go.Lib.hasPrefix t ([47]:Str)))) (.fin (.ret (.tup [(.one (.p (.list .byte ([]:Str)))),(.one (.p (.int .i64 5)))])) []) (.need (I.hid (α:=(Prop)) (And (LE.le (List.length t) 1000000) (Eq ([32,9]:Str) ([32,9]:Str)))) (.br (I.hid (α:=Bool) (Go.Lib.containsAny t ([32,9]:Str))) (.fin (.ret (.tup [(.one (.p (.list .byte ([]:Str)))),(.one (.p (.int .i64 5)))])) []) (.need (I.hid (α:=(Prop)) (LE.le (List.length t) 1000000)) (.br (I.bnot (I.hid (α:=Bool) (xR t))) (.fin (.ret (.tup [(.one (.p (.list .byte ([]:Str)))),(.one (.p (.int .i64 5)))])) []) (.br (I.ilt 200 y2) (.fin (.ret (.tup [(.one (.p (.list .byte ([]:Str)))),(.one (.p (.int .i64 4)))])) []) (.br (I.ilt 4000 (I.len (α:=UInt8) b)) (.fin (.ret (.tup [(.one (.p (.list .byte ([]:Str)))),(.one (.p (.int .i64 4)))])) []) (.br (I.ilt 15 (I.len (α:=Fld) fs)) (.fin (.ret (.tup [(.one (.p (.list .byte ([]:Str)))),(.one (.p (.int .i64 8)))])) []) (.need (I.hid (α:=(Prop)) (And (LE.le (List.length fs) 1000) (And (LE.le (List.length y4) 1000000) (∀ (f:Fld),f ∈ fs→List.length f.name≤1000000∧List.length f.value≤1000000)))) (.need (I.hid (α:=(Prop)) (And (LE.le (List.length fs) 1000) (And (LE.le (List.length y3) 1000000) (∀ (f:Fld),f ∈ fs→List.length f.name≤1000000∧List.length f.value≤1000000)))) (.need (I.inr Go.IntKind.i64 y0) (.br (I.ilt 0 y0) (.fin (.ret (.tup [(.one (.p (.list .byte ([]:Str)))),(.one (.p (.int .i64 12)))])) []) (.need (I.hid (α:=(Prop)) (And (LE.le (List.length fs) 1000) (And (LE.le (List.length ([104,111,115,116]:Str)) 1000000) (∀ (f:Fld),f ∈ fs→List.length f.name≤1000000∧List.length f.value≤1000000)))) (.br (I.bnot (I.ieq y5 0)) (.fin (.ret (.tup [(.one (.p (.list .byte ([]:Str)))),(.one (.p (.int .i64 13)))])) []) (.need (I.few (I.add y2 (I.len (α:=UInt8) ([13,10]:Str))) 1000000000) (.code 0 [1,1,1,1,1,0,1,0] ⟨[(81,(.v (.one (.p (.int .i64 0))))),(80,(.v (.one (.p (.int .i64 (I.len (α:=Fld) fs)))))),(79,(.v (.one (.p (.list .fld fs))))),(9,(.v (.one (.row 3)))),(8,(.v (.one (.p (.int .i64 y5))))),(6,(.v (.one (.p (.str (I.app (α:=UInt8) (I.app (α:=UInt8) (I.app (α:=UInt8) m ([32]:Str)) t) y1)))))),(5,(.v (.one (.p (.int .i64 0))))),(4,(.v (.one .nilS))),(2,(.v (.one (.ptr 0 0)))),(0,(.v (.agg [(.p (.str m)),(.p (.str t)),(.p (.int .i64 mi)),(.p (.list .fld fs)),(.p (.int .i64 le))]))),(1,(.v (.one (.p (.list .byte b)))))],[(.obj 25 [(.p (.str m)),(.p (.str t)),(.p (.int .i64 mi)),(.p (.list .fld fs)),(.p (.int .i64 le))]),(.row .str 9 (I.hid (α:=(List (Str))) (valsF fs y4))),(.row .str 9 (I.hid (α:=(List (Str))) (valsF fs y3))),(.row .byte 5 (I.app (α:=UInt8) (I.app (α:=UInt8) (I.app (α:=UInt8) (I.app (α:=UInt8) m ([32]:Str)) t) y1) ([13,10]:Str)))],108,none⟩)))))))))))))))))))))) (by kernel_rfl) ?_
  simp only [zy]
  rw [show([99,111,110,116,101,110,116,45,108,101,110,103,116,104]:Str)=wR from rfl,show([116,114,97,110,115,102,101,114,45,101,110,99,111,100,105,110,103]:Str)=rW from rfl,show([104,111,115,116]:Str)=wX from rfl]
  have hk1:wR.length≤1000000:=by decide
  have hk2:rW.length≤1000000:=by decide
  have hk3:wX.length≤1000000:=by decide
  (repeat' (first|refine And.intro ?_ ?_|intro _))
  all_goals try(subst hI;(simp only [nrmA,nrmB,nrlB,reduceCtorEq] at *);first|done|trivial|omega|exact⟨ht1,rfl⟩|exact⟨hfl,by assumption,hf⟩|(simp only [List.length_append,List.length_cons,List.length_nil];omega)|(unfold rqwT at ht;unfold rqwC rqHd at ht hc;((repeat(first|rewrite [if_pos (by first|omega|assumption|(simp only [*,or_self,or_true,true_or,or_false,false_or,not_true_eq_false,not_false_eq_true,Bool.false_eq_true,Bool.true_eq_false,and_self,and_true,true_and];done)|(simp only [*];omega)|(simp [*];done)|(simp [*];omega))] at hc|rewrite [if_neg (by first|omega|assumption|(simp only [*,or_self,or_true,true_or,or_false,false_or,not_true_eq_false,not_false_eq_true,Bool.false_eq_true,Bool.true_eq_false,and_self,and_true,true_and];done)|(simp only [*];omega)|(simp [*];done)|(simp [*];omega))] at hc)));subst hc;((repeat(first|rewrite [if_pos (by first|omega|assumption|(simp only [*,or_self,or_true,true_or,or_false,false_or,not_true_eq_false,not_false_eq_true,Bool.false_eq_true,Bool.true_eq_false,and_self,and_true,true_and];done)|(simp only [*];omega)|(simp [*];done)|(simp [*];omega))] at ht|rewrite [if_neg (by first|omega|assumption|(simp only [*,or_self,or_true,true_or,or_false,false_or,not_true_eq_false,not_false_eq_true,Bool.false_eq_true,Bool.true_eq_false,and_self,and_true,true_and];done)|(simp only [*];omega)|(simp [*];done)|(simp [*];omega))] at ht)));subst ht;exact⟨rfl,rfl⟩))
  have hok:yF m=true∧Lib.hasPrefix t [47]=true∧Lib.containsAny t [32,9]=false∧xR t=true∧(rqHd m t).length≤200∧b.length≤4000∧fs.length≤15∧(valsF fs wR).length+(valsF fs rW).length=0∧(oneF (valsF fs wX)).2=0:=by
    subst hI
    unfold rqHd
    simp only [nrmA,nrmB,nrlB,reduceCtorEq] at *
    exact⟨by simpa using ‹yF m=_›,by simpa using ‹Lib.hasPrefix t [47]=_›,by simpa using ‹Lib.containsAny t [32,9]=_›,by simpa using ‹xR t=_›,by omega,by omega,by omega,by omega,by assumption⟩
  obtain⟨k1,k2,k3,k4,k5,k6,k7,k8,k9⟩:=hok
  have hc2:c=badF fs:=by
    rw [← hc,rqwC,if_neg (by rw [k1];simp),if_neg (by rw [k2];simp),if_neg (by rw [k3];simp),if_neg (by rw [k4];simp),if_neg (by omega),if_neg (by omega),if_neg (by omega),if_neg (by omega),if_neg (fun h=>h k9)]
  have ht2:badF fs=0→T=rqHd m t++[13,10]++wY fs++ze9 b.length++b:=fun h=>by
    rw [← ht,rqwT,hc,hc2,if_pos h]
  have ht3:badF fs≠0→T=[]:=fun h=>by rw [← ht,rqwT,hc,hc2,if_neg h]
  refine zG hI zi mixed [vw,vk,uh,ug,ze7,ze6,Ul,Uk,Qh,Qg,zgB,zgA,uq,uo,ZB,ZA] hX [1,2,5,9,79,80,81] (fun(g:Nat × Str)=>match g with|(i,o)=>i≤fs.length∧o=rqHd m t++[13,10]++wY (fs.take i)∧badF fs=badF (fs.drop i)) (fun(g:Nat × Str)=>match g with|(i,o)=>⟨[(1,.v (.one (.p (.list .byte b)))),(2,.v (.one (.ptr 0 0))),(5,.v (.one (.p (.int .i64 0)))),(9,.v (.one (.row 1))),(79,.v (.one (.p (.list .fld fs)))),(80,.v (.one (.p (.int .i64 ((I.len (α:=Fld) fs)))))),(81,.v (.one (.p (.int .i64 i))))],[.pack [.obj 25 [(.p (.str m)),(.p (.str t)),(.p (.int .i64 mi)),(.p (.list .fld fs)),(.p (.int .i64 le))]],.row .byte 5 o],108,none⟩) (fun(g:Nat × Str)=>match g with|(i,o)=>fs.length - i) (0,I.app (I.app (I.app (I.app m [32]) t) [32,72,84,84,80,47,49,46,49]) [13,10]) (by kernel_rfl) (by kernel_rfl) ?_ ?_
  · refine⟨Nat.zero_le _,?_,rfl⟩
    subst hI
    simp only [qB,UA,rqHd,List.take_zero,wY,List.append_nil]
  rintro⟨i,o⟩ ⟨h1,h2,h3⟩ A hA
  simp only at hA h1 h2 h3
  refine zh (let y0:=I.get (α:=Fld) fs (Fld.mk ([]:Str) ([]:Str)) (Nat.cast i);let y1:=([67,111,110,116,101,110,116,45,76,101,110,103,116,104,58,32]:Str);let y2:=I.hid (α:=Str) (decS (I.len (α:=UInt8) b));let y3:=I.hid (α:=Str) (Prod.fst (textF (Fld.mk (Fld.name y0) (Fld.value y0))));let y4:=I.hid (α:=Int) (Prod.snd (textF (Fld.mk (Fld.name y0) (Fld.value y0))));let y5:=I.inb (Nat.cast i) (I.len (α:=Fld) fs);.br (I.ilt (Nat.cast i) (I.len (α:=Fld) fs)) (.need y5 (.need y5 (.need (I.hid (α:=(Prop)) (And (LE.le (List.length (Fld.name y0)) 1000000) (LE.le (List.length (Fld.value y0)) 1000000))) (.br (I.bnot (I.ieq y4 0)) (.fin (.ret (.tup [(.one (.p (.list .byte ([]:Str)))),(.one (.p (.int .i64 y4)))])) []) (.need (I.few (I.add (I.len (α:=UInt8) y3) (I.len (α:=UInt8) ([13,10]:Str))) 1000000000) (.need (I.few (I.add (I.len (α:=UInt8) o) (I.len (α:=UInt8) (I.app (α:=UInt8) y3 ([13,10]:Str)))) 140737488355328) (.need (I.inr Go.IntKind.i64 (I.add (Nat.cast i) 1)) (.need (A ⟨[(1,(.v (.one (.p (.list .byte b))))),(2,(.v (.one (.ptr 0 0)))),(5,(.v (.one (.p (.int .i64 0))))),(9,(.v (.one (.row 1)))),(79,(.v (.one (.p (.list .fld fs))))),(80,(.v (.one (.p (.int .i64 (I.len (α:=Fld) fs)))))),(81,(.v (.one (.p (.int .i64 (I.add (Nat.cast i) 1))))))],[(.pack [(.obj 25 [(.p (.str m)),(.p (.str t)),(.p (.int .i64 mi)),(.p (.list .fld fs)),(.p (.int .i64 le))])]),(.row .byte 5 (I.app (α:=UInt8) o (I.app (α:=UInt8) y3 ([13,10]:Str))))],108,none⟩) .qed)))))))) (.need (I.hid (α:=(Prop)) (And (LE.le (0:Int) (I.len (α:=UInt8) b)) (LT.lt (I.len (α:=UInt8) b) (1000000000:Int)))) (.need (I.few (I.add (I.len (α:=UInt8) y1) (I.len (α:=UInt8) y2)) 1000000000) (.need (I.few (I.add (I.len (α:=UInt8) (I.app (α:=UInt8) y1 y2)) (I.len (α:=UInt8) ([13,10,13,10]:Str))) 1000000000) (.need (I.few (I.add (I.len (α:=UInt8) o) (I.len (α:=UInt8) (I.app (α:=UInt8) (I.app (α:=UInt8) y1 y2) ([13,10,13,10]:Str)))) 140737488355328) (.need (I.few (I.add (I.len (α:=UInt8) (I.app (α:=UInt8) o (I.app (α:=UInt8) (I.app (α:=UInt8) y1 y2) ([13,10,13,10]:Str)))) (I.len (α:=UInt8) b)) 140737488355328) (.fin (.ret (.tup [(.one (.p (.list .byte (I.app (α:=UInt8) (I.app (α:=UInt8) o (I.app (α:=UInt8) (I.app (α:=UInt8) y1 y2) ([13,10,13,10]:Str))) b)))),(.one (.p (.int .i64 0)))])) []))))))) (by kernel_rfl) ?_
  simp only [zy]
  subst hI
  simp only [nrmA,nrmB,nrlB,reduceCtorEq]
  have hx:i<fs.length→(fs.getD i ⟨[],[]⟩) ∈ fs:=fun h=>by rw [show fs.getD i ⟨[],[]⟩=fs[i] by simp [h]];exact List.getElem_mem h
  have hd:i<fs.length→_:=fun h=>zbm (fs:=fs) (i:=i) h
  have hk:i<fs.length→_:=fun h=>TS (fs:=fs) (i:=i) h
  have hol:(wY (fs.take i)).length≤202 * 16:=by
    have:=Ug (fs.take i)
    rw [List.length_take] at this
    omega
  have hol2:o.length≤4000:=by rw [h2,List.length_append,List.length_append,List.length_cons,List.length_cons,List.length_nil];omega
  have hend: ¬ i<fs.length→badF fs=0∧wY (fs.take i)=wY fs:=fun h=>by
    rw [h3,List.drop_of_length_le (by omega),List.take_of_length_le (by omega)];exact⟨rfl,rfl⟩
  have hfi:=fun h=>hf _ (hx h)
  have htl:=fun f=>Ve f
  generalize fs.getD i ⟨[],[]⟩=x at *
  have e0:(⟨x.name,x.value⟩:Fld)=x:=rfl
  rw [e0]
  have htl:=htl x
  refine⟨fun c1=>⟨⟨by omega,by omega⟩,⟨by omega,by omega⟩,hfi (by omega),fun c2=> ?_,fun c2=>⟨?_,?_,by omega,?_⟩⟩,fun c1=> ?_⟩
  · have hd:=hd (by omega)
    rw [if_neg c2] at hd
    exact⟨(ht3 (by rw [h3,hd];exact c2)).symm,by rw [hc2,h3,hd]⟩
  · simp only [List.length_cons,List.length_nil];omega
  · simp only [List.length_append,List.length_cons,List.length_nil];omega
  · have hd:=hd (by omega)
    rw [if_pos c2] at hd
    exact hA (i+1,o++((textF x).1++[13,10])) ⟨by simp only;omega,by simp only;rw [hk (by omega),h2];simp only [List.append_assoc],by simp only;rw [h3,hd]⟩ (by simp only;omega)
  · obtain⟨e1,e2⟩:=hend (by omega)
    simp only [List.length_append,List.length_cons,List.length_nil]
    refine⟨by omega,by omega,by omega,by omega,by omega,?_,by rw [hc2,e1]⟩
    rw [ht2 e1,h2,e2]
    unfold ze9
    simp only [List.append_assoc]
def qL (I:Alg) (args:List D) (hp:List HO):Option CT:=match args,hp with
  |[.v (.agg [(.p (.str m)),(.p (.str t)),(.p (.int .i64 mi)),(.p (.list .fld fs)),(.p (.int .i64 le))]),.v (.one (.p (.list .byte b)))],[]=>(fun(m t:Str) (mi:Int) (fs:List Fld) (le:Int) (b:Str)=>(some (.one ⟨I.hid ((m.length≤1000000∧t.length≤1000000)∧(fs.length≤1000∧∀ f ∈ fs,f.name.length≤1000000∧f.value.length≤1000000)∧b.length≤1000000),(.ret (.tup [(.one (.p (.list .byte (I.hid ((rqwT m t fs b)))))),(.one (.p (.int .i64 (I.hid ((rqwC m t fs b))))))])),[]⟩):Option CT)) m t mi fs le b
  |_,_=>none
theorem UU:zD Tryz.prog 14 (qL alg):=by
  intro args hp r h
  unfold qL at h
  split at h
  · cases h;exact fun hn=>zhR _ _ _ _ _ _ hn
  · cases h
def Y8:Know Tryz.prog:=⟨14,qL,UU⟩
def Y7:Know Tryz.prog:=⟨14,fun I=>zH I (qL I),zf UU⟩
end Go.Proofs.YtmibhbdfigpkmaaGreatDoor
namespace Go.Proofs.YtmibhbdfigpkmaaGreatDoor
open Go Go.Sep Go.Ab
set_option maxRecDepth 100000
def K2 (e:Evt):Prop:=e.kind=2
theorem zeD: ∀ (l:List Evt) (e:Evt),∃ z x,zF (l++[e])=z++[x]∧(x.kind=2↔e.kind=2):=by
  intro l e
  rw [Zf]
  rcases List.eq_nil_or_concat (zF l) with h|⟨z,x,h⟩
  · rw [h];exact⟨[],e,rfl,Iff.rfl⟩
  · rw [h,List.concat_eq_append,yR]
    split
    · rename_i k;exact⟨z,_,rfl,by simp [evB,k.1]⟩
    · exact⟨z++[x],e,rfl,Iff.rfl⟩
theorem zie (l:List Evt) (hneed:zN l≤1000000∧l.length≤1000000):Spc Tryz.prog 18 [.v (.one (.p (.list .evt l)))] [] (.ret (.v (.one (.row 0)))) [.row .evt 32 ((zF l))]:=by
  obtain⟨hn1,hn2⟩:=hneed
  refine spcG zi mixed Tryz.func18 (by kernel_rfl) { nr:=[3,5],keep:=some [0,2,3,4,5,6]} [] (by kernel_rfl) ?_
  intro I X hI hX
  refine zh (.code 0 [1,1,0,1,0] ⟨[(4,(.v (.one (.p (.int .i64 0))))),(3,(.v (.one (.row 0)))),(2,(.v (.one .nilS))),(0,(.v (.one (.p (.list .evt l)))))],[(.row .evt 32 ([]:List Go.Ab.Evt))],60,none⟩) (by kernel_rfl) ?_
  simp only [zy]
  refine zG hI zi mixed [] hX [0,3,4] (fun(g:Nat × List Evt)=>match g with|(i,o)=>i≤l.length∧o=zF (l.take i)) (fun(g:Nat × List Evt)=>match g with|(i,o)=>⟨[(0,.v (.one (.p (.list .evt l)))),(3,.v (.one (.row 0))),(4,.v (.one (.p (.int .i64 i))))],[.row .evt 32 o],60,none⟩) (fun(g:Nat × List Evt)=>match g with|(i,o)=>l.length - i) (0,[]) (by kernel_rfl) (by kernel_rfl) ?_ ?_
  · exact⟨Nat.zero_le _,rfl⟩
  rintro⟨i,o⟩ ⟨h1,h2⟩ A hA
  simp only at hA h1 h2
  refine zh (let y0:=I.get (α:=Go.Ab.Evt) l (Go.Ab.Evt.mk (0:Int) (Hd.mk ([]:Str) ([]:Str) (0:Int) ([]:List Fld) (0:Int)) ([]:Str) (Go.Ab.Prt.mk ([]:Str) ([]:Str) ([]:Str) ([]:Str)) (0:Int)) (Nat.cast i);let y1:=I.few (I.add (I.len (α:=Go.Ab.Evt) o) (I.len (α:=Go.Ab.Evt) ([(Go.Ab.Evt.mk (Go.Ab.Evt.kind y0) (Hd.mk (Hd.method (Go.Ab.Evt.head y0)) (Hd.target (Go.Ab.Evt.head y0)) (Hd.minor (Go.Ab.Evt.head y0)) (Hd.fields (Go.Ab.Evt.head y0)) (Hd.length (Go.Ab.Evt.head y0))) (Go.Ab.Evt.bytes y0) (Go.Ab.Prt.mk (Go.Ab.Prt.name (Go.Ab.Evt.part y0)) (Go.Ab.Prt.file (Go.Ab.Evt.part y0)) (Go.Ab.Prt.type (Go.Ab.Evt.part y0)) (Go.Ab.Prt.bytes (Go.Ab.Evt.part y0))) (Go.Ab.Evt.code y0))]:List Go.Ab.Evt))) 100000000;let y2:HO:=.row .evt 32 (I.app (α:=Go.Ab.Evt) o ([(Go.Ab.Evt.mk (Go.Ab.Evt.kind y0) (Hd.mk (Hd.method (Go.Ab.Evt.head y0)) (Hd.target (Go.Ab.Evt.head y0)) (Hd.minor (Go.Ab.Evt.head y0)) (Hd.fields (Go.Ab.Evt.head y0)) (Hd.length (Go.Ab.Evt.head y0))) (Go.Ab.Evt.bytes y0) (Go.Ab.Prt.mk (Go.Ab.Prt.name (Go.Ab.Evt.part y0)) (Go.Ab.Prt.file (Go.Ab.Evt.part y0)) (Go.Ab.Prt.type (Go.Ab.Evt.part y0)) (Go.Ab.Prt.bytes (Go.Ab.Evt.part y0))) (Go.Ab.Evt.code y0))]:List Go.Ab.Evt));let y8:=I.sub (I.len (α:=Go.Ab.Evt) o) 1;let y3:=I.get (α:=Go.Ab.Evt) o (Go.Ab.Evt.mk (0:Int) (Hd.mk ([]:Str) ([]:Str) (0:Int) ([]:List Fld) (0:Int)) ([]:Str) (Go.Ab.Prt.mk ([]:Str) ([]:Str) ([]:Str) ([]:Str)) (0:Int)) y8;let y4:=I.inb (Nat.cast i) (I.len (α:=Go.Ab.Evt) l);let y5:=I.inb y8 (I.len (α:=Go.Ab.Evt) o);let y6:=I.inr Go.IntKind.i64 (I.add (Nat.cast i) 1);let y7:=I.inb (I.sub (Nat.cast i) 1) (I.len (α:=Go.Ab.Evt) l);.br (I.ilt (Nat.cast i) (I.len (α:=Go.Ab.Evt) l)) (.br (I.ilt 0 (Nat.cast i)) (.need y4 (.need y4 (.br (I.ieq (Go.Ab.Evt.kind y0) 2) (.need (I.inr Go.IntKind.i64 (I.sub (Nat.cast i) 1)) (.need y7 (.need y7 (.br (I.ieq (Go.Ab.Evt.kind (I.get (α:=Go.Ab.Evt) l (Go.Ab.Evt.mk (0:Int) (Hd.mk ([]:Str) ([]:Str) (0:Int) ([]:List Fld) (0:Int)) ([]:Str) (Go.Ab.Prt.mk ([]:Str) ([]:Str) ([]:Str) ([]:Str)) (0:Int)) (I.sub (Nat.cast i) 1))) 2) (.need (I.inr Go.IntKind.i64 y8) (.need y5 (.need y4 (.need y4 (.need y5 (.need (I.few (I.add (I.len (α:=UInt8) ([]:Str)) (I.len (α:=UInt8) (Go.Ab.Evt.bytes y3))) 140737488355328) (.need (I.few (I.add (I.len (α:=UInt8) (I.app (α:=UInt8) ([]:Str) (Go.Ab.Evt.bytes y3))) (I.len (α:=UInt8) (Go.Ab.Evt.bytes y0))) 140737488355328) (.need y5 (.need y5 (.need y6 (.need (A ⟨[(0,(.v (.one (.p (.list .evt l))))),(3,(.v (.one (.row 0)))),(4,(.v (.one (.p (.int .i64 (I.add (Nat.cast i) 1))))))],[(.row .evt 32 (I.set (α:=Go.Ab.Evt) o y8 (Go.Ab.Evt.mk (2:Int) (Hd.mk ([]:Str) ([]:Str) (0:Int) ([]:List Fld) (0:Int)) (I.app (α:=UInt8) (I.app (α:=UInt8) ([]:Str) (Go.Ab.Evt.bytes y3)) (Go.Ab.Evt.bytes y0)) (Go.Ab.Prt.mk ([]:Str) ([]:Str) ([]:Str) ([]:Str)) (0:Int))))],60,none⟩) .qed))))))))))) (.need y4 (.need y4 (.need y1 (.need y6 (.need (A ⟨[(0,(.v (.one (.p (.list .evt l))))),(3,(.v (.one (.row 0)))),(4,(.v (.one (.p (.int .i64 (I.add (Nat.cast i) 1))))))],[y2],60,none⟩) .qed))))))))) (.need y4 (.need y4 (.need y1 (.need y6 (.need (A ⟨[(0,(.v (.one (.p (.list .evt l))))),(3,(.v (.one (.row 0)))),(4,(.v (.one (.p (.int .i64 (I.add (Nat.cast i) 1))))))],[y2],60,none⟩) .qed)))))))) (.need y4 (.need y4 (.need y1 (.need y6 (.need (A ⟨[(0,(.v (.one (.p (.list .evt l))))),(3,(.v (.one (.row 0)))),(4,(.v (.one (.p (.int .i64 (I.add (Nat.cast i) 1))))))],[y2],60,none⟩) .qed)))))) (.fin (.ret (.v (.one (.row 0)))) [(.row .evt 32 o)])) (by kernel_rfl) ?_
  simp only [zy]
  subst hI
  simp only [nrmA,nrmB,nrlB,reduceCtorEq]
  have hl1:=ql (l.take i)
  have hl2:(l.take i).length≤i:=by rw [List.length_take];omega
  have hl3:=V6 (l.take i)
  have hl4: ∀ x ∈ zF (l.take i),x.bytes.length≤1000000:=fun x h=>by
    have a:=tK h
    have b:=Xm l i
    omega
  rcases Nat.lt_or_ge i l.length with hlt|hlt
  rotate_left
  · rw [List.take_of_length_le (by omega)] at h2
    clear hA
    (repeat' (first|refine And.intro ?_ ?_|intro _))<;>first|omega|exact True.intro|exact False.elim ‹False›|skip
    all_goals first|omega|exact h2|trace_state
  have hy:zF (l.take (i+1))=vT o (l.getD i ⟨0,⟨[],[],0,[],0⟩,[],⟨[],[],[],[]⟩,0⟩):=by rw [List.take_succ_eq_append_getElem hlt,Zf,h2];simp [hlt]
  have hl5:(l.getD i ⟨0,⟨[],[],0,[],0⟩,[],⟨[],[],[],[]⟩,0⟩).bytes.length≤1000000:=by
    have:l.getD i ⟨0,⟨[],[],0,[],0⟩,[],⟨[],[],[],[]⟩,0⟩ ∈ l:=by simp [hlt]
    have:=tK this
    omega
  rw [← h2] at hl1 hl4
  rcases Nat.eq_zero_or_pos i with h0|h0
  · subst h0
    have ho:o=[]:=h2
    subst ho
    rw [tJ] at hy
    generalize l.getD 0 ⟨0,⟨[],[],0,[],0⟩,[],⟨[],[],[],[]⟩,0⟩=e at *
    have hg:=hA (1,[e]) ⟨by simp only;omega,hy.symm⟩ (by simp only;omega)
    clear hA
    simp only [List.length_cons,List.length_nil]
    (repeat' (first|refine And.intro ?_ ?_|intro _))<;>first|omega|exact True.intro|exact False.elim ‹False›|skip
    all_goals first|omega|exact hg|trace_state
  · obtain⟨z,x,ho,hk⟩:=zeD (l.take (i - 1)) (l.getD (i - 1) ⟨0,⟨[],[],0,[],0⟩,[],⟨[],[],[],[]⟩,0⟩)
    rw [show l.take (i - 1)++[l.getD (i - 1) ⟨0,⟨[],[],0,[],0⟩,[],⟨[],[],[],[]⟩,0⟩]=l.take i by
      have hi1:i - 1<l.length:=by omega
      have:=List.take_succ_eq_append_getElem hi1
      rw [show i - 1+1=i by omega] at this
      rw [this];simp [hi1],← h2] at ho
    subst ho
    have hx:=hl4 x (List.mem_append_right _ (List.mem_singleton.2 rfl))
    have hz:(((z++[x]).length:Int) - 1).toNat=z.length:=by rw [List.length_append,List.length_singleton];omega
    have hg: ∀ d,(z++[x]).getD z.length d=x:=fun d=>by simp
    have hs: ∀ d,(z++[x]).set z.length d=z++[d]:=fun d=>by simp
    have hi1:((i:Int) - 1).toNat=i - 1:=by omega
    rw [yR] at hy
    rw [List.length_append,List.length_singleton] at hl1
    simp only [hz,hg,hs,hi1]
    simp only [List.length_append,List.length_cons,List.length_nil]
    generalize l.getD i ⟨0,⟨[],[],0,[],0⟩,[],⟨[],[],[],[]⟩,0⟩=e at *
    generalize l.getD (i - 1) ⟨0,⟨[],[],0,[],0⟩,[],⟨[],[],[],[]⟩,0⟩=p at *
    have hgo: ∀ r:List Evt,zF (l.take (i+1))=r→_:=fun r h=>hA (i+1,r) ⟨by simp only;omega,h.symm⟩ (by simp only;omega)
    clear hz hg hs hi1 hA h2
    (repeat' (first|refine And.intro ?_ ?_|intro _))<;>first|omega|exact True.intro|exact False.elim ‹False›|skip
    all_goals first
      |omega
      |(rw [if_pos ⟨‹e.kind=2›,hk.2 ‹p.kind=2›⟩] at hy;exact hgo _ hy)
      |(rw [if_neg (fun h=>‹¬ e.kind=2› h.1)] at hy;exact hgo _ hy)
      |(rw [if_neg (fun h=>‹¬ p.kind=2› (hk.1 h.2))] at hy;exact hgo _ hy)
def Za (I:Alg) (args:List D) (hp:List HO):Option CT:=match args,hp with
  |[.v (.one (.p (.list .evt l)))],[]=>(fun(l:List Evt)=>(some (.one ⟨I.hid (zN l≤1000000∧l.length≤1000000),(.ret (.v (.one (.row 0)))),[.row .evt 32 (I.hid ((zF l)))]⟩):Option CT)) l
  |_,_=>none
theorem Tj:zD Tryz.prog 18 (Za alg):=by
  intro args hp r h
  unfold Za at h
  split at h
  · cases h;exact fun hn=>zie _ hn
  · cases h
def Ti:Know Tryz.prog:=⟨18,Za,Tj⟩
def Tf:Know Tryz.prog:=⟨18,fun I=>zH I (Za I),zf Tj⟩
theorem zlo (t:Str):Lib.hasPrefix t [47]=true↔t.length≠0∧((t.getD 0 0).toNat:Int)=47:=by
  unfold Lib.hasPrefix
  cases t with
  |nil=>simp
  | cons c r=>
    simp only [List.isPrefixOf,Bool.and_true,beq_iff_eq,List.length_cons,List.getD_cons_zero]
    exact⟨fun h=>⟨by omega,by rw [← h];rfl⟩,fun h=>(UInt8.toNat_inj.1 (by rw [show(47:UInt8).toNat=47 from rfl];omega))⟩
theorem any2 (t:Str):Lib.containsAny t [32,9]=true↔0≤yj [32] t 0∨0≤yj [9] t 0:=by
  have h1: ∀ c:UInt8,0≤yj [c] t 0↔t.contains c=true:=fun c=>by
    rw [vz,Lib.contains_iff_indexByte,decide_eq_true_iff]
    have:=yN t c
    split<;>omega
  rw [h1,h1]
  unfold Lib.containsAny
  rw [decide_eq_true_iff]
  induction t with
  |nil=>simp [Lib.indexAny]
  | cons c r ih=>
    have hge:=Lib.indexAny_ge [32,9] r
    have ih:=ih (fun c=>by
      rw [vz,Lib.contains_iff_indexByte,decide_eq_true_iff]
      have:=yN r c
      split<;>omega)
    unfold Lib.indexAny
    by_cases hc:([32,9]:Str).contains c=true
    · rw [if_pos hc]
      simp only [List.contains_cons,List.contains_nil,Bool.or_false,Bool.or_eq_true,beq_iff_eq] at hc ⊢
      exact⟨fun _=>by rcases hc with h|h<;>simp [h],fun _=>by decide⟩
    · rw [if_neg hc]
      have h2: ¬ (32:UInt8)=c∧¬ (9:UInt8)=c:=by
        simp only [List.contains_cons,List.contains_nil,Bool.or_false,Bool.or_eq_true,beq_iff_eq,not_or] at hc
        exact⟨fun h=>hc.1 h.symm,fun h=>hc.2 h.symm⟩
      have h3:(c::r).contains 32=r.contains 32:=by simp [h2.1]
      have h4:(c::r).contains 9=r.contains 9:=by simp [h2.2]
      rw [h3,h4]
      refine Iff.trans ?_ ih
      by_cases hm:Lib.indexAny r [32,9]= -1
      · rw [if_pos (by rw [hm];rfl),hm]
      · rw [if_neg (by simpa using hm)]
        omega
set_option maxHeartbeats 4000000 in
theorem zkC (m t:Str) (mi:Int) (fs:List Fld) (le:Int) (b:Str) (hneed:(m.length≤1000000∧t.length≤1000000)∧(fs.length≤1000∧∀ f ∈ fs,f.name.length≤1000000∧f.value.length≤1000000)∧b.length≤1000000):Spc Tryz.prog 15 [.v (.agg [(.p (.str m)),(.p (.str t)),(.p (.int .i64 mi)),(.p (.list .fld fs)),(.p (.int .i64 le))]),.v (.one (.p (.list .byte b)))] [] (.ret (.tup [(.one (.p (.list .byte ((rqwT m t fs b))))),(.one (.p (.int .i64 ((rqwC m t fs b)))))])) []:=by
  obtain⟨⟨hm1,ht1⟩,⟨hfl,hf⟩,hb⟩:=hneed
  generalize hc:rqwC m t fs b=c
  generalize ht:rqwT m t fs b=T
  have hbl:=Qm (b.length:Int)
  have hx0:=wG fs wR
  have hx1:=wG fs rW
  have hp:=zlo t
  have ha:=any2 t
  refine spcG zi mixed Tryz.func15 (by kernel_rfl) { rl:=[0],keep:=some [0,1,2,4,5,6,7,8,9]} [xP,xO,tZ,tY,yX,yV,XU,XT,vH,vG,ziV,ziU] (by kernel_rfl) ?_
  intro I X hI hX
  refine zh (let y0:=([116,114,97,110,115,102,101,114,45,101,110,99,111,100,105,110,103]:Str);let y1:=([99,111,110,116,101,110,116,45,108,101,110,103,116,104]:Str);let y4:=([32,72,84,84,80,47,49,46,49]:Str);let y2:=I.len (α:=UInt8) (I.app (α:=UInt8) (I.app (α:=UInt8) (I.app (α:=UInt8) m ([32]:Str)) t) y4);let y3:=I.hid (α:=(List (Str))) (valsF fs ([104,111,115,116]:Str));let y5:=I.hid (α:=(List (Str))) (valsF fs y1);let y6:=I.hid (α:=(List (Str))) (valsF fs y0);.need (I.hid (α:=(Prop)) (LE.le (List.length m) 1000000)) (.br (I.bnot (I.hid (α:=Bool) (yF m))) (.fin (.ret (.tup [(.one (.p (.list .byte ([]:Str)))),(.one (.p (.int .i64 6)))])) []) (.br (I.ieq (I.len (α:=UInt8) t) 0) (.fin (.ret (.tup [(.one (.p (.list .byte ([]:Str)))),(.one (.p (.int .i64 5)))])) []) (.need (I.inb 0 (I.len (α:=UInt8) t)) (.br (I.bnot (I.ieq (I.b2i (I.get (α:=UInt8) t 0 0)) 47)) (.fin (.ret (.tup [(.one (.p (.list .byte ([]:Str)))),(.one (.p (.int .i64 5)))])) []) (.need (I.hid (α:=(Prop)) (And (LE.le (List.length t) 1000000) (LE.le (List.length ([32]:Str)) 1000000))) (.br (I.ile 0 (I.hid (α:=Int) (yj ([32]:Str) t (0:Int)))) (.fin (.ret (.tup [(.one (.p (.list .byte ([]:Str)))),(.one (.p (.int .i64 5)))])) []) (.need (I.hid (α:=(Prop)) (And (LE.le (List.length t) 1000000) (LE.le (List.length ([9]:Str)) 1000000))) (.br (I.ile 0 (I.hid (α:=Int) (yj ([9]:Str) t (0:Int)))) (.fin (.ret (.tup [(.one (.p (.list .byte ([]:Str)))),(.one (.p (.int .i64 5)))])) []) (.need (I.hid (α:=(Prop)) (LE.le (List.length t) 1000000)) (.br (I.bnot (I.hid (α:=Bool) (xR t))) (.fin (.ret (.tup [(.one (.p (.list .byte ([]:Str)))),(.one (.p (.int .i64 5)))])) []) (.need (I.few (I.add (I.len (α:=UInt8) m) (I.len (α:=UInt8) ([32]:Str))) 1000000000) (.need (I.few (I.add (I.len (α:=UInt8) (I.app (α:=UInt8) m ([32]:Str))) (I.len (α:=UInt8) t)) 1000000000) (.need (I.few (I.add (I.len (α:=UInt8) (I.app (α:=UInt8) (I.app (α:=UInt8) m ([32]:Str)) t)) (I.len (α:=UInt8) y4)) 1000000000) (.br (I.ilt 200 y2) (.fin (.ret (.tup [(.one (.p (.list .byte ([]:Str)))),(.one (.p (.int .i64 4)))])) []) (.br (I.ilt 4000 (I.len (α:=UInt8) b)) (.fin (.ret (.tup [(.one (.p (.list .byte ([]:Str)))),(.one (.p (.int .i64 4)))])) []) (.br (I.ile 16 (I.len (α:=Fld) fs)) (.fin (.ret (.tup [(.one (.p (.list .byte ([]:Str)))),(.one (.p (.int .i64 8)))])) []) (.need (I.hid (α:=(Prop)) (And (LE.le (List.length fs) 1000) (And (LE.le (List.length y1) 1000000) (∀ (f:Fld),f ∈ fs→List.length f.name≤1000000∧List.length f.value≤1000000)))) (.br (I.ilt 0 (I.len (α:=Str) y5)) (.fin (.ret (.tup [(.one (.p (.list .byte ([]:Str)))),(.one (.p (.int .i64 12)))])) []) (.need (I.hid (α:=(Prop)) (And (LE.le (List.length fs) 1000) (And (LE.le (List.length y0) 1000000) (∀ (f:Fld),f ∈ fs→List.length f.name≤1000000∧List.length f.value≤1000000)))) (.br (I.ilt 0 (I.len (α:=Str) y6)) (.fin (.ret (.tup [(.one (.p (.list .byte ([]:Str)))),(.one (.p (.int .i64 12)))])) []) (.need (I.hid (α:=(Prop)) (And (LE.le (List.length fs) 1000) (And (LE.le (List.length ([104,111,115,116]:Str)) 1000000) (∀ (f:Fld),f ∈ fs→List.length f.name≤1000000∧List.length f.value≤1000000)))) (.br (I.bnot (I.ieq (I.len (α:=Str) y3) 1)) (.fin (.ret (.tup [(.one (.p (.list .byte ([]:Str)))),(.one (.p (.int .i64 13)))])) []) (.need (I.few (I.add y2 (I.len (α:=UInt8) ([13,10]:Str))) 1000000000) (.code 0 [1,1,1,1,1,1,1,1,1,0,1,0] ⟨[(7,(.v (.one (.p (.int .i64 0))))),(6,(.v (.one (.p (.str (I.app (α:=UInt8) (I.app (α:=UInt8) (I.app (α:=UInt8) (I.app (α:=UInt8) m ([32]:Str)) t) y4) ([13,10]:Str))))))),(5,(.v (.one (.p (.int .i64 0))))),(4,(.v (.one .nilS))),(2,(.v (.one (.ptr 0 0)))),(0,(.v (.agg [(.p (.str m)),(.p (.str t)),(.p (.int .i64 mi)),(.p (.list .fld fs)),(.p (.int .i64 le))]))),(1,(.v (.one (.p (.list .byte b)))))],[(.obj 25 [(.p (.str m)),(.p (.str t)),(.p (.int .i64 mi)),(.p (.list .fld fs)),(.p (.int .i64 le))]),(.row .byte 5 t),(.row .byte 5 t),(.row .str 9 y5),(.row .str 9 y6),(.row .str 9 y3)],116,none⟩))))))))))))))))))))))))) (by kernel_rfl) ?_
  simp only [zy]
  rw [show([99,111,110,116,101,110,116,45,108,101,110,103,116,104]:Str)=wR from rfl,show([116,114,97,110,115,102,101,114,45,101,110,99,111,100,105,110,103]:Str)=rW from rfl,show([104,111,115,116]:Str)=wX from rfl]
  have hk1:wR.length≤1000000:=by decide
  have hk2:rW.length≤1000000:=by decide
  have hk3:wX.length≤1000000:=by decide
  have hor:((oneF (valsF fs wX)).2≠0)=¬ ((valsF fs wX).length:Int)=1:=by
    rw [eq_iff_iff]
    unfold oneF
    by_cases h0:(valsF fs wX).length=0
    · rw [if_pos h0];constructor<;>intro _<;>simp_all
    · rw [if_neg h0]
      by_cases h1:(valsF fs wX).length=1
      · rw [if_pos h1];constructor<;>intro h<;>simp_all
      · rw [if_neg h1];constructor<;>intro _<;>simp_all<;>omega
  have hp0:(Lib.hasPrefix t [47]=false)=(((t.length:Nat):Int)=0∨¬ ((t.getD 0 0).toNat:Int)=47):=by
    rw [eq_iff_iff,← Bool.not_eq_true,hp]
    omega
  have ha0:(Lib.containsAny t [32,9]=true)=(0≤yj [32] t 0∨0≤yj [9] t 0):=propext ha
  have hc:(if yF m=false then(6:Int) else if((t.length:Nat):Int)=0 then 5 else if ¬ ((t.getD 0 0).toNat:Int)=47 then 5 else if 0≤yj [32] t 0 then 5 else if 0≤yj [9] t 0 then 5 else if xR t=false then 5 else if 200<((rqHd m t).length:Int) then 4 else if 4000<(b.length:Int) then 4 else if 16≤(fs.length:Int) then 8 else if 0<((valsF fs wR).length:Int) then 12 else if 0<((valsF fs rW).length:Int) then 12 else if ¬ ((valsF fs wX).length:Int)=1 then 13 else badF fs)=c:=by
    rw [← hc]
    unfold rqwC
    simp only [hp0,ha0,hor]
    by_cases c1:yF m=false
    · rw [if_pos c1,if_pos c1]
    rw [if_neg c1,if_neg c1]
    by_cases c2:((t.length:Nat):Int)=0
    · rw [if_pos c2,if_pos (.inl c2)]
    rw [if_neg c2]
    by_cases c3: ¬ ((t.getD 0 0).toNat:Int)=47
    · rw [if_pos c3,if_pos (.inr c3)]
    rw [if_neg c3,if_neg (show ¬ (((t.length:Nat):Int)=0∨¬ ((t.getD 0 0).toNat:Int)=47) from fun h=>h.elim c2 c3)]
    by_cases c4:0≤yj [32] t 0
    · rw [if_pos c4,if_pos (.inl c4)]
    rw [if_neg c4]
    by_cases c5:0≤yj [9] t 0
    · rw [if_pos c5,if_pos (.inr c5)]
    rw [if_neg c5,if_neg (show ¬ (0≤yj [32] t 0∨0≤yj [9] t 0) from fun h=>h.elim c4 c5)]
    by_cases c6:xR t=false
    · rw [if_pos c6,if_pos c6]
    rw [if_neg c6,if_neg c6]
    by_cases c7:200<(rqHd m t).length
    · rw [if_pos c7,if_pos (by omega)]
    rw [if_neg c7,if_neg (by omega)]
    by_cases c8:4000<b.length
    · rw [if_pos c8,if_pos (by omega)]
    rw [if_neg c8,if_neg (by omega)]
    by_cases c9:15<fs.length
    · rw [if_pos c9,if_pos (by omega)]
    rw [if_neg c9,if_neg (by omega)]
    by_cases d1:0<((valsF fs wR).length:Int)
    · rw [if_pos d1,if_pos (by omega)]
    rw [if_neg d1]
    by_cases d2:0<((valsF fs rW).length:Int)
    · rw [if_pos d2,if_pos (by omega)]
    rw [if_neg d2,if_neg (show ¬ 0<(valsF fs wR).length+(valsF fs rW).length by omega)]
  (repeat' (first|refine And.intro ?_ ?_|intro _))
  all_goals try(subst hI;(simp only [nrmA,nrmB,nrlB,reduceCtorEq] at *);first|done|trivial|omega|exact⟨ht1,by decide⟩|exact⟨hfl,by assumption,hf⟩|(simp only [List.length_append,List.length_cons,List.length_nil];omega)|(unfold rqwT at ht;unfold rqHd at hc;((repeat(first|rewrite [if_pos (by first|omega|assumption|(simp only [*,or_self,or_true,true_or,or_false,false_or,not_true_eq_false,not_false_eq_true,Bool.false_eq_true,Bool.true_eq_false,and_self,and_true,true_and];done)|(simp only [*];omega)|(simp [*];done)|(simp [*];omega))] at hc|rewrite [if_neg (by first|omega|assumption|(simp only [*,or_self,or_true,true_or,or_false,false_or,not_true_eq_false,not_false_eq_true,Bool.false_eq_true,Bool.true_eq_false,and_self,and_true,true_and];done)|(simp only [*];omega)|(simp [*];done)|(simp [*];omega))] at hc)));subst hc;rw [‹rqwC m t fs b=_›] at ht;((repeat(first|rewrite [if_pos (by first|omega|assumption|(simp only [*,or_self,or_true,true_or,or_false,false_or,not_true_eq_false,not_false_eq_true,Bool.false_eq_true,Bool.true_eq_false,and_self,and_true,true_and];done)|(simp only [*];omega)|(simp [*];done)|(simp [*];omega))] at ht|rewrite [if_neg (by first|omega|assumption|(simp only [*,or_self,or_true,true_or,or_false,false_or,not_true_eq_false,not_false_eq_true,Bool.false_eq_true,Bool.true_eq_false,and_self,and_true,true_and];done)|(simp only [*];omega)|(simp [*];done)|(simp [*];omega))] at ht)));subst ht;exact⟨rfl,rfl⟩))
  have hok:yF m=true∧Lib.hasPrefix t [47]=true∧Lib.containsAny t [32,9]=false∧xR t=true∧(rqHd m t).length≤200∧b.length≤4000∧fs.length≤15∧(valsF fs wR).length+(valsF fs rW).length=0∧(oneF (valsF fs wX)).2=0:=by
    subst hI
    unfold rqHd
    simp only [nrmA,nrmB] at *
    have g1:Lib.hasPrefix t [47]=true:=hp.2 ⟨by omega,‹_›⟩
    have g2:Lib.containsAny t [32,9]=false:=by rw [← Bool.not_eq_true,ha];omega
    have g3:(oneF (valsF fs wX)).2=0:=by
      by_cases h:(oneF (valsF fs wX)).2=0
      · exact h
      · exact absurd ‹((valsF fs wX).length:Int)=1› (by rw [← hor];exact h)
    exact⟨by simpa using ‹yF m=_›,g1,g2,by simpa using ‹xR t=_›,by omega,by omega,by omega,by omega,g3⟩
  obtain⟨k1,k2,k3,k4,k5,k6,k7,k8,k9⟩:=hok
  have hc2:c=badF fs:=by
    rename_i hcr _ _
    rw [← ‹rqwC m t fs b=c›,rqwC,if_neg (by rw [k1];simp),if_neg (by rw [k2];simp),if_neg (by rw [k3];simp),if_neg (by rw [k4];simp),if_neg (by omega),if_neg (by omega),if_neg (by omega),if_neg (by omega),if_neg (fun h=>h k9)]
  have ht2:badF fs=0→T=rqHd m t++[13,10]++wY fs++ze9 b.length++b:=fun h=>by
    rw [← ht,rqwT,‹rqwC m t fs b=c›,hc2,if_pos h]
  have ht3:badF fs≠0→T=[]:=fun h=>by rw [← ht,rqwT,‹rqwC m t fs b=c›,hc2,if_neg h]
  refine zG hI zi mixed [xP,xO,tZ,tY,yX,yV,XU,XT,vH,vG,ziV,ziU] hX [1,2,6,7] (fun(g:Nat × Str)=>match g with|(i,o)=>i≤fs.length∧o=rqHd m t++[13,10]++wY (fs.take i)∧badF fs=badF (fs.drop i)) (fun(g:Nat × Str)=>match g with|(i,o)=>⟨[(1,.v (.one (.p (.list .byte b)))),(2,.v (.one (.ptr 0 0))),(6,.v (.one (.p (.str o)))),(7,.v (.one (.p (.int .i64 i))))],[.pack [.obj 25 [(.p (.str m)),(.p (.str t)),(.p (.int .i64 mi)),(.p (.list .fld fs)),(.p (.int .i64 le))]]],116,none⟩) (fun(g:Nat × Str)=>match g with|(i,o)=>fs.length - i) (0,I.app (I.app (I.app (I.app m [32]) t) [32,72,84,84,80,47,49,46,49]) [13,10]) (by kernel_rfl) (by kernel_rfl) ?_ ?_
  · refine⟨Nat.zero_le _,?_,rfl⟩
    subst hI
    simp only [qB,UA,rqHd,List.take_zero,wY,List.append_nil]
  rintro⟨i,o⟩ ⟨h1,h2,h3⟩ A hA
  simp only at hA h1 h2 h3
  refine zh (let y0:=I.get (α:=Fld) fs (Fld.mk ([]:Str) ([]:Str)) (Nat.cast i);let y1:=([67,111,110,116,101,110,116,45,76,101,110,103,116,104,58,32]:Str);let y2:=I.hid (α:=Str) (decS (I.len (α:=UInt8) b));let y3:=I.hid (α:=Str) (Prod.fst (textF (Fld.mk (Fld.name y0) (Fld.value y0))));let y4:=I.hid (α:=Int) (Prod.snd (textF (Fld.mk (Fld.name y0) (Fld.value y0))));let y5:=I.inb (Nat.cast i) (I.len (α:=Fld) fs);.br (I.ilt (Nat.cast i) (I.len (α:=Fld) fs)) (.need y5 (.need y5 (.need (I.hid (α:=(Prop)) (And (LE.le (List.length (Fld.name y0)) 1000000) (LE.le (List.length (Fld.value y0)) 1000000))) (.br (I.bnot (I.ieq y4 0)) (.fin (.ret (.tup [(.one (.p (.list .byte ([]:Str)))),(.one (.p (.int .i64 y4)))])) []) (.need (I.few (I.add (I.len (α:=UInt8) y3) (I.len (α:=UInt8) ([13,10]:Str))) 1000000000) (.need (I.few (I.add (I.len (α:=UInt8) o) (I.len (α:=UInt8) (I.app (α:=UInt8) y3 ([13,10]:Str)))) 1000000000) (.need (I.inr Go.IntKind.i64 (I.add (Nat.cast i) 1)) (.need (A ⟨[(1,(.v (.one (.p (.list .byte b))))),(2,(.v (.one (.ptr 0 0)))),(6,(.v (.one (.p (.str (I.app (α:=UInt8) o (I.app (α:=UInt8) y3 ([13,10]:Str)))))))),(7,(.v (.one (.p (.int .i64 (I.add (Nat.cast i) 1))))))],[(.pack [(.obj 25 [(.p (.str m)),(.p (.str t)),(.p (.int .i64 mi)),(.p (.list .fld fs)),(.p (.int .i64 le))])])],116,none⟩) .qed)))))))) (.need (I.hid (α:=(Prop)) (And (LE.le (0:Int) (I.len (α:=UInt8) b)) (LT.lt (I.len (α:=UInt8) b) (1000000000:Int)))) (.need (I.few (I.add (I.len (α:=UInt8) y1) (I.len (α:=UInt8) y2)) 1000000000) (.need (I.few (I.add (I.len (α:=UInt8) (I.app (α:=UInt8) y1 y2)) (I.len (α:=UInt8) ([13,10,13,10]:Str))) 1000000000) (.need (I.few (I.add (I.len (α:=UInt8) o) (I.len (α:=UInt8) (I.app (α:=UInt8) (I.app (α:=UInt8) y1 y2) ([13,10,13,10]:Str)))) 1000000000) (.need (I.few (I.add (I.len (α:=UInt8) (I.app (α:=UInt8) o (I.app (α:=UInt8) (I.app (α:=UInt8) y1 y2) ([13,10,13,10]:Str)))) (I.len (α:=UInt8) b)) 140737488355328) (.fin (.ret (.tup [(.one (.p (.list .byte (I.app (α:=UInt8) (I.app (α:=UInt8) o (I.app (α:=UInt8) (I.app (α:=UInt8) y1 y2) ([13,10,13,10]:Str))) b)))),(.one (.p (.int .i64 0)))])) []))))))) (by kernel_rfl) ?_
  simp only [zy]
  subst hI
  simp only [nrmA,nrmB,nrlB,reduceCtorEq]
  have hx:i<fs.length→(fs.getD i ⟨[],[]⟩) ∈ fs:=fun h=>by rw [show fs.getD i ⟨[],[]⟩=fs[i] by simp [h]];exact List.getElem_mem h
  have hd:i<fs.length→_:=fun h=>zbm (fs:=fs) (i:=i) h
  have hk:i<fs.length→_:=fun h=>TS (fs:=fs) (i:=i) h
  have hol:(wY (fs.take i)).length≤202 * 16:=by
    have:=Ug (fs.take i)
    rw [List.length_take] at this
    omega
  have hol2:o.length≤4000:=by rw [h2,List.length_append,List.length_append,List.length_cons,List.length_cons,List.length_nil];omega
  have hend: ¬ i<fs.length→badF fs=0∧wY (fs.take i)=wY fs:=fun h=>by
    rw [h3,List.drop_of_length_le (by omega),List.take_of_length_le (by omega)];exact⟨rfl,rfl⟩
  have hfi:=fun h=>hf _ (hx h)
  have htl:=fun f=>Ve f
  generalize fs.getD i ⟨[],[]⟩=x at *
  have e0:(⟨x.name,x.value⟩:Fld)=x:=rfl
  rw [e0]
  have htl:=htl x
  have hbad:i<fs.length→¬ (textF x).2=0→T=[]∧c=(textF x).2:=fun c1 c2=>by
    have hd:=hd c1
    rw [if_neg c2] at hd
    exact⟨ht3 (by rw [h3,hd];exact c2),by rw [hc2,h3,hd]⟩
  have hgo:i<fs.length→(textF x).2=0→_:=fun c1 c2=>hA (i+1,o++((textF x).1++[13,10])) ⟨by simp only;omega,by simp only;rw [hk c1,h2];simp only [List.append_assoc],by
    have hd:=hd c1
    rw [if_pos c2] at hd
    simp only;rw [h3,hd]⟩ (by simp only;omega)
  have hfin: ¬ i<fs.length→o++(([67,111,110,116,101,110,116,45,76,101,110,103,116,104,58,32]++decS (b.length:Int))++[13,10,13,10])++b=T∧0=c:=fun c1=>by
    obtain⟨e1,e2⟩:=hend c1
    refine⟨?_,by rw [hc2,e1]⟩
    rw [ht2 e1,h2,e2]
    unfold ze9
    simp only [List.append_assoc]
  clear hA ht2 ht3
  (repeat' (first|refine And.intro ?_ ?_|intro _))<;>first|omega|exact True.intro|exact False.elim ‹False›|skip
  all_goals first
    |omega
    |exact(hfi (by omega)).1
    |exact(hfi (by omega)).2
    |(simp only [List.length_append,List.length_cons,List.length_nil];omega)
    |exact(hbad (by omega) ‹_›).1.symm
    |exact(hbad (by omega) ‹_›).2.symm
    |exact hgo (by omega) ‹_›
    |exact(hfin (by omega)).1
    |exact(hfin (by omega)).2
def WA (I:Alg) (args:List D) (hp:List HO):Option CT:=match args,hp with
  |[.v (.agg [(.p (.str m)),(.p (.str t)),(.p (.int .i64 mi)),(.p (.list .fld fs)),(.p (.int .i64 le))]),.v (.one (.p (.list .byte b)))],[]=>(fun(m t:Str) (mi:Int) (fs:List Fld) (le:Int) (b:Str)=>(some (.one ⟨I.hid ((m.length≤1000000∧t.length≤1000000)∧(fs.length≤1000∧∀ f ∈ fs,f.name.length≤1000000∧f.value.length≤1000000)∧b.length≤1000000),(.ret (.tup [(.one (.p (.list .byte (I.hid ((rqwT m t fs b)))))),(.one (.p (.int .i64 (I.hid ((rqwC m t fs b))))))])),[]⟩):Option CT)) m t mi fs le b
  |_,_=>none
theorem zc2:zD Tryz.prog 15 (WA alg):=by
  intro args hp r h
  unfold WA at h
  split at h
  · cases h;exact fun hn=>zkC _ _ _ _ _ _ hn
  · cases h
def zc1:Know Tryz.prog:=⟨15,WA,zc2⟩
def zc0:Know Tryz.prog:=⟨15,fun I=>zH I (WA I),zf zc2⟩
end Go.Proofs.YtmibhbdfigpkmaaGreatDoor
namespace Go.Proofs.YtmibhbdfigpkmaaGreatDoor
open Go Go.Sep Go.Ab
set_option maxRecDepth 100000
theorem zh5:Spc Tryz.prog 6 [] [] (.ret (.v (.one (.p (.bool true))))) []:=by
  refine spcG zi mixed Tryz.func6 (by kernel_rfl) { cfgQ with fz:=[14,9],keep:=some [0,1,2,3,4]} [S9,SY,Vt,Vs,Vr,Vq,Y8,Y7] (by kernel_rfl) ?_
  intro I X hI hX
  refine zh (.need (I.hid (α:=(Prop)) True) (.need (I.inr Go.IntKind.u8 71) (.need (I.inr Go.IntKind.u8 69) (.need (I.inr Go.IntKind.u8 84) (.need (I.inr Go.IntKind.u8 32) (.need (I.inr Go.IntKind.u8 47) (.need (I.inr Go.IntKind.u8 120) (.need (I.inr Go.IntKind.u8 32) (.need (I.inr Go.IntKind.u8 72) (.need (I.inr Go.IntKind.u8 84) (.need (I.inr Go.IntKind.u8 84) (.need (I.inr Go.IntKind.u8 80) (.need (I.inr Go.IntKind.u8 47) (.need (I.inr Go.IntKind.u8 49) (.need (I.inr Go.IntKind.u8 46) (.need (I.inr Go.IntKind.u8 49) (.need (I.inr Go.IntKind.u8 13) (.need (I.inr Go.IntKind.u8 10) (.need (I.inr Go.IntKind.u8 72) (.need (I.inr Go.IntKind.u8 111) (.need (I.inr Go.IntKind.u8 115) (.need (I.inr Go.IntKind.u8 116) (.need (I.inr Go.IntKind.u8 58) (.need (I.inr Go.IntKind.u8 32) (.need (I.inr Go.IntKind.u8 97) (.need (I.inr Go.IntKind.u8 13) (.need (I.inr Go.IntKind.u8 10) (.need (I.inr Go.IntKind.u8 13) (.need (I.inr Go.IntKind.u8 10) (.need (I.inb 0 (I.len (α:=UInt8) ([(I.i2b 71),(I.i2b 69),(I.i2b 84),(I.i2b 32),(I.i2b 47),(I.i2b 120),(I.i2b 32),(I.i2b 72),(I.i2b 84),(I.i2b 84),(I.i2b 80),(I.i2b 47),(I.i2b 49),(I.i2b 46),(I.i2b 49),(I.i2b 13),(I.i2b 10),(I.i2b 72),(I.i2b 111),(I.i2b 115),(I.i2b 116),(I.i2b 58),(I.i2b 32),(I.i2b 97),(I.i2b 13),(I.i2b 10),(I.i2b 13),(I.i2b 10)]:List UInt8))) (.need (I.hid (α:=(Prop)) (Go.Proofs.YtmibhbdfigpkmaaGreatDoor.rqN0 Go.Proofs.YtmibhbdfigpkmaaGreatDoor.rq0 ([(I.i2b 71),(I.i2b 69),(I.i2b 84),(I.i2b 32),(I.i2b 47),(I.i2b 120),(I.i2b 32),(I.i2b 72),(I.i2b 84),(I.i2b 84),(I.i2b 80),(I.i2b 47),(I.i2b 49),(I.i2b 46),(I.i2b 49),(I.i2b 13),(I.i2b 10),(I.i2b 72),(I.i2b 111),(I.i2b 115),(I.i2b 116),(I.i2b 58),(I.i2b 32),(I.i2b 97),(I.i2b 13),(I.i2b 10),(I.i2b 13),(I.i2b 10)]:List UInt8))) (.need (I.inr Go.IntKind.u8 121) (.need (I.inb 0 (I.len (α:=UInt8) ([(I.i2b 121)]:List UInt8))) (.need (I.hid (α:=(Prop)) (And (And (LE.le (List.length (Array.toList (List.toArray ([71,69,84]:List UInt8)))) 1000000) (LE.le (List.length (Array.toList (List.toArray ([47,120]:List UInt8)))) 1000000)) (And (And (LE.le (List.length ([(Go.Ab.Fld.mk (Array.toList (List.toArray ([72,111,115,116]:List UInt8))) (Array.toList (List.toArray ([97]:List UInt8))))]:List Go.Ab.Fld)) 1000) (∀ (f:Fld),
    f ∈ [Fld.mk (ByteArray.mk #[72,111,115,116]).data.toList (ByteArray.mk #[97]).data.toList]→
      List.length f.name≤1000000∧List.length f.value≤1000000)) (LE.le (List.length ([(I.i2b 121)]:List UInt8)) 1000000)))) (.br (I.ieq (I.len (α:=Go.Ab.Evt) (I.hid (α:=(List Go.Ab.Evt)) (Go.Proofs.YtmibhbdfigpkmaaGreatDoor.zF (Go.Ab.Rq.out (Go.Proofs.YtmibhbdfigpkmaaGreatDoor.yh Go.Proofs.YtmibhbdfigpkmaaGreatDoor.rq0 ([(I.i2b 71),(I.i2b 69),(I.i2b 84),(I.i2b 32),(I.i2b 47),(I.i2b 120),(I.i2b 32),(I.i2b 72),(I.i2b 84),(I.i2b 84),(I.i2b 80),(I.i2b 47),(I.i2b 49),(I.i2b 46),(I.i2b 49),(I.i2b 13),(I.i2b 10),(I.i2b 72),(I.i2b 111),(I.i2b 115),(I.i2b 116),(I.i2b 58),(I.i2b 32),(I.i2b 97),(I.i2b 13),(I.i2b 10),(I.i2b 13),(I.i2b 10)]:List UInt8)))))) 2) (.need (I.inb 0 (I.len (α:=Go.Ab.Evt) (I.hid (α:=(List Go.Ab.Evt)) (Go.Proofs.YtmibhbdfigpkmaaGreatDoor.zF (Go.Ab.Rq.out (Go.Proofs.YtmibhbdfigpkmaaGreatDoor.yh Go.Proofs.YtmibhbdfigpkmaaGreatDoor.rq0 ([(I.i2b 71),(I.i2b 69),(I.i2b 84),(I.i2b 32),(I.i2b 47),(I.i2b 120),(I.i2b 32),(I.i2b 72),(I.i2b 84),(I.i2b 84),(I.i2b 80),(I.i2b 47),(I.i2b 49),(I.i2b 46),(I.i2b 49),(I.i2b 13),(I.i2b 10),(I.i2b 72),(I.i2b 111),(I.i2b 115),(I.i2b 116),(I.i2b 58),(I.i2b 32),(I.i2b 97),(I.i2b 13),(I.i2b 10),(I.i2b 13),(I.i2b 10)]:List UInt8))))))) (.need (I.inb 0 (I.len (α:=Go.Ab.Evt) (I.hid (α:=(List Go.Ab.Evt)) (Go.Proofs.YtmibhbdfigpkmaaGreatDoor.zF (Go.Ab.Rq.out (Go.Proofs.YtmibhbdfigpkmaaGreatDoor.yh Go.Proofs.YtmibhbdfigpkmaaGreatDoor.rq0 ([(I.i2b 71),(I.i2b 69),(I.i2b 84),(I.i2b 32),(I.i2b 47),(I.i2b 120),(I.i2b 32),(I.i2b 72),(I.i2b 84),(I.i2b 84),(I.i2b 80),(I.i2b 47),(I.i2b 49),(I.i2b 46),(I.i2b 49),(I.i2b 13),(I.i2b 10),(I.i2b 72),(I.i2b 111),(I.i2b 115),(I.i2b 116),(I.i2b 58),(I.i2b 32),(I.i2b 97),(I.i2b 13),(I.i2b 10),(I.i2b 13),(I.i2b 10)]:List UInt8))))))) (.br (I.ieq (Go.Ab.Evt.kind (I.get (α:=Go.Ab.Evt) (I.hid (α:=(List Go.Ab.Evt)) (Go.Proofs.YtmibhbdfigpkmaaGreatDoor.zF (Go.Ab.Rq.out (Go.Proofs.YtmibhbdfigpkmaaGreatDoor.yh Go.Proofs.YtmibhbdfigpkmaaGreatDoor.rq0 ([(I.i2b 71),(I.i2b 69),(I.i2b 84),(I.i2b 32),(I.i2b 47),(I.i2b 120),(I.i2b 32),(I.i2b 72),(I.i2b 84),(I.i2b 84),(I.i2b 80),(I.i2b 47),(I.i2b 49),(I.i2b 46),(I.i2b 49),(I.i2b 13),(I.i2b 10),(I.i2b 72),(I.i2b 111),(I.i2b 115),(I.i2b 116),(I.i2b 58),(I.i2b 32),(I.i2b 97),(I.i2b 13),(I.i2b 10),(I.i2b 13),(I.i2b 10)]:List UInt8))))) (Go.Ab.Evt.mk (0:Int) (Go.Ab.Hd.mk ([]:List UInt8) ([]:List UInt8) (0:Int) ([]:List Go.Ab.Fld) (0:Int)) ([]:List UInt8) (Go.Ab.Prt.mk ([]:List UInt8) ([]:List UInt8) ([]:List UInt8) ([]:List UInt8)) (0:Int)) 0)) 1) (.need (I.inb 0 (I.len (α:=Go.Ab.Evt) (I.hid (α:=(List Go.Ab.Evt)) (Go.Proofs.YtmibhbdfigpkmaaGreatDoor.zF (Go.Ab.Rq.out (Go.Proofs.YtmibhbdfigpkmaaGreatDoor.yh Go.Proofs.YtmibhbdfigpkmaaGreatDoor.rq0 ([(I.i2b 71),(I.i2b 69),(I.i2b 84),(I.i2b 32),(I.i2b 47),(I.i2b 120),(I.i2b 32),(I.i2b 72),(I.i2b 84),(I.i2b 84),(I.i2b 80),(I.i2b 47),(I.i2b 49),(I.i2b 46),(I.i2b 49),(I.i2b 13),(I.i2b 10),(I.i2b 72),(I.i2b 111),(I.i2b 115),(I.i2b 116),(I.i2b 58),(I.i2b 32),(I.i2b 97),(I.i2b 13),(I.i2b 10),(I.i2b 13),(I.i2b 10)]:List UInt8))))))) (.need (I.inb 0 (I.len (α:=Go.Ab.Evt) (I.hid (α:=(List Go.Ab.Evt)) (Go.Proofs.YtmibhbdfigpkmaaGreatDoor.zF (Go.Ab.Rq.out (Go.Proofs.YtmibhbdfigpkmaaGreatDoor.yh Go.Proofs.YtmibhbdfigpkmaaGreatDoor.rq0 ([(I.i2b 71),(I.i2b 69),(I.i2b 84),(I.i2b 32),(I.i2b 47),(I.i2b 120),(I.i2b 32),(I.i2b 72),(I.i2b 84),(I.i2b 84),(I.i2b 80),(I.i2b 47),(I.i2b 49),(I.i2b 46),(I.i2b 49),(I.i2b 13),(I.i2b 10),(I.i2b 72),(I.i2b 111),(I.i2b 115),(I.i2b 116),(I.i2b 58),(I.i2b 32),(I.i2b 97),(I.i2b 13),(I.i2b 10),(I.i2b 13),(I.i2b 10)]:List UInt8))))))) (.br (I.seq (Go.Ab.Hd.target (Go.Ab.Evt.head (I.get (α:=Go.Ab.Evt) (I.hid (α:=(List Go.Ab.Evt)) (Go.Proofs.YtmibhbdfigpkmaaGreatDoor.zF (Go.Ab.Rq.out (Go.Proofs.YtmibhbdfigpkmaaGreatDoor.yh Go.Proofs.YtmibhbdfigpkmaaGreatDoor.rq0 ([(I.i2b 71),(I.i2b 69),(I.i2b 84),(I.i2b 32),(I.i2b 47),(I.i2b 120),(I.i2b 32),(I.i2b 72),(I.i2b 84),(I.i2b 84),(I.i2b 80),(I.i2b 47),(I.i2b 49),(I.i2b 46),(I.i2b 49),(I.i2b 13),(I.i2b 10),(I.i2b 72),(I.i2b 111),(I.i2b 115),(I.i2b 116),(I.i2b 58),(I.i2b 32),(I.i2b 97),(I.i2b 13),(I.i2b 10),(I.i2b 13),(I.i2b 10)]:List UInt8))))) (Go.Ab.Evt.mk (0:Int) (Go.Ab.Hd.mk ([]:List UInt8) ([]:List UInt8) (0:Int) ([]:List Go.Ab.Fld) (0:Int)) ([]:List UInt8) (Go.Ab.Prt.mk ([]:List UInt8) ([]:List UInt8) ([]:List UInt8) ([]:List UInt8)) (0:Int)) 0))) (Array.toList (List.toArray ([47,120]:List UInt8)))) (.need (I.inb 1 (I.len (α:=Go.Ab.Evt) (I.hid (α:=(List Go.Ab.Evt)) (Go.Proofs.YtmibhbdfigpkmaaGreatDoor.zF (Go.Ab.Rq.out (Go.Proofs.YtmibhbdfigpkmaaGreatDoor.yh Go.Proofs.YtmibhbdfigpkmaaGreatDoor.rq0 ([(I.i2b 71),(I.i2b 69),(I.i2b 84),(I.i2b 32),(I.i2b 47),(I.i2b 120),(I.i2b 32),(I.i2b 72),(I.i2b 84),(I.i2b 84),(I.i2b 80),(I.i2b 47),(I.i2b 49),(I.i2b 46),(I.i2b 49),(I.i2b 13),(I.i2b 10),(I.i2b 72),(I.i2b 111),(I.i2b 115),(I.i2b 116),(I.i2b 58),(I.i2b 32),(I.i2b 97),(I.i2b 13),(I.i2b 10),(I.i2b 13),(I.i2b 10)]:List UInt8))))))) (.need (I.inb 1 (I.len (α:=Go.Ab.Evt) (I.hid (α:=(List Go.Ab.Evt)) (Go.Proofs.YtmibhbdfigpkmaaGreatDoor.zF (Go.Ab.Rq.out (Go.Proofs.YtmibhbdfigpkmaaGreatDoor.yh Go.Proofs.YtmibhbdfigpkmaaGreatDoor.rq0 ([(I.i2b 71),(I.i2b 69),(I.i2b 84),(I.i2b 32),(I.i2b 47),(I.i2b 120),(I.i2b 32),(I.i2b 72),(I.i2b 84),(I.i2b 84),(I.i2b 80),(I.i2b 47),(I.i2b 49),(I.i2b 46),(I.i2b 49),(I.i2b 13),(I.i2b 10),(I.i2b 72),(I.i2b 111),(I.i2b 115),(I.i2b 116),(I.i2b 58),(I.i2b 32),(I.i2b 97),(I.i2b 13),(I.i2b 10),(I.i2b 13),(I.i2b 10)]:List UInt8))))))) (.br (I.ieq (Go.Ab.Evt.kind (I.get (α:=Go.Ab.Evt) (I.hid (α:=(List Go.Ab.Evt)) (Go.Proofs.YtmibhbdfigpkmaaGreatDoor.zF (Go.Ab.Rq.out (Go.Proofs.YtmibhbdfigpkmaaGreatDoor.yh Go.Proofs.YtmibhbdfigpkmaaGreatDoor.rq0 ([(I.i2b 71),(I.i2b 69),(I.i2b 84),(I.i2b 32),(I.i2b 47),(I.i2b 120),(I.i2b 32),(I.i2b 72),(I.i2b 84),(I.i2b 84),(I.i2b 80),(I.i2b 47),(I.i2b 49),(I.i2b 46),(I.i2b 49),(I.i2b 13),(I.i2b 10),(I.i2b 72),(I.i2b 111),(I.i2b 115),(I.i2b 116),(I.i2b 58),(I.i2b 32),(I.i2b 97),(I.i2b 13),(I.i2b 10),(I.i2b 13),(I.i2b 10)]:List UInt8))))) (Go.Ab.Evt.mk (0:Int) (Go.Ab.Hd.mk ([]:List UInt8) ([]:List UInt8) (0:Int) ([]:List Go.Ab.Fld) (0:Int)) ([]:List UInt8) (Go.Ab.Prt.mk ([]:List UInt8) ([]:List UInt8) ([]:List UInt8) ([]:List UInt8)) (0:Int)) 1)) 3) (.need (I.hid (α:=(Prop)) True) (.br (I.bnot (I.hid (α:=Bool) (Go.Proofs.YtmibhbdfigpkmaaGreatDoor.xZ (I.hid (α:=Go.Ab.Rq) (Go.Proofs.YtmibhbdfigpkmaaGreatDoor.yh Go.Proofs.YtmibhbdfigpkmaaGreatDoor.rq0 ([(I.i2b 71),(I.i2b 69),(I.i2b 84),(I.i2b 32),(I.i2b 47),(I.i2b 120),(I.i2b 32),(I.i2b 72),(I.i2b 84),(I.i2b 84),(I.i2b 80),(I.i2b 47),(I.i2b 49),(I.i2b 46),(I.i2b 49),(I.i2b 13),(I.i2b 10),(I.i2b 72),(I.i2b 111),(I.i2b 115),(I.i2b 116),(I.i2b 58),(I.i2b 32),(I.i2b 97),(I.i2b 13),(I.i2b 10),(I.i2b 13),(I.i2b 10)]:List UInt8)))))) (.br (I.ieq (I.hid (α:=Int) (Go.Proofs.YtmibhbdfigpkmaaGreatDoor.rqwC (Array.toList (List.toArray ([71,69,84]:List UInt8))) (Array.toList (List.toArray ([47,120]:List UInt8))) ([(Go.Ab.Fld.mk (Array.toList (List.toArray ([72,111,115,116]:List UInt8))) (Array.toList (List.toArray ([97]:List UInt8))))]:List Go.Ab.Fld) ([(I.i2b 121)]:List UInt8))) 0) (.fin (.ret (.v (.one (.p (.bool (I.seq (I.hid (α:=(List UInt8)) (Go.Proofs.YtmibhbdfigpkmaaGreatDoor.rqwT (Array.toList (List.toArray ([71,69,84]:List UInt8))) (Array.toList (List.toArray ([47,120]:List UInt8))) ([(Go.Ab.Fld.mk (Array.toList (List.toArray ([72,111,115,116]:List UInt8))) (Array.toList (List.toArray ([97]:List UInt8))))]:List Go.Ab.Fld) ([(I.i2b 121)]:List UInt8))) (Array.toList (List.toArray ([71,69,84,32,47,120,32,72,84,84,80,47,49,46,49,13,10,72,111,115,116,58,32,97,13,10,67,111,110,116,101,110,116,45,76,101,110,103,116,104,58,32,49,13,10,13,10,121]:List UInt8))))))))) []) (.fin (.ret (.v (.one (.p (.bool Bool.false))))) [])) (.fin (.ret (.v (.one (.p (.bool Bool.false))))) []))) (.fin (.ret (.v (.one (.p (.bool Bool.false))))) [])))) (.fin (.ret (.v (.one (.p (.bool Bool.false))))) [])))) (.fin (.ret (.v (.one (.p (.bool Bool.false))))) [])))) (.fin (.ret (.v (.one (.p (.bool Bool.false))))) [])))))))))))))))))))))))))))))))))))) (by kernel_rfl) ?_
  simp only [zy]
  subst hI
  simp only [nrmA,nrmB,nrlB,reduceCtorEq,HO.abs.injEq,Gh.rq.injEq,Rq.mk.injEq]
  have hI0: ∀ b:Str,b.length≤1000000→rqN0 rq0 b:=fun b h=>⟨0,zhW,by omega⟩
  (repeat' (first|refine And.intro ?_ ?_|intro _))<;>first|omega|exact True.intro|exact False.elim ‹False›|skip
  all_goals first
    |exact hI0 _ (by decide)
    |(clear hI0;decide+revert+kernel)
    |decide+kernel
    |(rename_i h;exact h (by decide+kernel))
    |(rename_i h;exact absurd h (by decide+kernel))
    |(rename_i h;trace "{h}";trace_state)
def qW (I:Alg) (args:List D) (hp:List HO):Option CT:=match args,hp with
  |[],[]=>(fun(_:Unit)=>(some (.one ⟨I.hid (True),(.ret (.v (.one (.p (.bool true))))),[]⟩):Option CT)) ()
  |_,_=>none
theorem U7:zD Tryz.prog 6 (qW alg):=by
  intro args hp r h
  unfold qW at h
  split at h
  · cases h;exact fun hn=>zh5
  · cases h
def U6:Know Tryz.prog:=⟨6,qW,U7⟩
def U5:Know Tryz.prog:=⟨6,fun I=>zH I (qW I),zf U7⟩
end Go.Proofs.YtmibhbdfigpkmaaGreatDoor
namespace Go.Proofs.YtmibhbdfigpkmaaGreatDoor
open Go Go.Sep Go.Ab
set_option maxRecDepth 100000
def EvO (l:List Evt):Prop:=∀ e ∈ l,FsOk e.head.fields
theorem Xn {a b:List Evt} (h:EvO a) (k:EvO b):EvO (a++b):=fun e m=>(List.mem_append.1 m).elim (h e) (k e)
theorem Qc:FsOk []:=⟨by decide,fun f h=>by cases h⟩
theorem Un {e:Evt} (h:FsOk e.head.fields):EvO [e]:=fun x m=>by rw [List.mem_singleton.1 m];exact h
theorem zgZ {o:List Evt} {e:Evt} (h:EvO (o++[e])):EvO (vT o e):=by
  rcases List.eq_nil_or_concat o with rfl|⟨z,x,rfl⟩
  · exact h
  · rw [List.concat_eq_append] at h ⊢
    rw [yR]
    split
    · exact Xn (fun y m=>h y (by simp [m])) (Un Qc)
    · exact h
theorem zdP: ∀ (l o:List Evt),EvO (o++l)→EvO (l.foldl vT o)
  |[],o,h=>by rw [List.append_nil] at h;exact h
  | e::l,o,h=>by
    rw [List.foldl_cons]
    refine zdP l _ ?_
    rw [show o++e::l=(o++[e])++l by simp] at h
    exact Xn (zgZ fun y m=>h y (List.mem_append_left _ m)) (fun y m=>h y (List.mem_append_right _ m))
theorem zh3 {q:Rq} (h:EvO q.out) (k:FsOk q.h.fields):EvO (yx q).1.out:=by
  unfold yx yU
  repeat' split
  all_goals first
    |exact h
    |exact Xn (Xn h (Un k)) (Un Qc)
    |exact Xn h (Un k)
theorem zhS {q:Rq} (h:EvO q.out) (k:FsOk q.h.fields) (s:Str):EvO (zI q s).1.out:=by
  have hd:=zh3 h k
  unfold zI
  repeat' split
  all_goals first|exact hd|exact h
theorem zln {q:Rq} (h:EvO q.out) (k:FsOk q.h.fields) (c:UInt8):EvO (rqF q c).out:=by
  have hl:=zhS (q:= { q with ln:=(lnF q.ln c).1}) h k (lnF q.ln c).2.1
  have h1: ∀ (o:List Evt) (e:Evt),EvO o→e.head=hd0→EvO (o++[e]):=fun o e a b=>Xn a (Un (by rw [b];exact Qc))
  have hd:EvO (if(chF (ckOf q) c).2.1≠[] then q.out++[evB (chF (ckOf q) c).2.1] else q.out):=by
    split
    · exact h1 _ _ h rfl
    · exact h
  unfold rqF
  split
  · split
    · exact h1 _ _ (h1 _ _ h rfl) rfl
    · exact h1 _ _ h rfl
  split
  · split
    · exact h1 _ _ h rfl
    split
    · exact h1 _ _ hd rfl
    · exact hd
  split
  · split
    · exact h1 _ _ h rfl
    split
    · split
      · exact h1 _ _ hl rfl
      · exact hl
    · exact h
  · exact h
theorem zfq: ∀ (b:Str) (q:Rq) (i:Nat),RqI q i→i+b.length≤1000000→EvO q.out→EvO (xC q b).out
  |[],q,i,_,_,h=>h
  | c::b,q,i,hi,hb,h=>by
    rw [List.length_cons] at hb
    exact zfq b _ (i+1) (zem hi c) (by omega) (zln h ⟨by have:=hi.fl;omega,fun f m=>by have:=hi.ff f m;omega⟩ c)
theorem zhY {b:Str} (h:b.length≤1000000):EvO (zF (yh rq0 b).out):=zdP _ [] (zfq b _ 0 zhW (by omega) (fun e m=>by cases m))
theorem zhX {b:Str} (h:b.length≤1000000):(zF (yh rq0 b).out).length≤4000000:=by
  have h1:=ql (yh rq0 b).out
  have h2: ∀ (b:Str) (q:Rq) (i:Nat),RqI q i→RqI (xC q b) (i+b.length):=by
    intro b
    induction b with
    |nil=>intro q i h;exact h
    |cons c b ih=>intro q i h;have:=ih _ _ (zem h c);rw [List.length_cons,show i+(b.length+1)=i+1+b.length by omega];exact this
  have h3:=(h2 b rq0 0 zhW).on
  have h4:(yh rq0 b).out=(xC rq0 b).out:=rfl
  rw [← h4] at h3
  omega
end Go.Proofs.YtmibhbdfigpkmaaGreatDoor
namespace Go.Proofs.YtmibhbdfigpkmaaGreatDoor
open Go Go.Sep Go.Ab
set_option maxRecDepth 100000
theorem zej (x y:Str):Spc Tryz.prog 16 [.v (.one (.p (.list .byte x))),.v (.one (.p (.list .byte y)))] [] (.ret (.v (.one (.p (.bool (x == y)))))) []:=by
  refine spcG zi mixed Tryz.func16 (by kernel_rfl) { keep:=some [0,1,4]} [] (by kernel_rfl) ?_
  intro I X hI hX
  refine zh (.fin (.ret (.v (.one (.p (.bool (I.seq x y)))))) []) (by kernel_rfl) ?_
  simp only [zy]
  subst hI
  exact⟨rfl,trivial⟩
def vW (I:Alg) (args:List D) (hp:List HO):Option CT:=match args,hp with
  |[.v (.one (.p (.list .byte x))),.v (.one (.p (.list .byte y)))],[]=>(fun(x y:Str)=>(some (.one ⟨I.hid (True),(.ret (.v (.one (.p (.bool (I.hid (x == y))))))),[]⟩):Option CT)) x y
  |_,_=>none
theorem Xy:zD Tryz.prog 16 (vW alg):=by
  intro args hp r h
  unfold vW at h
  split at h
  · cases h;exact fun hn=>zej _ _
  · cases h
def wI:Know Tryz.prog:=⟨16,vW,Xy⟩
def wH:Know Tryz.prog:=⟨16,fun I=>zH I (vW I),zf Xy⟩
end Go.Proofs.YtmibhbdfigpkmaaGreatDoor
namespace Go.Proofs.YtmibhbdfigpkmaaGreatDoor
open Go Go.Sep Go.Ab
set_option maxRecDepth 100000
def hdB (a b:Str) (c:Int) (f:List Fld) (d:Int) (a2 b2:Str) (c2:Int) (f2:List Fld) (d2:Int):Bool:=decide ((⟨a,b,c,f,d⟩:Hd)=⟨a2,b2,c2,f2,d2⟩)
def ptB (a b c d a2 b2 c2 d2:Str):Bool:=decide ((⟨a,b,c,d⟩:Prt)=⟨a2,b2,c2,d2⟩)
theorem zjV {x y:Hd}:hdB x.method x.target x.minor x.fields x.length y.method y.target y.minor y.fields y.length=true↔x=y:=by unfold hdB;exact decide_eq_true_iff
theorem zjA {x y:Prt}:ptB x.name x.file x.type x.bytes y.name y.file y.type y.bytes=true↔x=y:=by unfold ptB;exact decide_eq_true_iff
theorem zjl (a b:Str) (c:Int) (f:List Fld) (d:Int) (a2 b2:Str) (c2:Int) (f2:List Fld) (d2:Int) (hneed:f.length≤140737488355328∧f2.length≤140737488355328):Spc Tryz.prog 29 [.v (.agg [(.p (.str a)),(.p (.str b)),(.p (.int .i64 c)),(.p (.list .fld f)),(.p (.int .i64 d))]),.v (.agg [(.p (.str a2)),(.p (.str b2)),(.p (.int .i64 c2)),(.p (.list .fld f2)),(.p (.int .i64 d2))])] [] (.ret (.v (.one (.p (.bool ((hdB a b c f d a2 b2 c2 f2 d2))))))) []:=by
  refine spcG zi mixed Tryz.func29 (by kernel_rfl) { keep:=some [0,1,2,3,4]} [zhP,zhO] (by kernel_rfl) ?_
  intro I X hI hX
  refine zh (.br (I.seq a a2) (.br (I.seq b b2) (.br (I.ieq c c2) (.br (I.ieq d d2) (.need (I.hid (α:=(Prop)) (And (LE.le (List.length f) 140737488355328) (LE.le (List.length f2) 140737488355328))) (.fin (.ret (.v (.one (.p (.bool (I.hid (α:=Bool) (Decidable.decide (Eq f f2)))))))) [])) (.fin (.ret (.v (.one (.p (.bool Bool.false))))) [])) (.fin (.ret (.v (.one (.p (.bool Bool.false))))) [])) (.fin (.ret (.v (.one (.p (.bool Bool.false))))) [])) (.fin (.ret (.v (.one (.p (.bool Bool.false))))) [])) (by kernel_rfl) ?_
  simp only [zy]
  subst hI
  simp only [nrmA,nrmB,nrlB,reduceCtorEq]
  unfold hdB
  rw [show decide ((⟨a,b,c,f,d⟩:Hd)=⟨a2,b2,c2,f2,d2⟩)=(decide (a=a2)&&decide (b=b2)&&decide (c=c2)&&decide (d=d2)&&decide (f=f2)) by rw [Bool.eq_iff_iff];simp only [Hd.mk.injEq,decide_eq_true_iff,Bool.and_eq_true];constructor<;>(intro h;simp [h])]
  (repeat' (first|refine And.intro ?_ ?_|intro _))<;>first|omega|exact True.intro|exact False.elim ‹False›|skip
  all_goals first|exact hneed|(simp_all;done)|trace_state
def Z4 (I:Alg) (args:List D) (hp:List HO):Option CT:=match args,hp with
  |[.v (.agg [(.p (.str a)),(.p (.str b)),(.p (.int .i64 c)),(.p (.list .fld f)),(.p (.int .i64 d))]),.v (.agg [(.p (.str a2)),(.p (.str b2)),(.p (.int .i64 c2)),(.p (.list .fld f2)),(.p (.int .i64 d2))])],[]=>(fun(a b:Str) (c:Int) (f:List Fld) (d:Int) (a2 b2:Str) (c2:Int) (f2:List Fld) (d2:Int)=>(some (.one ⟨I.hid (f.length≤140737488355328∧f2.length≤140737488355328),(.ret (.v (.one (.p (.bool (I.hid ((hdB a b c f d a2 b2 c2 f2 d2)))))))),[]⟩):Option CT)) a b c f d a2 b2 c2 f2 d2
  |_,_=>none
theorem Q7:zD Tryz.prog 29 (Z4 alg):=by
  intro args hp r h
  unfold Z4 at h
  split at h
  · cases h;exact fun hn=>zjl _ _ _ _ _ _ _ _ _ _ hn
  · cases h
def Q5:Know Tryz.prog:=⟨29,Z4,Q7⟩
def QZ:Know Tryz.prog:=⟨29,fun I=>zH I (Z4 I),zf Q7⟩
theorem zjk (a b c d a2 b2 c2 d2:Str):Spc Tryz.prog 30 [.v (.agg [(.p (.str a)),(.p (.str b)),(.p (.str c)),(.p (.list .byte d))]),.v (.agg [(.p (.str a2)),(.p (.str b2)),(.p (.str c2)),(.p (.list .byte d2))])] [] (.ret (.v (.one (.p (.bool ((ptB a b c d a2 b2 c2 d2))))))) []:=by
  refine spcG zi mixed Tryz.func30 (by kernel_rfl) { keep:=some [0,1,2,3,4]} [wI,wH] (by kernel_rfl) ?_
  intro I X hI hX
  refine zh (.br (I.seq a a2) (.br (I.seq b b2) (.br (I.seq c c2) (.need (I.hid (α:=(Prop)) True) (.fin (.ret (.v (.one (.p (.bool (I.hid (α:=Bool) (BEq.beq d d2))))))) [])) (.fin (.ret (.v (.one (.p (.bool Bool.false))))) [])) (.fin (.ret (.v (.one (.p (.bool Bool.false))))) [])) (.fin (.ret (.v (.one (.p (.bool Bool.false))))) [])) (by kernel_rfl) ?_
  simp only [zy]
  subst hI
  simp only [nrmA,nrmB,nrlB,reduceCtorEq]
  unfold ptB
  rw [show decide ((⟨a,b,c,d⟩:Prt)=⟨a2,b2,c2,d2⟩)=(decide (a=a2)&&decide (b=b2)&&decide (c=c2)&&(d == d2)) by rw [Bool.eq_iff_iff];simp only [Prt.mk.injEq,decide_eq_true_iff,Bool.and_eq_true,beq_iff_eq];constructor<;>(intro h;simp [h])]
  (repeat' (first|refine And.intro ?_ ?_|intro _))<;>first|omega|exact True.intro|exact False.elim ‹False›|skip
  all_goals first|(simp_all;done)|trace_state
def ZY (I:Alg) (args:List D) (hp:List HO):Option CT:=match args,hp with
  |[.v (.agg [(.p (.str a)),(.p (.str b)),(.p (.str c)),(.p (.list .byte d))]),.v (.agg [(.p (.str a2)),(.p (.str b2)),(.p (.str c2)),(.p (.list .byte d2))])],[]=>(fun(a b c d a2 b2 c2 d2:Str)=>(some (.one ⟨I.hid (True),(.ret (.v (.one (.p (.bool (I.hid ((ptB a b c d a2 b2 c2 d2)))))))),[]⟩):Option CT)) a b c d a2 b2 c2 d2
  |_,_=>none
theorem QY:zD Tryz.prog 30 (ZY alg):=by
  intro args hp r h
  unfold ZY at h
  split at h
  · cases h;exact fun hn=>zjk _ _ _ _ _ _ _ _
  · cases h
def QX:Know Tryz.prog:=⟨30,ZY,QY⟩
def QW:Know Tryz.prog:=⟨30,fun I=>zH I (ZY I),zf QY⟩
theorem zix {α:Type} [DecidableEq α] {l m:List α} {i:Nat} (d:α) (h1:i<l.length) (h2:i<m.length):(decide (l.drop i=m.drop i))=(decide (l.getD i d=m.getD i d)&&decide (l.drop (i+1)=m.drop (i+1))):=by
  have e1:l.getD i d=l[i]:=by simp [h1]
  have e2:m.getD i d=m[i]:=by simp [h2]
  rw [e1,e2,Bool.eq_iff_iff,Bool.and_eq_true,decide_eq_true_iff,decide_eq_true_iff,decide_eq_true_iff,List.drop_eq_getElem_cons h1,List.drop_eq_getElem_cons h2,List.cons.injEq]
theorem getD_in {α:Type} {l:List α} {i:Nat} (d:α) (h:i<l.length):l.getD i d ∈ l:=by
  rw [show l.getD i d=l[i] by simp [h]];exact List.getElem_mem h
theorem zj3 {x y:Evt} (h1:x.kind=y.kind) (h2:x.code=y.code) (h3:x.bytes=y.bytes) (h4:x.head=y.head) (h5:x.part=y.part):x=y:=by cases x;cases y;simp_all
def fewE (l:List Evt):Prop:=l.length≤100000000∧∀ e ∈ l,e.head.fields.length≤140737488355328
theorem zjm (l m:List Evt) (hneed:fewE l∧fewE m):Spc Tryz.prog 11 [.v (.one (.p (.list .evt l))),.v (.one (.p (.list .evt m)))] [] (.ret (.v (.one (.p (.bool ((decide (l=m)))))))) []:=by
  obtain⟨⟨hl,hl2⟩,hm,hm2⟩:=hneed
  generalize hr:decide (l=m)=r
  refine spcG zi mixed Tryz.func11 (by kernel_rfl) { keep:=some [0,1,4,5]} [wI,wH,Q5,QZ,QX,QW] (by kernel_rfl) ?_
  intro I X hI hX
  refine zh (.br (I.bnot (I.ieq (I.len (α:=Go.Ab.Evt) l) (I.len (α:=Go.Ab.Evt) m))) (.fin (.ret (.v (.one (.p (.bool Bool.false))))) []) (.code 0 [1,1,0,1,0] ⟨[(5,(.v (.one (.p (.int .i64 0))))),(4,(.v (.one (.p (.val (.bool .false)))))),(0,(.v (.one (.p (.list .evt l))))),(1,(.v (.one (.p (.list .evt m)))))],[],83,none⟩)) (by kernel_rfl) ?_
  simp only [zy]
  refine⟨fun c1=> ?_,fun c1=> ?_⟩
  · subst hI
    simp only [nrmA,nrmB] at c1
    simp only [nrmA,nrmB]
    rw [← hr]
    exact(decide_eq_false fun e=>c1 (by rw [e])).symm
  have hlm:l.length=m.length:=by
    subst hI
    simp only [nrmA,nrmB] at c1
    omega
  refine zG hI zi mixed [wI,wH,Q5,QZ,QX,QW] hX [0,1,5] (fun(i:Nat)=>i≤l.length∧r=decide (l.drop i=m.drop i)) (fun(i:Nat)=>⟨[(0,.v (.one (.p (.list .evt l)))),(1,.v (.one (.p (.list .evt m)))),(5,.v (.one (.p (.int .i64 i))))],[],83,none⟩) (fun(i:Nat)=>l.length - i) 0 (by kernel_rfl) (by kernel_rfl) ?_ ?_
  · exact⟨Nat.zero_le _,hr.symm⟩
  rintro i ⟨h1,h2⟩ A hA
  refine zh (let y0:=I.get (α:=Go.Ab.Evt) l (Go.Ab.Evt.mk (0:Int) (Hd.mk ([]:Str) ([]:Str) (0:Int) ([]:List Fld) (0:Int)) ([]:Str) (Go.Ab.Prt.mk ([]:Str) ([]:Str) ([]:Str) ([]:Str)) (0:Int)) (Nat.cast i);let y1:=I.get (α:=Go.Ab.Evt) m (Go.Ab.Evt.mk (0:Int) (Hd.mk ([]:Str) ([]:Str) (0:Int) ([]:List Fld) (0:Int)) ([]:Str) (Go.Ab.Prt.mk ([]:Str) ([]:Str) ([]:Str) ([]:Str)) (0:Int)) (Nat.cast i);let y2:=I.inb (Nat.cast i) (I.len (α:=Go.Ab.Evt) l);let y3:=I.inb (Nat.cast i) (I.len (α:=Go.Ab.Evt) m);.br (I.ilt (Nat.cast i) (I.len (α:=Go.Ab.Evt) l)) (.need y2 (.need y2 (.need y3 (.need y3 (.br (I.bnot (I.ieq (Go.Ab.Evt.kind y0) (Go.Ab.Evt.kind y1))) (.fin (.ret (.v (.one (.p (.bool Bool.false))))) []) (.need y2 (.need y2 (.need y3 (.need y3 (.br (I.bnot (I.ieq (Go.Ab.Evt.code y0) (Go.Ab.Evt.code y1))) (.fin (.ret (.v (.one (.p (.bool Bool.false))))) []) (.need y2 (.need y2 (.need y3 (.need y3 (.need (I.hid (α:=(Prop)) True) (.br (I.bnot (I.hid (α:=Bool) (BEq.beq (Go.Ab.Evt.bytes y0) (Go.Ab.Evt.bytes y1)))) (.fin (.ret (.v (.one (.p (.bool Bool.false))))) []) (.need y2 (.need y2 (.need y3 (.need y3 (.need (I.hid (α:=(Prop)) (And (LE.le (List.length (Hd.fields (Go.Ab.Evt.head y0))) 140737488355328) (LE.le (List.length (Hd.fields (Go.Ab.Evt.head y1))) 140737488355328))) (.br (I.bnot (I.hid (α:=Bool) (hdB (Hd.method (Go.Ab.Evt.head y0)) (Hd.target (Go.Ab.Evt.head y0)) (Hd.minor (Go.Ab.Evt.head y0)) (Hd.fields (Go.Ab.Evt.head y0)) (Hd.length (Go.Ab.Evt.head y0)) (Hd.method (Go.Ab.Evt.head y1)) (Hd.target (Go.Ab.Evt.head y1)) (Hd.minor (Go.Ab.Evt.head y1)) (Hd.fields (Go.Ab.Evt.head y1)) (Hd.length (Go.Ab.Evt.head y1))))) (.fin (.ret (.v (.one (.p (.bool Bool.false))))) []) (.need y2 (.need y2 (.need y3 (.need y3 (.need (I.hid (α:=(Prop)) True) (.br (I.bnot (I.hid (α:=Bool) (ptB (Go.Ab.Prt.name (Go.Ab.Evt.part y0)) (Go.Ab.Prt.file (Go.Ab.Evt.part y0)) (Go.Ab.Prt.type (Go.Ab.Evt.part y0)) (Go.Ab.Prt.bytes (Go.Ab.Evt.part y0)) (Go.Ab.Prt.name (Go.Ab.Evt.part y1)) (Go.Ab.Prt.file (Go.Ab.Evt.part y1)) (Go.Ab.Prt.type (Go.Ab.Evt.part y1)) (Go.Ab.Prt.bytes (Go.Ab.Evt.part y1))))) (.fin (.ret (.v (.one (.p (.bool Bool.false))))) []) (.need (I.inr Go.IntKind.i64 (I.add (Nat.cast i) 1)) (.need (A ⟨[(0,(.v (.one (.p (.list .evt l))))),(1,(.v (.one (.p (.list .evt m))))),(5,(.v (.one (.p (.int .i64 (I.add (Nat.cast i) 1))))))],[],83,none⟩) .qed)))))))))))))))))))))))))))))) (.fin (.ret (.v (.one (.p (.bool Bool.true))))) [])) (by kernel_rfl) ?_
  simp only [zy]
  subst hI
  simp only [nrmA,nrmB,nrlB,reduceCtorEq]
  have hd:i<l.length→_:=fun h=>zix (l:=l) (m:=m) (i:=i) ⟨0,⟨[],[],0,[],0⟩,[],⟨[],[],[],[]⟩,0⟩ h (by omega)
  have hend: ¬ i<l.length→r=true:=fun h=>by
    rw [h2,List.drop_of_length_le (by omega),List.drop_of_length_le (by omega)];simp
  have hfx:i<l.length→(l.getD i ⟨0,⟨[],[],0,[],0⟩,[],⟨[],[],[],[]⟩,0⟩).head.fields.length≤140737488355328:=fun h=>hl2 _ (by simp [h])
  have hfy:i<l.length→(m.getD i ⟨0,⟨[],[],0,[],0⟩,[],⟨[],[],[],[]⟩,0⟩).head.fields.length≤140737488355328:=fun h=>hm2 _ (getD_in _ (by omega))
  generalize l.getD i ⟨0,⟨[],[],0,[],0⟩,[],⟨[],[],[],[]⟩,0⟩=x at *
  generalize m.getD i ⟨0,⟨[],[],0,[],0⟩,[],⟨[],[],[],[]⟩,0⟩=y at *
  have hx: ¬ x=y→i<l.length→r=false:=fun h hi=>by rw [h2,hd hi,decide_eq_false h,Bool.false_and]
  have hy:x=y→i<l.length→r=decide (l.drop (i+1)=m.drop (i+1)):=fun h hi=>by rw [h2,hd hi,decide_eq_true h,Bool.true_and]
  have hbh:=zjV (x:=x.head) (y:=y.head)
  have hbp:=zjA (x:=x.part) (y:=y.part)
  generalize hdB x.head.method x.head.target x.head.minor x.head.fields x.head.length y.head.method y.head.target y.head.minor y.head.fields y.head.length=B1 at *
  generalize ptB x.part.name x.part.file x.part.type x.part.bytes y.part.name y.part.file y.part.type y.part.bytes=B2 at *
  (repeat' (first|refine And.intro ?_ ?_|intro _))<;>first|omega|exact True.intro|exact False.elim ‹False›|skip
  all_goals first
    |omega
    |(exact(hx (by rintro rfl;simp_all) (by omega)).symm)
    |(rw [hx (by rintro rfl;simp_all) (by omega)])
    |exact hA (i+1) ⟨by omega,hy (zj3 (by simp_all) (by simp_all) (by simp_all) (by simp_all) (by simp_all)) (by omega)⟩ (by omega)
    |(rw [hend (by omega)])
def Z5 (I:Alg) (args:List D) (hp:List HO):Option CT:=match args,hp with
  |[.v (.one (.p (.list .evt l))),.v (.one (.p (.list .evt m)))],[]=>(fun(l m:List Evt)=>(some (.one ⟨I.hid (fewE l∧fewE m),(.ret (.v (.one (.p (.bool (I.hid ((decide (l=m))))))))),[]⟩):Option CT)) l m
  |_,_=>none
theorem zaa:zD Tryz.prog 11 (Z5 alg):=by
  intro args hp r h
  unfold Z5 at h
  split at h
  · cases h;exact fun hn=>zjm _ _ hn
  · cases h
def Q9:Know Tryz.prog:=⟨11,Z5,zaa⟩
def Q8:Know Tryz.prog:=⟨11,fun I=>zH I (Z5 I),zf zaa⟩
end Go.Proofs.YtmibhbdfigpkmaaGreatDoor
namespace Go.Proofs.YtmibhbdfigpkmaaGreatDoor
open Go Go.Sep Go.Ab
set_option maxRecDepth 100000
theorem zhU (l:List Evt) (hneed:zN l≤1000000∧l.length≤10000000):Spc Tryz.prog 17 [.v (.one (.p (.list .evt l)))] [] (.ret (.v (.one (.row 0)))) [.row .evt 32 ((zF l))]:=by
  obtain⟨hn1,hn2⟩:=hneed
  refine spcG zi mixed Tryz.func17 (by kernel_rfl) { nr:=[3],keep:=some [0,2,3,5,6,7,8,9,10]} [xu,xq] (by kernel_rfl) ?_
  intro I X hI hX
  refine zh (.code 0 [1,1,0,1,0] ⟨[(10,(.v (.one (.p (.int .i64 0))))),(9,(.v (.one (.p (.int .i64 (I.len (α:=Go.Ab.Evt) l)))))),(8,(.v (.one (.p (.list .evt l))))),(3,(.v (.one (.row 0)))),(2,(.v (.one .nilS))),(0,(.v (.one (.p (.list .evt l)))))],[(.row .evt 32 ([]:List Go.Ab.Evt))],52,none⟩) (by kernel_rfl) ?_
  simp only [zy]
  refine zG hI zi mixed [xu,xq] hX [0,3,8,9,10] (fun(g:Nat × List Evt)=>match g with|(i,o)=>i≤l.length∧o=zF (l.take i)) (fun(g:Nat × List Evt)=>match g with|(i,o)=>⟨[(0,.v (.one (.p (.list .evt l)))),(3,.v (.one (.row 0))),(8,.v (.one (.p (.list .evt l)))),(9,.v (.one (.p (.int .i64 ((I.len (α:=Evt) l)))))),(10,.v (.one (.p (.int .i64 i))))],[.row .evt 32 o],52,none⟩) (fun(g:Nat × List Evt)=>match g with|(i,o)=>l.length - i) (0,[]) (by kernel_rfl) (by kernel_rfl) ?_ ?_
  · exact⟨Nat.zero_le _,rfl⟩
  rintro⟨i,o⟩ ⟨h1,h2⟩ A hA
  simp only at hA h1 h2
  refine zh (let y0:=I.get (α:=Go.Ab.Evt) l (Go.Ab.Evt.mk (0:Int) (Hd.mk ([]:Str) ([]:Str) (0:Int) ([]:List Fld) (0:Int)) ([]:Str) (Go.Ab.Prt.mk ([]:Str) ([]:Str) ([]:Str) ([]:Str)) (0:Int)) (Nat.cast i);let y1:=I.few (I.add (I.len (α:=Go.Ab.Evt) o) (I.len (α:=Go.Ab.Evt) ([(Go.Ab.Evt.mk (Go.Ab.Evt.kind y0) (Hd.mk (Hd.method (Go.Ab.Evt.head y0)) (Hd.target (Go.Ab.Evt.head y0)) (Hd.minor (Go.Ab.Evt.head y0)) (Hd.fields (Go.Ab.Evt.head y0)) (Hd.length (Go.Ab.Evt.head y0))) (Go.Ab.Evt.bytes y0) (Go.Ab.Prt.mk (Go.Ab.Prt.name (Go.Ab.Evt.part y0)) (Go.Ab.Prt.file (Go.Ab.Evt.part y0)) (Go.Ab.Prt.type (Go.Ab.Evt.part y0)) (Go.Ab.Prt.bytes (Go.Ab.Evt.part y0))) (Go.Ab.Evt.code y0))]:List Go.Ab.Evt))) 100000000;let y2:HO:=.row .evt 32 (I.app (α:=Go.Ab.Evt) o ([(Go.Ab.Evt.mk (Go.Ab.Evt.kind y0) (Hd.mk (Hd.method (Go.Ab.Evt.head y0)) (Hd.target (Go.Ab.Evt.head y0)) (Hd.minor (Go.Ab.Evt.head y0)) (Hd.fields (Go.Ab.Evt.head y0)) (Hd.length (Go.Ab.Evt.head y0))) (Go.Ab.Evt.bytes y0) (Go.Ab.Prt.mk (Go.Ab.Prt.name (Go.Ab.Evt.part y0)) (Go.Ab.Prt.file (Go.Ab.Evt.part y0)) (Go.Ab.Prt.type (Go.Ab.Evt.part y0)) (Go.Ab.Prt.bytes (Go.Ab.Evt.part y0))) (Go.Ab.Evt.code y0))]:List Go.Ab.Evt));let y6:=I.sub (I.len (α:=Go.Ab.Evt) o) 1;let y3:=I.get (α:=Go.Ab.Evt) o (Go.Ab.Evt.mk (0:Int) (Hd.mk ([]:Str) ([]:Str) (0:Int) ([]:List Fld) (0:Int)) ([]:Str) (Go.Ab.Prt.mk ([]:Str) ([]:Str) ([]:Str) ([]:Str)) (0:Int)) y6;let y4:=I.inb y6 (I.len (α:=Go.Ab.Evt) o);let y5:=I.inr Go.IntKind.i64 (I.add (Nat.cast i) 1);let y7:=I.inb (Nat.cast i) (I.len (α:=Go.Ab.Evt) l);let y8:=I.len (α:=UInt8) (Go.Ab.Evt.bytes y3);.br (I.ilt (Nat.cast i) (I.len (α:=Go.Ab.Evt) l)) (.need y7 (.need y7 (.need (I.inr Go.IntKind.i64 y6) (.br (I.ieq (Go.Ab.Evt.kind y0) 2) (.br (I.ile 0 y6) (.need y4 (.need y4 (.br (I.ieq (Go.Ab.Evt.kind y3) 2) (.need y4 (.need y4 (.need (I.few y8 140737488355328) (.need (I.few (I.add y8 (I.len (α:=UInt8) (Go.Ab.Evt.bytes y0))) 140737488355328) (.need y4 (.need y4 (.need y5 (.need (A ⟨[(0,(.v (.one (.p (.list .evt l))))),(3,(.v (.one (.row 0)))),(8,(.v (.one (.p (.list .evt l))))),(9,(.v (.one (.p (.int .i64 (I.len (α:=Go.Ab.Evt) l)))))),(10,(.v (.one (.p (.int .i64 (I.add (Nat.cast i) 1))))))],[(.row .evt 32 (I.set (α:=Go.Ab.Evt) o y6 (Go.Ab.Evt.mk (2:Int) (Hd.mk ([]:Str) ([]:Str) (0:Int) ([]:List Fld) (0:Int)) (I.app (α:=UInt8) (Go.Ab.Evt.bytes y3) (Go.Ab.Evt.bytes y0)) (Go.Ab.Prt.mk ([]:Str) ([]:Str) ([]:Str) ([]:Str)) (0:Int))))],52,none⟩) .qed)))))))) (.need y1 (.need y5 (.need (A ⟨[(0,(.v (.one (.p (.list .evt l))))),(3,(.v (.one (.row 0)))),(8,(.v (.one (.p (.list .evt l))))),(9,(.v (.one (.p (.int .i64 (I.len (α:=Go.Ab.Evt) l)))))),(10,(.v (.one (.p (.int .i64 (I.add (Nat.cast i) 1))))))],[y2],52,none⟩) .qed)))))) (.need y1 (.need y5 (.need (A ⟨[(0,(.v (.one (.p (.list .evt l))))),(3,(.v (.one (.row 0)))),(8,(.v (.one (.p (.list .evt l))))),(9,(.v (.one (.p (.int .i64 (I.len (α:=Go.Ab.Evt) l)))))),(10,(.v (.one (.p (.int .i64 (I.add (Nat.cast i) 1))))))],[y2],52,none⟩) .qed)))) (.need y1 (.need y5 (.need (A ⟨[(0,(.v (.one (.p (.list .evt l))))),(3,(.v (.one (.row 0)))),(8,(.v (.one (.p (.list .evt l))))),(9,(.v (.one (.p (.int .i64 (I.len (α:=Go.Ab.Evt) l)))))),(10,(.v (.one (.p (.int .i64 (I.add (Nat.cast i) 1))))))],[y2],52,none⟩) .qed))))))) (.fin (.ret (.v (.one (.row 0)))) [(.row .evt 32 o)])) (by kernel_rfl) ?_
  simp only [zy]
  subst hI
  simp only [nrmA,nrmB,nrlB,reduceCtorEq]
  have hl1:=ql (l.take i)
  have hl2:(l.take i).length≤i:=by rw [List.length_take];omega
  have hl3:=V6 (l.take i)
  have hl4: ∀ x ∈ zF (l.take i),x.bytes.length≤1000000:=fun x h=>by
    have a:=tK h
    have b:=Xm l i
    omega
  have hw: ¬ i<l.length→o=zF l:=fun h=>by rw [h2,List.take_of_length_le (by omega)]
  have hy:i<l.length→zF (l.take (i+1))=vT o (l.getD i ⟨0,⟨[],[],0,[],0⟩,[],⟨[],[],[],[]⟩,0⟩):=fun h=>by rw [List.take_succ_eq_append_getElem h,Zf,h2];simp [h]
  have hl5:i<l.length→(l.getD i ⟨0,⟨[],[],0,[],0⟩,[],⟨[],[],[],[]⟩,0⟩).bytes.length≤1000000:=fun h=>by
    have:l.getD i ⟨0,⟨[],[],0,[],0⟩,[],⟨[],[],[],[]⟩,0⟩ ∈ l:=by simp [h]
    have:=tK this
    omega
  rw [← h2] at hl1 hl4
  refine⟨fun c=> ?_,fun c=>hw (by omega)⟩
  have hlt:i<l.length:=by omega
  have hy:=hy hlt
  have hl5:=hl5 hlt
  generalize l.getD i ⟨0,⟨[],[],0,[],0⟩,[],⟨[],[],[],[]⟩,0⟩=e at *
  have hgo: ∀ r:List Evt,r=vT o e→(fun p:Nat × List Evt=>p.1≤l.length∧p.2=zF (l.take p.1)) (i+1,r):=fun r h=>⟨by simp only;omega,by simp only;rw [hy,h]⟩
  rcases List.eq_nil_or_concat o with he|⟨z,x,he⟩
  · subst he
    rw [tJ] at hgo
    simp only [List.length_cons,List.length_nil]
    (repeat' (first|refine And.intro ?_ ?_|intro _))<;>first|omega|exact True.intro|exact False.elim ‹False›|skip
    all_goals first
      |omega
      |exact hA (i+1,_) (hgo _ rfl) (by simp only;omega)
  · rw [List.concat_eq_append] at he
    subst he
    have hx:=hl4 x (List.mem_append_right _ (List.mem_singleton.2 rfl))
    have hz:(((z++[x]).length:Int) - 1).toNat=z.length:=by rw [List.length_append,List.length_singleton];omega
    have hg: ∀ d,(z++[x]).getD z.length d=x:=fun d=>by simp
    have hs: ∀ d,(z++[x]).set z.length d=z++[d]:=fun d=>by simp
    rw [yR] at hgo
    rw [List.length_append,List.length_singleton] at hl1
    simp only [hz,hg,hs]
    simp only [List.length_append,List.length_cons,List.length_nil]
    clear hz hg hs
    (repeat' (first|refine And.intro ?_ ?_|intro _))<;>first|omega|exact True.intro|exact False.elim ‹False›|skip
    all_goals first
      |omega
      |(rw [if_pos ⟨‹e.kind=2›,‹x.kind=2›⟩] at hgo;exact hA (i+1,_) (hgo _ rfl) (by simp only;omega))
      |(rw [if_neg (fun h=>‹¬ e.kind=2› h.1)] at hgo;exact hA (i+1,_) (hgo _ rfl) (by simp only;omega))
      |(rw [if_neg (fun h=>‹¬ x.kind=2› h.2)] at hgo;exact hA (i+1,_) (hgo _ rfl) (by simp only;omega))
def qR (I:Alg) (args:List D) (hp:List HO):Option CT:=match args,hp with
  |[.v (.one (.p (.list .evt l)))],[]=>(fun(l:List Evt)=>(some (.one ⟨I.hid (zN l≤1000000∧l.length≤10000000),(.ret (.v (.one (.row 0)))),[.row .evt 32 (I.hid ((zF l)))]⟩):Option CT)) l
  |_,_=>none
theorem U4:zD Tryz.prog 17 (qR alg):=by
  intro args hp r h
  unfold qR at h
  split at h
  · cases h;exact fun hn=>zhU _ hn
  · cases h
def U3:Know Tryz.prog:=⟨17,qR,U4⟩
def U2:Know Tryz.prog:=⟨17,fun I=>zH I (qR I),zf U4⟩
theorem zj1 {l:List Evt} (h:EvO l) (k:l.length≤10000000):fewE l:=⟨by omega,fun e m=>by have:=(h e m).1;omega⟩
theorem zgy {P:Evt→Prop} (hB: ∀ b,P (evB b)) {o:List Evt} {e:Evt} (h: ∀ x ∈ o,P x) (he:P e): ∀ x ∈ vT o e,P x:=by
  rcases List.eq_nil_or_concat o with rfl|⟨z,x,rfl⟩
  · intro y hy;rw [tJ,List.mem_singleton] at hy;rw [hy];exact he
  · rw [List.concat_eq_append] at h ⊢
    rw [yR]
    intro y hy
    split at hy
    · rcases List.mem_append.1 hy with hy|hy
      · exact h y (List.mem_append_left _ hy)
      · rw [List.mem_singleton.1 hy];exact hB _
    · rcases List.mem_append.1 hy with hy|hy
      · exact h y hy
      · rw [List.mem_singleton.1 hy];exact he
theorem zgz {P:Evt→Prop} (hB: ∀ b,P (evB b)) {l:List Evt} (h: ∀ x ∈ l,P x): ∀ x ∈ zF l,P x:=by
  suffices ∀ (l o:List Evt),(∀ x ∈ o,P x)→(∀ x ∈ l,P x)→∀ x ∈ l.foldl vT o,P x from this l [] (fun x hx=>by cases hx) h
  intro l
  induction l with
  |nil=>intro o ho _;exact ho
  |cons e l ih=>intro o ho hl;rw [List.foldl_cons];exact ih _ (zgy hB ho (hl e (List.mem_cons_self ..))) (fun x hx=>hl x (List.mem_cons_of_mem _ hx))
theorem zg6 {G:List Evt} (h:0<(G.length:Int)) (d:Evt):((G.getD ((G.length:Int) - 1).toNat d).kind == 4)=YG G:=by
  rcases List.eq_nil_or_concat G with rfl|⟨z,x,rfl⟩
  · simp at h
  · rw [List.concat_eq_append,tN,show(((z++[x]).length:Int) - 1).toNat=z.length by rw [List.length_append,List.length_singleton];omega]
    simp
    rfl
def zk3 (l:List Evt):Prop:=∀ e ∈ l,e.head.fields.length≤140737488355328∧e.bytes.length≤140737488355328
theorem zgY {l:List Evt} (h:zk3 l):zN l≤l.length * 140737488355328:=by
  induction l with
  |nil=>simp [zN]
  | cons e l ih=>
    have h1:=ih (fun x hx=>h x (List.mem_cons_of_mem _ hx))
    have h2:=(h e (List.mem_cons_self ..)).2
    have h3:zN (e::l)=e.bytes.length+zN l:=by simp [zN]
    rw [h3,List.length_cons,Nat.succ_mul];omega
theorem zj4 {l:List Evt} {i:Nat} (h:i<l.length) (d:Evt):zN (l.take (i+1))=zN (l.take i)+(l.getD i d).bytes.length:=by
  rw [List.take_succ_eq_append_getElem h,yO,yT];simp [h]
theorem rqDoes_ (b m t:Str) (mi:Int) (fs:List Fld) (le:Int) (y:Str) (l:List Evt) (hneed:(m.length≤140737488355328∧t.length≤140737488355328)∧(∀ f ∈ fs,f.name.length≤140737488355328∧f.value.length≤140737488355328)∧zk3 l):Spc Tryz.prog 3 [.v (.one (.p (.list .byte b))),.v (.agg [(.p (.str m)),(.p (.str t)),(.p (.int .i64 mi)),(.p (.list .fld fs)),(.p (.int .i64 le))]),.v (.one (.p (.list .byte y))),.v (.one (.p (.list .evt l)))] [] (.ret (.v (.one (.p (.bool true))))) []:=by
  obtain⟨⟨hm0,ht0⟩,hfs,hl0⟩:=hneed
  have hO:=zhY (b:=b)
  have hN:=zhX (b:=b)
  obtain⟨ha1,ha2,ha3⟩:=zfW b
  refine spcG zi mixed Tryz.func3 (by kernel_rfl) { cfgQ with fz:=[11],keep:=some [0,1,2,3,5,8,9,10,11,12,13,14,15,16,17,18,19]} [zdD,zdC,S9,SY,zal,zak,Vt,Vs,Vx,Vw,xu,xq,U3,U2,Vr,Vq,Y8,Y7,Ti,Tf,zc1,zc0,U6,U5,wI,wH,Q9,Q8] (by kernel_rfl) ?_
  intro I X hI hX
  refine zh (let y0:=I.add (I.len (α:=UInt8) m) (I.len (α:=UInt8) t);.need (I.hid (α:=(Prop)) True) (.br (I.bnot Bool.true) (.fin (.ret (.v (.one (.p (.bool Bool.false))))) []) (.br (I.ilt 20000 (I.len (α:=UInt8) b)) (.fin (.ret (.v (.one (.p (.bool Bool.true))))) []) (.br (I.ilt 9000 (I.len (α:=UInt8) y)) (.fin (.ret (.v (.one (.p (.bool Bool.true))))) []) (.need (I.hid (α:=(Prop)) (∀ (f:Fld),f ∈ fs→List.length f.name≤140737488355328∧List.length f.value≤140737488355328)) (.br (I.hid (α:=Bool) (XK fs)) (.fin (.ret (.v (.one (.p (.bool Bool.true))))) []) (.need (I.inr Go.IntKind.i64 y0) (.br (I.ilt 2000 y0) (.fin (.ret (.v (.one (.p (.bool Bool.true))))) []) (.br (I.ilt 60 (I.len (α:=Go.Ab.Evt) l)) (.fin (.ret (.v (.one (.p (.bool Bool.true))))) []) (.code 0 [1,1,1,1,0,1,0] ⟨[(10,(.v (.one (.p (.int .i64 0))))),(9,(.v (.one (.p (.int .i64 0))))),(8,(.v (.one (.p (.val (.bool .false)))))),(5,(.v (.one (.ptr 0 0)))),(0,(.v (.one (.p (.list .byte b))))),(1,(.v (.agg [(.p (.str m)),(.p (.str t)),(.p (.int .i64 mi)),(.p (.list .fld fs)),(.p (.int .i64 le))]))),(2,(.v (.one (.p (.list .byte y))))),(3,(.v (.one (.p (.list .evt l)))))],[(.obj 25 [(.p (.str m)),(.p (.str t)),(.p (.int .i64 mi)),(.p (.list .fld fs)),(.p (.int .i64 le))])],131,none⟩)))))))))) (by kernel_rfl) ?_
  simp only [zy]
  (repeat' (first|refine And.intro ?_ ?_|intro _))
  all_goals try(subst hI;(simp only [nrmA,nrmB,nrlB,reduceCtorEq] at *);first|done|trivial|omega|exact hfs|exact(hfs _ ‹_›).1|exact(hfs _ ‹_›).2)
  have hb:b.length≤20000∧y.length≤9000∧XK fs=false∧m.length+t.length≤2000∧l.length≤60:=by
    subst hI
    simp only [nrmA,nrmB,nrlB,reduceCtorEq] at *
    exact⟨by omega,by omega,‹_›,by omega,by omega⟩
  obtain⟨hb1,hb2,hb3,hb4,hb5⟩:=hb
  have hgf:fs.length≤100∧∀ f ∈ fs,f.name.length≤1000000∧f.value.length≤1000000:=by
    unfold XK at hb3
    simp only [Bool.or_eq_false_iff,decide_eq_false_iff_not,List.any_eq_false,decide_eq_true_eq] at hb3
    refine⟨by omega,fun f hf=> ?_⟩
    have:=hb3.2 f hf
    omega
  have hO:=hO (by omega)
  have hN:=hN (by omega)
  rw [ha1] at hO hN
  refine zG hI zi mixed [zdD,zdC,S9,SY,zal,zak,Vt,Vs,Vx,Vw,xu,xq,U3,U2,Vr,Vq,Y8,Y7,Ti,Tf,zc1,zc0,U6,U5,wI,wH,Q9,Q8] hX [0,2,3,5,9,10] (fun(g:Nat × Int)=>match g with|(i,n)=>i≤l.length∧n=(zN (l.take i):Nat)) (fun(g:Nat × Int)=>match g with|(i,n)=>⟨[(0,.v (.one (.p (.list .byte b)))),(2,.v (.one (.p (.list .byte y)))),(3,.v (.one (.p (.list .evt l)))),(5,.v (.one (.ptr 0 0))),(9,.v (.one (.p (.int .i64 n)))),(10,.v (.one (.p (.int .i64 i))))],[.pack [.obj 25 [(.p (.str m)),(.p (.str t)),(.p (.int .i64 mi)),(.p (.list .fld fs)),(.p (.int .i64 le))]]],131,none⟩) (fun(g:Nat × Int)=>match g with|(i,n)=>l.length - i) (0,0) (by kernel_rfl) (by kernel_rfl) ?_ ?_
  · exact⟨Nat.zero_le _,rfl⟩
  rintro⟨i,n⟩ ⟨h1,h2⟩ A hA
  simp only at hA h1 h2
  refine zh (let y0:=I.hid (α:=(List Go.Ab.Evt)) (Prod.fst (reqG (HAdd.hAdd (List.length b) 1) (Option.none) b));let y1:=I.hid (α:=(Prop)) (And (And (LE.le (List.length m) 1000000) (LE.le (List.length t) 1000000)) (And (And (LE.le (List.length fs) 1000) (∀ (f:Fld),f ∈ fs→List.length f.name≤1000000∧List.length f.value≤1000000)) (LE.le (List.length y) 1000000)));let y2:=I.hid (α:=(List Go.Ab.Evt)) (zF l);let y3:=I.add n (I.len (α:=UInt8) (Go.Ab.Evt.bytes (I.get (α:=Go.Ab.Evt) l (Go.Ab.Evt.mk (0:Int) (Hd.mk ([]:Str) ([]:Str) (0:Int) ([]:List Fld) (0:Int)) ([]:Str) (Go.Ab.Prt.mk ([]:Str) ([]:Str) ([]:Str) ([]:Str)) (0:Int)) (Nat.cast i))));let y4:=I.hid (α:=(List Go.Ab.Evt)) (zF (Go.Ab.Rq.out (yh rq0 b)));let y5:=I.bnot (I.beq (I.hid (α:=Bool) (xZ (I.hid (α:=Go.Ab.Rq) (yh rq0 b)))) (I.hid (α:=Bool) (Prod.snd (reqG (HAdd.hAdd (List.length b) 1) (Option.none) b))));let y6:=I.hid (α:=Bool) (Decidable.decide (Eq (Go.Ab.Rq.pos (I.hid (α:=Go.Ab.Rq) (I.hid (α:=Go.Ab.Rq) (yh rq0 b)))) (4:Int)));let y7:=I.sub (I.len (α:=Go.Ab.Evt) y0) 1;let y8:=I.hid (α:=Bool) (BEq.beq (I.hid (α:=Str) (rqwT m t fs y)) (I.hid (α:=Str) (rqwT m t fs y)));let y9:=I.hid (α:=Int) (rqwC m t fs y);let y10:=I.hid (α:=(Prop)) (And (LE.le (zN l) 1000000) (LE.le (List.length l) 10000000));let y11:=I.hid (α:=(Prop)) (And (LE.le (zN l) 1000000) (LE.le (List.length l) 1000000));let y12:=I.bnot (I.hid (α:=Bool) (Decidable.decide (Eq y4 y0)));let y13:=I.hid (α:=Bool) (Decidable.decide (Eq y2 y2));let y14:=I.inb (Nat.cast i) (I.len (α:=Go.Ab.Evt) l);let y15:=I.hid (α:=(Prop)) (And (fewE y4) (fewE y0));let y16:=I.hid (α:=(Prop)) (And (fewE y2) (fewE y2));let y17:=I.inb y7 (I.len (α:=Go.Ab.Evt) y0);.br (I.ilt (Nat.cast i) (I.len (α:=Go.Ab.Evt) l)) (.need y14 (.need y14 (.need (I.inr Go.IntKind.i64 y3) (.need (I.inr Go.IntKind.i64 (I.add (Nat.cast i) 1)) (.need (A ⟨[(0,(.v (.one (.p (.list .byte b))))),(2,(.v (.one (.p (.list .byte y))))),(3,(.v (.one (.p (.list .evt l))))),(5,(.v (.one (.ptr 0 0)))),(9,(.v (.one (.p (.int .i64 y3))))),(10,(.v (.one (.p (.int .i64 (I.add (Nat.cast i) 1))))))],[(.pack [(.obj 25 [(.p (.str m)),(.p (.str t)),(.p (.int .i64 mi)),(.p (.list .fld fs)),(.p (.int .i64 le))])])],131,none⟩) .qed))))) (.br (I.ilt 5000 n) (.fin (.ret (.v (.one (.p (.bool Bool.true))))) []) (.need (I.hid (α:=(Prop)) True) (.need (I.hid (α:=(Prop)) (rqN0 rq0 b)) (.need (I.hid (α:=(Prop)) (LE.le (List.length b) 200000)) (.br (I.ilt 0 (I.len (α:=Go.Ab.Evt) y0)) (.need (I.inr Go.IntKind.i64 y7) (.need y17 (.need y17 (.need y15 (.br y12 (.fin (.ret (.v (.one (.p (.bool Bool.false))))) []) (.need (I.hid (α:=(Prop)) True) (.br y5 (.fin (.ret (.v (.one (.p (.bool Bool.false))))) []) (.need (I.hid (α:=(Prop)) True) (.br (I.bnot (I.beq y6 (I.ieq (Go.Ab.Evt.kind (I.get (α:=Go.Ab.Evt) y0 (Go.Ab.Evt.mk (0:Int) (Hd.mk ([]:Str) ([]:Str) (0:Int) ([]:List Fld) (0:Int)) ([]:Str) (Go.Ab.Prt.mk ([]:Str) ([]:Str) ([]:Str) ([]:Str)) (0:Int)) y7)) 4))) (.fin (.ret (.v (.one (.p (.bool Bool.false))))) []) (.need y1 (.need y1 (.need (I.hid (α:=(Prop)) True) (.br y8 (.br (I.ieq y9 y9) (.need y10 (.need y11 (.need y16 (.fin (.ret (.v (.one (.p (.bool y13))))) [])))) (.fin (.ret (.v (.one (.p (.bool Bool.false))))) [])) (.fin (.ret (.v (.one (.p (.bool Bool.false))))) [])))))))))))))) (.need y15 (.br y12 (.fin (.ret (.v (.one (.p (.bool Bool.false))))) []) (.need (I.hid (α:=(Prop)) True) (.br y5 (.fin (.ret (.v (.one (.p (.bool Bool.false))))) []) (.need (I.hid (α:=(Prop)) True) (.br (I.bnot (I.beq y6 Bool.false)) (.fin (.ret (.v (.one (.p (.bool Bool.false))))) []) (.need y1 (.need y1 (.need (I.hid (α:=(Prop)) True) (.br y8 (.br (I.ieq y9 y9) (.need y10 (.need y11 (.need y16 (.fin (.ret (.v (.one (.p (.bool y13))))) [])))) (.fin (.ret (.v (.one (.p (.bool Bool.false))))) [])) (.fin (.ret (.v (.one (.p (.bool Bool.false))))) []))))))))))))))))) (by kernel_rfl) ?_
  simp only [zy]
  subst hI
  simp only [nrmA,nrmB,nrlB,reduceCtorEq,HO.abs.injEq,Gh.rq.injEq]
  have hn0:rqN0 rq0 b:=⟨0,zhW,by omega⟩
  rw [ha1,ha2]
  generalize reqG (b.length+1) none b=G at *
  have hG:fewE G.1:=zj1 hO (by omega)
  have hJ:fewE (zF l):=⟨by have:=ql l;omega,zgz (fun b=>by simp [evB,hd0]) fun e he=>(hl0 e he).1⟩
  have hgd:0<(G.1.length:Int)→∀ d,((G.1.getD ((G.1.length:Int) - 1).toNat d).kind == 4)=YG G.1:=fun h d=>zg6 h d
  have hdn: ¬ 0<(G.1.length:Int)→YG G.1=false:=fun h=>by
    rw [List.eq_nil_of_length_eq_zero (show G.1.length=0 by omega)];rfl
  have hnb:n≤60 * 140737488355328:=by
    have h3:=zgY (l:=l.take i) (fun e he=>hl0 e (List.mem_of_mem_take he))
    have h4:(l.take i).length≤60:=by rw [List.length_take];omega
    have h5:=Nat.mul_le_mul_right 140737488355328 h4
    omega
  have hst:i<l.length→_:=fun h=>zj4 h ⟨0,⟨[],[],0,[],0⟩,[],⟨[],[],[],[]⟩,0⟩
  have hxb:i<l.length→(l.getD i ⟨0,⟨[],[],0,[],0⟩,[],⟨[],[],[],[]⟩,0⟩).bytes.length≤140737488355328:=fun h=>(hl0 _ (getD_in _ h)).2
  have hfin: ¬ i<l.length→n=(zN l:Nat):=fun h=>by rw [h2,List.take_of_length_le (by omega)]
  generalize l.getD i ⟨0,⟨[],[],0,[],0⟩,[],⟨[],[],[],[]⟩,0⟩=x at *
  have hgo:i<l.length→_:=fun h=>hA (i+1,n+x.bytes.length) ⟨by simp only;omega,by simp only;rw [hst h,h2];omega⟩ (by simp only;omega)
  refine⟨fun c=>⟨⟨by omega,by omega⟩,⟨by omega,by omega⟩,⟨by omega,by have:=hxb (by omega);omega⟩,⟨by omega,by omega⟩,hgo (by omega)⟩,fun c=>⟨fun _=>trivial,fun c5=> ?_⟩⟩
  have hsum:zN l≤5000:=by have:=hfin (by omega);omega
  have hw:(m.length≤1000000∧t.length≤1000000)∧(fs.length≤1000∧∀ f ∈ fs,f.name.length≤1000000∧f.value.length≤1000000)∧y.length≤1000000:=⟨⟨by omega,by omega⟩,⟨by omega,hgf.2⟩,by omega⟩
  have hend:(zN l≤1000000∧l.length≤10000000)∧(zN l≤1000000∧l.length≤1000000)∧fewE (zF l)∧fewE (zF l):=⟨⟨by omega,by omega⟩,⟨by omega,by omega⟩,hJ,hJ⟩
  refine⟨hn0,by omega,fun c6=>⟨⟨by omega,by omega⟩,⟨by omega,by omega⟩,⟨by omega,by omega⟩,⟨hG,hG⟩,by simp,fun _=>⟨rfl,fun _=>⟨(by first|exact ha3.trans (hgd c6 _).symm|(have:=ha3.trans (hgd c6 ⟨0,⟨[],[],0,[],0⟩,[],⟨[],[],[],[]⟩,0⟩).symm;simpa using this)),fun _=>⟨hw,hw,fun _ _=>hend⟩⟩⟩⟩,fun c6=>⟨⟨hG,hG⟩,by simp,fun _=>⟨rfl,fun _=>⟨(by first|exact ha3.trans (hdn c6)|(have:=ha3.trans (hdn c6);simpa using this)),fun _=>⟨hw,hw,fun _ _=>hend⟩⟩⟩⟩⟩
end Go.Proofs.YtmibhbdfigpkmaaGreatDoor
