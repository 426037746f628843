/- Texts of this proof, one behind the other: ReqC ReqD ReqE ReqK ReqF RplL RplA ReqG ReqH ReqM. -/
import Derived.Test.YtmibhbdfigpkmaaDoorMc
set_option linter.all false
namespace Go.Proofs.YtmibhbdfigpkmaaDoor
open Go Go.Sep Go.Ab
set_option maxRecDepth 100000
theorem zbD (s:Str):decide (0≤Lib.indexByte s 9)=s.contains 9:=by
  have h: ∀ s:Str,(0≤Lib.indexByte s 9)↔s.contains 9=true:=by
    intro s
    induction s with
    |nil=>simp [Lib.indexByte]
    | cons b l ih=>
      have hb:=uQ l 9
      unfold Lib.indexByte
      by_cases e:b=9
      · subst e;simp
      · have e2:(b == 9)=false:=by simpa using e
        have e3:((9:UInt8) == b)=false:=by simpa using fun h:9=b=>e h.symm
        rw [e2,if_neg (by simp),List.contains_cons,e3,Bool.false_or,← ih]
        split
        · rename_i h;have:=beq_iff_eq.1 h;omega
        · rename_i h;have: ¬ Lib.indexByte l 9= -1:=fun e=>h (by rw [e];rfl);omega
  rw [Bool.eq_iff_iff,decide_eq_true_eq];exact h s
theorem zbC (s:Str):(0≤Lib.indexByte s 9)↔s.contains 9=true:=by rw [← zbD,decide_eq_true_iff]
theorem Qw (b:Str):Lib.hasPrefix b [47]=decide (b.head?=some 47):=by
  cases b with
  |nil=>rfl
  | cons c r=>
    unfold Lib.hasPrefix
    by_cases h:c=47
    · subst h;simp [List.isPrefixOf]
    · simp [List.isPrefixOf,h];exact fun e=>h e.symm
def xg (q:Rq) (s:Str):Rq:=
  if(begM s).1=0 then { q with h:=(begM s).2,pos:=1} else if(begM s).1=11 then { q with h:=(begM s).2} else q
def yM (q:Rq):Prop:=q.own=true
theorem zd9 (ln:Ln) (p:Int) (m tg:Str) (hm:Int) (hf:List Fld) (hl le:Int) (out:List Evt) (s:Str) (hneed:yM ⟨ln,p,⟨m,tg,hm,hf,hl⟩,le,none,true,out⟩∧s.length≤1000000):Spc Tryd.prog 43 [.v (.one (.ptr 0 0)),.v (.one (.p (.str s)))] [.abs (.rq ⟨ln,p,⟨m,tg,hm,hf,hl⟩,le,none,true,out⟩)] (.ret (.v (.one (.p (.int .i64 ((begM s).1)))))) [.abs (.rq ((xg ⟨ln,p,⟨m,tg,hm,hf,hl⟩,le,none,true,out⟩ s)))]:=by
  obtain⟨-,hs⟩:=hneed
  generalize hr:begM s=r
  obtain⟨rc,⟨rm,rt,ri,rf,rl⟩⟩:=r
  unfold xg
  rw [hr]
  unfold begM at hr
  have hsm:=xR s
  refine spcG zx mixed Tryd.func43 (by kernel_rfl) { cfgQ with keep:=some [0,1,4,5,39]} [x9,xZ,RX,RV,wV,wU,Yb,Ya] (by kernel_rfl) ?_
  intro I X hI hX
  refine zi (let y0:=I.hid (α:=(List (Str))) (zU s);let y1:=I.get (α:=Str) y0 ([]:Str) 0;let y2:=I.get (α:=Str) y0 ([]:Str) 1;let y3:=I.get (α:=Str) y0 ([]:Str) 2;.need (I.hid (α:=(Prop)) (LE.le (List.length s) 1000000)) (.br (I.bnot (I.ieq (I.len (α:=Str) y0) 3)) (.fin (.ret (.v (.one (.p (.int .i64 5))))) [(.abs (.rq (Go.Ab.Rq.mk ln p (Hd.mk m tg hm hf hl) le (Option.none) Bool.true out)))]) (.need (I.inb 0 (I.len (α:=Str) y0)) (.need (I.inb 0 (I.len (α:=Str) y0)) (.need (I.hid (α:=(Prop)) (LE.le (List.length y1) 1000000)) (.br (I.bnot (I.hid (α:=Bool) (xQ y1))) (.fin (.ret (.v (.one (.p (.int .i64 6))))) [(.abs (.rq (Go.Ab.Rq.mk ln p (Hd.mk m tg hm hf hl) le (Option.none) Bool.true out)))]) (.need (I.inb 1 (I.len (α:=Str) y0)) (.need (I.inb 1 (I.len (α:=Str) y0)) (.need (I.hid (α:=(Prop)) True) (.br (I.bnot (I.hid (α:=Bool) (Go.Lib.hasPrefix y2 ([47]:Str)))) (.fin (.ret (.v (.one (.p (.int .i64 5))))) [(.abs (.rq (Go.Ab.Rq.mk ln p (Hd.mk m tg hm hf hl) le (Option.none) Bool.true out)))]) (.need (I.inb 1 (I.len (α:=Str) y0)) (.need (I.inb 1 (I.len (α:=Str) y0)) (.need (I.hid (α:=(Prop)) True) (.br (I.hid (α:=Bool) (Decidable.decide (LE.le (0:Int) (Go.Lib.indexByte y2 (9:UInt8))))) (.fin (.ret (.v (.one (.p (.int .i64 5))))) [(.abs (.rq (Go.Ab.Rq.mk ln p (Hd.mk m tg hm hf hl) le (Option.none) Bool.true out)))]) (.need (I.inb 0 (I.len (α:=Str) y0)) (.need (I.inb 0 (I.len (α:=Str) y0)) (.need (I.inb 1 (I.len (α:=Str) y0)) (.need (I.inb 1 (I.len (α:=Str) y0)) (.need (I.inb 2 (I.len (α:=Str) y0)) (.need (I.inb 2 (I.len (α:=Str) y0)) (.br (I.seq y3 ([72,84,84,80,47,49,46,49]:Str)) (.fin (.ret (.v (.one (.p (.int .i64 0))))) [(.abs (.rq (Go.Ab.Rq.mk (Go.Ab.Ln.mk (Go.Ab.Ln.b ln) (Go.Ab.Ln.cr ln) (Go.Ab.Ln.code ln)) (1:Int) (Hd.mk y1 y2 (1:Int) ([]:List Fld) (0:Int)) le (Option.none) Bool.true out)))]) (.br (I.seq y3 ([72,84,84,80,47,49,46,48]:Str)) (.fin (.ret (.v (.one (.p (.int .i64 0))))) [(.abs (.rq (Go.Ab.Rq.mk (Go.Ab.Ln.mk (Go.Ab.Ln.b ln) (Go.Ab.Ln.cr ln) (Go.Ab.Ln.code ln)) (1:Int) (Hd.mk y1 y2 (0:Int) ([]:List Fld) (0:Int)) le (Option.none) Bool.true out)))]) (.fin (.ret (.v (.one (.p (.int .i64 11))))) [(.abs (.rq (Go.Ab.Rq.mk (Go.Ab.Ln.mk (Go.Ab.Ln.b ln) (Go.Ab.Ln.cr ln) (Go.Ab.Ln.code ln)) p (Hd.mk y1 y2 (0:Int) ([]:List Fld) (0:Int)) le (Option.none) Bool.true out)))]))))))))))))))))))))))) (by kernel_rfl) ?_
  simp only [zB]
  subst hI
  simp only [nrmA,nrmB,nrlB,reduceCtorEq,HO.abs.injEq,Gh.rq.injEq,Rq.mk.injEq]
  generalize zU s=L at *
  by_cases h3:L.length=3
  · obtain⟨a,b,c,rfl⟩: ∃ a b c,L=[a,b,c]:=by
      match L,h3 with
      |[a,b,c],_=>exact⟨a,b,c,rfl⟩
    have ha:=hsm a (by simp)
    have hb:=hsm b (by simp)
    clear hsm h3
    simp only [show Int.toNat 1=1 from rfl,show Int.toNat 2=2 from rfl,List.getD_cons_zero,List.getD_cons_succ,Qw,zbD,zbC,Bool.decide_eq_true] at hr ⊢
    by_cases q1:xQ a=false
    · rw [if_pos q1] at hr
      simp only [Prod.mk.injEq,hd0,Hd.mk.injEq] at hr
      obtain⟨rfl,rfl,rfl,rfl,rfl,rfl⟩:=hr
      (repeat' (first|refine And.intro ?_ ?_|intro _))<;>first|omega|exact True.intro|exact False.elim ‹False›|skip
      all_goals first|omega|rfl|(simp only [List.length_cons,List.length_nil];omega)|(simp_all;done)|trace_state
    rw [if_neg q1] at hr
    by_cases q2:b.head?≠some 47∨b.contains 9=true
    · rw [if_pos q2] at hr
      simp only [Prod.mk.injEq,hd0,Hd.mk.injEq] at hr
      obtain⟨rfl,rfl,rfl,rfl,rfl,rfl⟩:=hr
      (repeat' (first|refine And.intro ?_ ?_|intro _))<;>first|omega|exact True.intro|exact False.elim ‹False›|skip
      all_goals first|omega|rfl|(simp only [List.length_cons,List.length_nil];omega)|(simp_all;done)|trace_state
    rw [if_neg q2] at hr
    by_cases q3:c=qX
    · rw [if_pos q3] at hr
      simp only [Prod.mk.injEq,Hd.mk.injEq] at hr
      obtain⟨rfl,rfl,rfl,rfl,rfl,rfl⟩:=hr
      unfold qX at q3
      (repeat' (first|refine And.intro ?_ ?_|intro _))<;>first|omega|exact True.intro|exact False.elim ‹False›|skip
      all_goals first|omega|rfl|(simp only [List.length_cons,List.length_nil];omega)|(simp_all;done)|trace_state
    rw [if_neg q3] at hr
    by_cases q4:c=Xp
    · rw [if_pos q4] at hr
      simp only [Prod.mk.injEq,Hd.mk.injEq] at hr
      obtain⟨rfl,rfl,rfl,rfl,rfl,rfl⟩:=hr
      unfold qX at q3
      unfold Xp at q4
      (repeat' (first|refine And.intro ?_ ?_|intro _))<;>first|omega|exact True.intro|exact False.elim ‹False›|skip
      all_goals first|omega|rfl|(simp only [List.length_cons,List.length_nil];omega)|(simp_all;done)|trace_state
    rw [if_neg q4] at hr
    simp only [Prod.mk.injEq,Hd.mk.injEq] at hr
    obtain⟨rfl,rfl,rfl,rfl,rfl,rfl⟩:=hr
    unfold qX at q3
    unfold Xp at q4
    (repeat' (first|refine And.intro ?_ ?_|intro _))<;>first|omega|exact True.intro|exact False.elim ‹False›|skip
    all_goals first|omega|rfl|(simp only [List.length_cons,List.length_nil];omega)|(simp_all;done)|trace_state
  · have hr2:(5,hd0)=((rc,⟨rm,rt,ri,rf,rl⟩):Int × Hd):=by
      rw [← hr]
      split
      · exact absurd rfl h3
      · rfl
    simp only [Prod.mk.injEq,hd0,Hd.mk.injEq] at hr2
    obtain⟨rfl,rfl,rfl,rfl,rfl,rfl⟩:=hr2
    (repeat' (first|refine And.intro ?_ ?_|intro _))<;>first|omega|exact True.intro|exact False.elim ‹False›|skip
    all_goals first|omega|rfl|(simp only [List.length_cons,List.length_nil];omega)|trace_state
theorem zea (ln:Ln) (p:Int) (m tg:Str) (hm:Int) (hf:List Fld) (hl le:Int) (out:List Evt) (s:Str) (hneed:yM ⟨ln,p,⟨m,tg,hm,hf,hl⟩,le,none,false,out⟩∧s.length≤1000000):Spc Tryd.prog 43 [.v (.one (.ptr 0 0)),.v (.one (.p (.str s)))] [.abs (.rq ⟨ln,p,⟨m,tg,hm,hf,hl⟩,le,none,false,out⟩)] (.ret (.v (.one (.p (.int .i64 ((begM s).1)))))) [.abs (.rq ((xg ⟨ln,p,⟨m,tg,hm,hf,hl⟩,le,none,false,out⟩ s)))]:=by
  exact absurd hneed.1 (fun h=>by unfold yM at h;cases h)
theorem zd7 (ln:Ln) (p:Int) (m tg:Str) (hm:Int) (hf:List Fld) (hl le:Int) (ch:Ch) (out:List Evt) (s:Str) (hneed:yM ⟨ln,p,⟨m,tg,hm,hf,hl⟩,le,some ch,true,out⟩∧s.length≤1000000):Spc Tryd.prog 43 [.v (.one (.ptr 0 0)),.v (.one (.p (.str s)))] [.abs (.rq ⟨ln,p,⟨m,tg,hm,hf,hl⟩,le,some ch,true,out⟩)] (.ret (.v (.one (.p (.int .i64 ((begM s).1)))))) [.abs (.rq ((xg ⟨ln,p,⟨m,tg,hm,hf,hl⟩,le,some ch,true,out⟩ s)))]:=by
  obtain⟨-,hs⟩:=hneed
  generalize hr:begM s=r
  obtain⟨rc,⟨rm,rt,ri,rf,rl⟩⟩:=r
  unfold xg
  rw [hr]
  unfold begM at hr
  have hsm:=xR s
  refine spcG zx mixed Tryd.func43 (by kernel_rfl) { cfgQ with keep:=some [0,1,4,5,39]} [x9,xZ,RX,RV,wV,wU,Yb,Ya] (by kernel_rfl) ?_
  intro I X hI hX
  refine zi (let y0:=I.hid (α:=(List (Str))) (zU s);let y1:=I.get (α:=Str) y0 ([]:Str) 0;let y2:=I.get (α:=Str) y0 ([]:Str) 1;let y3:=I.get (α:=Str) y0 ([]:Str) 2;.need (I.hid (α:=(Prop)) (LE.le (List.length s) 1000000)) (.br (I.bnot (I.ieq (I.len (α:=Str) y0) 3)) (.fin (.ret (.v (.one (.p (.int .i64 5))))) [(.abs (.rq (Go.Ab.Rq.mk ln p (Hd.mk m tg hm hf hl) le (Option.some ch) Bool.true out)))]) (.need (I.inb 0 (I.len (α:=Str) y0)) (.need (I.inb 0 (I.len (α:=Str) y0)) (.need (I.hid (α:=(Prop)) (LE.le (List.length y1) 1000000)) (.br (I.bnot (I.hid (α:=Bool) (xQ y1))) (.fin (.ret (.v (.one (.p (.int .i64 6))))) [(.abs (.rq (Go.Ab.Rq.mk ln p (Hd.mk m tg hm hf hl) le (Option.some ch) Bool.true out)))]) (.need (I.inb 1 (I.len (α:=Str) y0)) (.need (I.inb 1 (I.len (α:=Str) y0)) (.need (I.hid (α:=(Prop)) True) (.br (I.bnot (I.hid (α:=Bool) (Go.Lib.hasPrefix y2 ([47]:Str)))) (.fin (.ret (.v (.one (.p (.int .i64 5))))) [(.abs (.rq (Go.Ab.Rq.mk ln p (Hd.mk m tg hm hf hl) le (Option.some ch) Bool.true out)))]) (.need (I.inb 1 (I.len (α:=Str) y0)) (.need (I.inb 1 (I.len (α:=Str) y0)) (.need (I.hid (α:=(Prop)) True) (.br (I.hid (α:=Bool) (Decidable.decide (LE.le (0:Int) (Go.Lib.indexByte y2 (9:UInt8))))) (.fin (.ret (.v (.one (.p (.int .i64 5))))) [(.abs (.rq (Go.Ab.Rq.mk ln p (Hd.mk m tg hm hf hl) le (Option.some ch) Bool.true out)))]) (.need (I.inb 0 (I.len (α:=Str) y0)) (.need (I.inb 0 (I.len (α:=Str) y0)) (.need (I.inb 1 (I.len (α:=Str) y0)) (.need (I.inb 1 (I.len (α:=Str) y0)) (.need (I.inb 2 (I.len (α:=Str) y0)) (.need (I.inb 2 (I.len (α:=Str) y0)) (.br (I.seq y3 ([72,84,84,80,47,49,46,49]:Str)) (.fin (.ret (.v (.one (.p (.int .i64 0))))) [(.abs (.rq (Go.Ab.Rq.mk (Go.Ab.Ln.mk (Go.Ab.Ln.b ln) (Go.Ab.Ln.cr ln) (Go.Ab.Ln.code ln)) (1:Int) (Hd.mk y1 y2 (1:Int) ([]:List Fld) (0:Int)) le (Option.some (Go.Ab.Ch.mk (Go.Ab.Ln.mk (Go.Ab.Ln.b (Go.Ab.Ch.ln ch)) (Go.Ab.Ln.cr (Go.Ab.Ch.ln ch)) (Go.Ab.Ln.code (Go.Ab.Ch.ln ch))) (Go.Ab.Ch.pos ch) (Go.Ab.Ch.left ch) (Go.Ab.Ch.all ch) (Go.Ab.Ch.tails ch) (Go.Ab.Ch.code ch))) Bool.true out)))]) (.br (I.seq y3 ([72,84,84,80,47,49,46,48]:Str)) (.fin (.ret (.v (.one (.p (.int .i64 0))))) [(.abs (.rq (Go.Ab.Rq.mk (Go.Ab.Ln.mk (Go.Ab.Ln.b ln) (Go.Ab.Ln.cr ln) (Go.Ab.Ln.code ln)) (1:Int) (Hd.mk y1 y2 (0:Int) ([]:List Fld) (0:Int)) le (Option.some (Go.Ab.Ch.mk (Go.Ab.Ln.mk (Go.Ab.Ln.b (Go.Ab.Ch.ln ch)) (Go.Ab.Ln.cr (Go.Ab.Ch.ln ch)) (Go.Ab.Ln.code (Go.Ab.Ch.ln ch))) (Go.Ab.Ch.pos ch) (Go.Ab.Ch.left ch) (Go.Ab.Ch.all ch) (Go.Ab.Ch.tails ch) (Go.Ab.Ch.code ch))) Bool.true out)))]) (.fin (.ret (.v (.one (.p (.int .i64 11))))) [(.abs (.rq (Go.Ab.Rq.mk (Go.Ab.Ln.mk (Go.Ab.Ln.b ln) (Go.Ab.Ln.cr ln) (Go.Ab.Ln.code ln)) p (Hd.mk y1 y2 (0:Int) ([]:List Fld) (0:Int)) le (Option.some (Go.Ab.Ch.mk (Go.Ab.Ln.mk (Go.Ab.Ln.b (Go.Ab.Ch.ln ch)) (Go.Ab.Ln.cr (Go.Ab.Ch.ln ch)) (Go.Ab.Ln.code (Go.Ab.Ch.ln ch))) (Go.Ab.Ch.pos ch) (Go.Ab.Ch.left ch) (Go.Ab.Ch.all ch) (Go.Ab.Ch.tails ch) (Go.Ab.Ch.code ch))) Bool.true out)))]))))))))))))))))))))))) (by kernel_rfl) ?_
  simp only [zB]
  subst hI
  simp only [nrmA,nrmB,nrlB,reduceCtorEq,HO.abs.injEq,Gh.rq.injEq,Rq.mk.injEq]
  generalize zU s=L at *
  by_cases h3:L.length=3
  · obtain⟨a,b,c,rfl⟩: ∃ a b c,L=[a,b,c]:=by
      match L,h3 with
      |[a,b,c],_=>exact⟨a,b,c,rfl⟩
    have ha:=hsm a (by simp)
    have hb:=hsm b (by simp)
    clear hsm h3
    simp only [show Int.toNat 1=1 from rfl,show Int.toNat 2=2 from rfl,List.getD_cons_zero,List.getD_cons_succ,Qw,zbD,zbC,Bool.decide_eq_true] at hr ⊢
    by_cases q1:xQ a=false
    · rw [if_pos q1] at hr
      simp only [Prod.mk.injEq,hd0,Hd.mk.injEq] at hr
      obtain⟨rfl,rfl,rfl,rfl,rfl,rfl⟩:=hr
      (repeat' (first|refine And.intro ?_ ?_|intro _))<;>first|omega|exact True.intro|exact False.elim ‹False›|skip
      all_goals first|omega|rfl|(simp only [List.length_cons,List.length_nil];omega)|(simp_all;done)|trace_state
    rw [if_neg q1] at hr
    by_cases q2:b.head?≠some 47∨b.contains 9=true
    · rw [if_pos q2] at hr
      simp only [Prod.mk.injEq,hd0,Hd.mk.injEq] at hr
      obtain⟨rfl,rfl,rfl,rfl,rfl,rfl⟩:=hr
      (repeat' (first|refine And.intro ?_ ?_|intro _))<;>first|omega|exact True.intro|exact False.elim ‹False›|skip
      all_goals first|omega|rfl|(simp only [List.length_cons,List.length_nil];omega)|(simp_all;done)|trace_state
    rw [if_neg q2] at hr
    by_cases q3:c=qX
    · rw [if_pos q3] at hr
      simp only [Prod.mk.injEq,Hd.mk.injEq] at hr
      obtain⟨rfl,rfl,rfl,rfl,rfl,rfl⟩:=hr
      unfold qX at q3
      (repeat' (first|refine And.intro ?_ ?_|intro _))<;>first|omega|exact True.intro|exact False.elim ‹False›|skip
      all_goals first|omega|rfl|(simp only [List.length_cons,List.length_nil];omega)|(simp_all;done)|trace_state
    rw [if_neg q3] at hr
    by_cases q4:c=Xp
    · rw [if_pos q4] at hr
      simp only [Prod.mk.injEq,Hd.mk.injEq] at hr
      obtain⟨rfl,rfl,rfl,rfl,rfl,rfl⟩:=hr
      unfold qX at q3
      unfold Xp at q4
      (repeat' (first|refine And.intro ?_ ?_|intro _))<;>first|omega|exact True.intro|exact False.elim ‹False›|skip
      all_goals first|omega|rfl|(simp only [List.length_cons,List.length_nil];omega)|(simp_all;done)|trace_state
    rw [if_neg q4] at hr
    simp only [Prod.mk.injEq,Hd.mk.injEq] at hr
    obtain⟨rfl,rfl,rfl,rfl,rfl,rfl⟩:=hr
    unfold qX at q3
    unfold Xp at q4
    (repeat' (first|refine And.intro ?_ ?_|intro _))<;>first|omega|exact True.intro|exact False.elim ‹False›|skip
    all_goals first|omega|rfl|(simp only [List.length_cons,List.length_nil];omega)|(simp_all;done)|trace_state
  · have hr2:(5,hd0)=((rc,⟨rm,rt,ri,rf,rl⟩):Int × Hd):=by
      rw [← hr]
      split
      · exact absurd rfl h3
      · rfl
    simp only [Prod.mk.injEq,hd0,Hd.mk.injEq] at hr2
    obtain⟨rfl,rfl,rfl,rfl,rfl,rfl⟩:=hr2
    (repeat' (first|refine And.intro ?_ ?_|intro _))<;>first|omega|exact True.intro|exact False.elim ‹False›|skip
    all_goals first|omega|rfl|(simp only [List.length_cons,List.length_nil];omega)|trace_state
theorem zd8 (ln:Ln) (p:Int) (m tg:Str) (hm:Int) (hf:List Fld) (hl le:Int) (ch:Ch) (out:List Evt) (s:Str) (hneed:yM ⟨ln,p,⟨m,tg,hm,hf,hl⟩,le,some ch,false,out⟩∧s.length≤1000000):Spc Tryd.prog 43 [.v (.one (.ptr 0 0)),.v (.one (.p (.str s)))] [.abs (.rq ⟨ln,p,⟨m,tg,hm,hf,hl⟩,le,some ch,false,out⟩)] (.ret (.v (.one (.p (.int .i64 ((begM s).1)))))) [.abs (.rq ((xg ⟨ln,p,⟨m,tg,hm,hf,hl⟩,le,some ch,false,out⟩ s)))]:=by
  exact absurd hneed.1 (fun h=>by unfold yM at h;cases h)
theorem zf3 (q:Rq) (s:Str) (hneed:yM q∧s.length≤1000000):Spc Tryd.prog 43 [.v (.one (.ptr 0 0)),.v (.one (.p (.str s)))] [.abs (.rq q)] (.ret (.v (.one (.p (.int .i64 ((begM s).1)))))) [.abs (.rq ((xg q s)))]:=by
  obtain⟨ln,p,⟨m,tg,hm,hf,hl⟩,le,ck,own,out⟩:=q
  cases ck with
  | none=>cases own with
    |true=>exact zd9 ln p m tg hm hf hl le out s hneed
    |false=>exact zea ln p m tg hm hf hl le out s hneed
  | some ch=>cases own with
    |true=>exact zd7 ln p m tg hm hf hl le ch out s hneed
    |false=>exact zd8 ln p m tg hm hf hl le ch out s hneed
def Yz (I:Alg) (args:List D) (hp:List HO):Option CT:=match args,hp with
  |[.v (.one (.ptr 0 0)),.v (.one (.p (.str s)))],[.abs (.rq q)]=>(fun(q:Rq) (s:Str)=>(some (.one ⟨I.hid (yM q∧s.length≤1000000),(.ret (.v (.one (.p (.int .i64 (I.hid ((begM s).1))))))),[.abs (.rq (I.hid ((xg q s))))]⟩):Option CT)) q s
  |_,_=>none
theorem Qu:zG Tryd.prog 43 (Yz alg):=by
  intro args hp r h
  unfold Yz at h
  split at h
  · cases h;exact fun hn=>zf3 _ _ hn
  · cases h
def Qr:Know Tryd.prog:=⟨43,Yz,Qu⟩
def Qq:Know Tryd.prog:=⟨43,fun I=>zK I (Yz I),zf Qu⟩
def FsOk (f:List Fld):Prop:=f.length≤1000∧∀ x ∈ f,x.name.length≤1000000∧x.value.length≤1000000
theorem uz (f:List Fld) (n:Str):(valsF f n).length≤f.length:=by
  unfold valsF
  first|exact Nat.le_trans (List.length_map ..).le (List.length_filter_le _ _)|(rw [List.length_map];exact List.length_filter_le _ _)|exact List.length_filterMap_le _ _
theorem zdO (a:Str) (n:Int) (l:List Str) (i:Nat) (h: ¬ i<l.length):sizM a n (l.drop i)=(n,0):=by
  rw [List.drop_of_length_le (by omega)];rfl
theorem zbH (a:Str) (n:Int) (l:List Str) (i:Nat) (h:i<l.length):sizM a n (l.drop i)=if(numA (l.getD i []) 10 9).2=false then(0,7) else if l.getD i []≠a then(0,12) else sizM a (numA (l.getD i []) 10 9).1 (l.drop (i+1)):=by
  rw [List.drop_eq_getElem_cons h,show l.getD i []=l[i] by simp [h]];rfl
theorem zf1 (m t:Str) (mi:Int) (f:List Fld) (le:Int) (hneed:FsOk f):Spc Tryd.prog 59 [.v (.agg [(.p (.str m)),(.p (.str t)),(.p (.int .i64 mi)),(.p (.list .fld f)),(.p (.int .i64 le))])] [] (.ret (.tup [(.one (.p (.int .i64 ((lenM mi f).1)))),(.one (.p (.int .i64 ((lenM mi f).2))))])) []:=by
  obtain⟨hf1,hf2⟩:=hneed
  generalize hr:lenM mi f=r
  obtain⟨rn,rc⟩:=r
  refine spcG zx mixed Tryd.func59 (by kernel_rfl) { keep:=some [0,1,2,3,4,5,6,7,8,9,10,45,46,47]} [Zh,Zg,XB,XA,WU,WT] (by kernel_rfl) ?_
  intro I X hI hX
  refine zi (let y0:=I.hid (α:=(List (Str))) (valsF f ([116,114,97,110,115,102,101,114,45,101,110,99,111,100,105,110,103]:Str));let y1:=I.hid (α:=(List (Str))) (valsF f ([99,111,110,116,101,110,116,45,108,101,110,103,116,104]:Str));let y2:=I.bnot (I.seq (I.hid (α:=Str) (lowS (I.get (α:=Str) y0 ([]:Str) 0))) ([99,104,117,110,107,101,100]:Str));let y3:HO:=.obj 30 [(.p (.str m)),(.p (.str t)),(.p (.int .i64 mi)),(.p (.list .fld f)),(.p (.int .i64 le))];let y4:=I.hid (α:=(Prop)) (LE.le (List.length (I.get (α:=Str) y0 ([]:Str) 0)) 1000000);.need (I.hid (α:=(Prop)) (And (LE.le (List.length f) 1000) (And (LE.le (List.length ([99,111,110,116,101,110,116,45,108,101,110,103,116,104]:Str)) 1000000) (∀ (f_1:Fld),f_1 ∈ f→List.length f_1.name≤1000000∧List.length f_1.value≤1000000)))) (.need (I.hid (α:=(Prop)) (And (LE.le (List.length f) 1000) (And (LE.le (List.length ([116,114,97,110,115,102,101,114,45,101,110,99,111,100,105,110,103]:Str)) 1000000) (∀ (f_1:Fld),f_1 ∈ f→List.length f_1.name≤1000000∧List.length f_1.value≤1000000)))) (.br (I.ilt 0 (I.len (α:=Str) y0)) (.br (I.ilt 0 (I.len (α:=Str) y1)) (.fin (.ret (.tup [(.one (.p (.int .i64 0))),(.one (.p (.int .i64 12)))])) []) (.br (I.ieq mi 0) (.fin (.ret (.tup [(.one (.p (.int .i64 0))),(.one (.p (.int .i64 12)))])) []) (.br (I.ilt 0 (I.len (α:=Str) y0)) (.br (I.ilt 1 (I.len (α:=Str) y0)) (.fin (.ret (.tup [(.one (.p (.int .i64 0))),(.one (.p (.int .i64 11)))])) []) (.need (I.inb 0 (I.len (α:=Str) y0)) (.need (I.inb 0 (I.len (α:=Str) y0)) (.need y4 (.br y2 (.fin (.ret (.tup [(.one (.p (.int .i64 0))),(.one (.p (.int .i64 11)))])) []) (.fin (.ret (.tup [(.one (.p (.int .i64 (Neg.neg (1:Int))))),(.one (.p (.int .i64 0)))])) [])))))) (.code 0 [1,1,1,1,0,1,0] ⟨[(47,(.v (.one (.p (.int .i64 0))))),(46,(.v (.one (.p (.int .i64 (I.len (α:=Str) y1)))))),(45,(.v (.one (.row 1)))),(6,(.v (.one (.p (.int .i64 0))))),(5,(.v (.one (.row 2)))),(4,(.v (.one (.row 1)))),(3,(.v (.one (.p (.int .i64 0))))),(2,(.v (.one (.p (.int .i64 0))))),(1,(.v (.one (.ptr 0 0)))),(0,(.v (.agg [(.p (.str m)),(.p (.str t)),(.p (.int .i64 mi)),(.p (.list .fld f)),(.p (.int .i64 le))])))],[y3,(.row .str 9 y1),(.row .str 9 y0)],75,none⟩)))) (.br (I.ilt 0 (I.len (α:=Str) y0)) (.br (I.ilt 1 (I.len (α:=Str) y0)) (.fin (.ret (.tup [(.one (.p (.int .i64 0))),(.one (.p (.int .i64 11)))])) []) (.need (I.inb 0 (I.len (α:=Str) y0)) (.need (I.inb 0 (I.len (α:=Str) y0)) (.need y4 (.br y2 (.fin (.ret (.tup [(.one (.p (.int .i64 0))),(.one (.p (.int .i64 11)))])) []) (.fin (.ret (.tup [(.one (.p (.int .i64 (Neg.neg (1:Int))))),(.one (.p (.int .i64 0)))])) [])))))) (.code 0 [1,1,1,1,0,1,0] ⟨[(47,(.v (.one (.p (.int .i64 0))))),(46,(.v (.one (.p (.int .i64 (I.len (α:=Str) y1)))))),(45,(.v (.one (.row 1)))),(6,(.v (.one (.p (.int .i64 0))))),(5,(.v (.one (.row 2)))),(4,(.v (.one (.row 1)))),(3,(.v (.one (.p (.int .i64 0))))),(2,(.v (.one (.p (.int .i64 0))))),(1,(.v (.one (.ptr 0 0)))),(0,(.v (.agg [(.p (.str m)),(.p (.str t)),(.p (.int .i64 mi)),(.p (.list .fld f)),(.p (.int .i64 le))])))],[y3,(.row .str 9 y1),(.row .str 9 y0)],75,none⟩))))) (by kernel_rfl) ?_
  simp only [zB]
  have hh: ∀ {α:Type} (x:α),I.hid x=x:=by subst hI;intros;rfl
  have hln: ∀ (l:List Str),I.len l=(l.length:Int):=by subst hI;intros;rfl
  simp only [hh,hln]
  unfold lenM at hr
  rw [show rO=[116,114,97,110,115,102,101,114,45,101,110,99,111,100,105,110,103] from rfl,show wH=[99,111,110,116,101,110,116,45,108,101,110,103,116,104] from rfl] at hr
  have hL1:=uz f [99,111,110,116,101,110,116,45,108,101,110,103,116,104]
  have hT1:=uz f [116,114,97,110,115,102,101,114,45,101,110,99,111,100,105,110,103]
  have hT2: ∀ x ∈ valsF f [116,114,97,110,115,102,101,114,45,101,110,99,111,100,105,110,103],x.length≤1000000:=by
    intro x hx
    unfold valsF at hx
    rw [List.mem_map] at hx
    obtain⟨y,hy,rfl⟩:=hx
    exact(hf2 y (List.mem_filter.1 hy).1).2
  generalize valsF f [99,111,110,116,101,110,116,45,108,101,110,103,116,104]=L at *
  generalize valsF f [116,114,97,110,115,102,101,114,45,101,110,99,111,100,105,110,103]=T at *
  have keyL: ∀ (k:Int) (st:St),k=(L.length:Int)→(if(sizM (L.getD 0 []) 0 L).2≠0 then(0,(sizM (L.getD 0 []) 0 L).2) else if 4000<(sizM (L.getD 0 []) 0 L).1 then(0,4) else((sizM (L.getD 0 []) 0 L).1,0))=(rn,rc)→cutM { keep:=some [0,1,2,3,4,5,6,7,8,9,10,45,46,47]} 0 [4,6,45,46,47] st=some ⟨[(4,.v (.one (.row 0))),(6,.v (.one (.p (.int .i64 0)))),(45,.v (.one (.row 0))),(46,.v (.one (.p (.int .i64 k)))),(47,.v (.one (.p (.int .i64 0))))],[.row .str 9 L],75,none⟩→Ok Tryd.prog X (fun o h=>o=(.ret (.tup [(.one (.p (.int .i64 rn))),(.one (.p (.int .i64 rc)))]))∧h=[]) (leaf I tab { keep:=some [0,1,2,3,4,5,6,7,8,9,10,45,46,47]} [⟨WW Tryd.f59,finK I tab { keep:=some [0,1,2,3,4,5,6,7,8,9,10,45,46,47]} 0 Tryd.f59⟩] 0 [1,1,1,1,0,1,0] st):=by
    intro k st hk hm hst
    refine zZ hI zx mixed [Zh,Zg,XB,XA,WU,WT] hX [4,6,45,46,47] (fun(g:Nat × Int)=>match g with|(i,n)=>i≤L.length∧(if(sizM (L.getD 0 []) n (L.drop i)).2≠0 then(0,(sizM (L.getD 0 []) n (L.drop i)).2) else if 4000<(sizM (L.getD 0 []) n (L.drop i)).1 then(0,4) else((sizM (L.getD 0 []) n (L.drop i)).1,0))=(rn,rc)) (fun(g:Nat × Int)=>match g with|(i,n)=>⟨[(4,.v (.one (.row 0))),(6,.v (.one (.p (.int .i64 n)))),(45,.v (.one (.row 0))),(46,.v (.one (.p (.int .i64 k)))),(47,.v (.one (.p (.int .i64 i))))],[.row .str 9 L],75,none⟩) (fun(g:Nat × Int)=>match g with|(i,n)=>L.length - i) (0,0) (by kernel_rfl) hst ?_ ?_
    · exact⟨Nat.zero_le _,hm⟩
    clear hm hst hr
    rintro⟨i,n⟩ ⟨h1,hm⟩ A hA
    simp only at hA
    refine zi (let y0:=I.get (α:=Str) L ([]:Str) (Nat.cast i);let y1:=I.hid (α:=Int) (Prod.fst (numA y0 (10:Int) (9:Int)));let y2:=I.inr Go.IntKind.i64 (I.add (Nat.cast i) 1);let y3:=I.inb (Nat.cast i) (I.len (α:=Str) L);.br (I.ilt (Nat.cast i) k) (.need y3 (.need y3 (.need (I.hid (α:=(Prop)) True) (.br (I.bnot (I.hid (α:=Bool) (Prod.snd (numA y0 (10:Int) (9:Int))))) (.fin (.ret (.tup [(.one (.p (.int .i64 0))),(.one (.p (.int .i64 7)))])) []) (.br (I.ilt 0 (Nat.cast i)) (.need (I.inb 0 (I.len (α:=Str) L)) (.need (I.inb 0 (I.len (α:=Str) L)) (.br (I.bnot (I.seq y0 (I.get (α:=Str) L ([]:Str) 0))) (.fin (.ret (.tup [(.one (.p (.int .i64 0))),(.one (.p (.int .i64 12)))])) []) (.need y2 (.need (A ⟨[(4,(.v (.one (.row 0)))),(6,(.v (.one (.p (.int .i64 y1))))),(45,(.v (.one (.row 0)))),(46,(.v (.one (.p (.int .i64 k))))),(47,(.v (.one (.p (.int .i64 (I.add (Nat.cast i) 1))))))],[(.row .str 9 L)],75,none⟩) .qed))))) (.need y2 (.need (A ⟨[(4,(.v (.one (.row 0)))),(6,(.v (.one (.p (.int .i64 y1))))),(45,(.v (.one (.row 0)))),(46,(.v (.one (.p (.int .i64 k))))),(47,(.v (.one (.p (.int .i64 (I.add (Nat.cast i) 1))))))],[(.row .str 9 L)],75,none⟩) .qed))))))) (.br (I.ilt 4000 n) (.fin (.ret (.tup [(.one (.p (.int .i64 0))),(.one (.p (.int .i64 4)))])) []) (.fin (.ret (.tup [(.one (.p (.int .i64 n))),(.one (.p (.int .i64 0)))])) []))) (by kernel_rfl) ?_
    simp only [zB]
    subst hI
    simp only [nrmA,nrmB]
    by_cases hi:i<L.length
    · rw [zbH _ _ _ _ hi] at hm
      have h0:i=0→L.getD i []=L.getD 0 []:=fun h=>by rw [h]
      have hn:=Xc (L.getD i [])
      have hgo:=hA (i+1,(numA (L.getD i []) 10 9).1)
      generalize L.getD i []=x at *
      generalize L.getD 0 []=y at *
      generalize numA x 10 9=na at *
      obtain⟨na,nb⟩:=na
      simp only at hm hgo hn
      cases nb with
      | false=>
        rw [if_pos rfl] at hm
        simp only [ne_eq,Int.reduceEq,not_false_eq_true,if_true,Prod.mk.injEq] at hm
        obtain⟨rfl,rfl⟩:=hm
        (repeat' (first|refine And.intro ?_ ?_|intro _))<;>first|omega|exact True.intro|exact False.elim ‹False›|skip
        all_goals first|omega|rfl|contradiction|(simp_all;done)|trace_state
      | true=>
        simp only [Bool.true_eq_false,if_false] at hm
        by_cases hxy:x=y
        · simp only [if_neg (fun h:x≠y=>h hxy)] at hm
          have hg:=hgo ⟨by omega,hm⟩ (by omega)
          (repeat' (first|refine And.intro ?_ ?_|intro _))<;>first|omega|exact True.intro|exact False.elim ‹False›|skip
          all_goals first|omega|exact hg|contradiction|(exfalso;exact ‹¬ x=y› hxy)|trace_state
        · simp only [if_pos (show x≠y from hxy),ne_eq,Int.reduceEq,not_false_eq_true,if_true,Prod.mk.injEq] at hm
          obtain⟨rfl,rfl⟩:=hm
          have hi0: ¬ i=0:=fun h=>hxy (h0 h)
          (repeat' (first|refine And.intro ?_ ?_|intro _))<;>first|omega|exact True.intro|exact False.elim ‹False›|skip
          all_goals first|omega|rfl|contradiction|(exfalso;exact hxy ‹x=y›)|trace_state
    · rw [zdO _ _ _ _ hi] at hm
      simp only [ne_eq,not_true_eq_false,if_false] at hm
      by_cases h4:4000<n
      · rw [if_pos h4] at hm
        simp only [Prod.mk.injEq] at hm
        obtain⟨rfl,rfl⟩:=hm
        (repeat' (first|refine And.intro ?_ ?_|intro _))<;>first|omega|exact True.intro|exact False.elim ‹False›|skip
        all_goals first|omega|rfl|trace_state
      · rw [if_neg h4] at hm
        simp only [Prod.mk.injEq] at hm
        obtain⟨rfl,rfl⟩:=hm
        (repeat' (first|refine And.intro ?_ ?_|intro _))<;>first|omega|exact True.intro|exact False.elim ‹False›|skip
        all_goals first|omega|rfl|trace_state
  subst hI
  have hT0:T.length=0↔T=[]:=List.length_eq_zero_iff
  have hLz:L.length=0↔L=[]:=List.length_eq_zero_iff
  simp only [nrmA,nrmB]
  have hg0:0<T.length→(T.getD 0 []).length≤1000000:=fun h=>hT2 _ (by rw [show T.getD 0 []=T[0] by simp [h]];exact List.getElem_mem h)
  by_cases q1:T=[]
  · rw [if_neg (fun h=>h q1)] at hr
    have q2:=hT0.2 q1
    clear hg0 hT2
    (repeat' (first|refine And.intro ?_ ?_|intro _))<;>first|omega|exact True.intro|exact False.elim ‹False›|skip
    all_goals first
      |omega
      |((with_reducible show Ok _ _ _ _);(try(exfalso;omega));exact keyL _ _ rfl hr (by kernel_rfl))
      |exact⟨hf1,by decide,hf2⟩
      |exact hf1
      |(exact(hf2 _ ‹_›).1)
      |(exact(hf2 _ ‹_›).2)
      |decide
  · rw [if_pos q1] at hr
    have q2: ¬ T.length=0:=fun h=>q1 (hT0.1 h)
    clear keyL
    by_cases q3:L≠[]∨mi=0
    · rw [if_pos q3] at hr
      simp only [Prod.mk.injEq] at hr
      obtain⟨rfl,rfl⟩:=hr
      have q4:L.length=0→mi=0:=fun h=>by
        rcases q3 with q3|q3
        · exact absurd (hLz.1 h) q3
        · exact q3
      (repeat' (first|refine And.intro ?_ ?_|intro _))<;>first|omega|exact True.intro|exact False.elim ‹False›|skip
      all_goals first|omega|rfl|(exact(hf2 _ ‹_›).1)|(exact(hf2 _ ‹_›).2)|decide|trace_state
    · rw [if_neg q3] at hr
      simp only [not_or,ne_eq,Decidable.not_not] at q3
      have q4:=hLz.2 q3.1
      by_cases q5:1<T.length∨lowS (T.getD 0 [])≠YN
      · rw [if_pos q5] at hr
        unfold YN at q5
        simp only [Prod.mk.injEq] at hr
        obtain⟨rfl,rfl⟩:=hr
        (repeat' (first|refine And.intro ?_ ?_|intro _))<;>first|omega|exact True.intro|exact False.elim ‹False›|skip
        all_goals first|omega|rfl|(exact(hf2 _ ‹_›).1)|(exact(hf2 _ ‹_›).2)|decide|exact hg0 (by omega)|(exfalso;rcases q5 with q5|q5<;>first|omega|exact q5 ‹_›)|trace_state
      · rw [if_neg q5] at hr
        unfold YN at q5
        simp only [not_or,ne_eq,Decidable.not_not] at q5
        simp only [Prod.mk.injEq] at hr
        obtain⟨rfl,rfl⟩:=hr
        (repeat' (first|refine And.intro ?_ ?_|intro _))<;>first|omega|exact True.intro|exact False.elim ‹False›|skip
        all_goals first|omega|rfl|(exact(hf2 _ ‹_›).1)|(exact(hf2 _ ‹_›).2)|decide|exact hg0 (by omega)|(exfalso;exact ‹¬ _=_› q5.2)|trace_state
def Yw (I:Alg) (args:List D) (hp:List HO):Option CT:=match args,hp with
  |[.v (.agg [(.p (.str m)),(.p (.str t)),(.p (.int .i64 mi)),(.p (.list .fld f)),(.p (.int .i64 le))])],[]=>(fun(m t:Str) (mi:Int) (f:List Fld) (le:Int)=>(some (.one ⟨I.hid (FsOk f),(.ret (.tup [(.one (.p (.int .i64 (I.hid ((lenM mi f).1))))),(.one (.p (.int .i64 (I.hid ((lenM mi f).2)))))])),[]⟩):Option CT)) m t mi f le
  |_,_=>none
theorem Qo:zG Tryd.prog 59 (Yw alg):=by
  intro args hp r h
  unfold Yw at h
  split at h
  · cases h;exact fun hn=>zf1 _ _ _ _ _ hn
  · cases h
def Qn:Know Tryd.prog:=⟨59,Yw,Qo⟩
def Qm:Know Tryd.prog:=⟨59,fun I=>zK I (Yw I),zf Qo⟩
end Go.Proofs.YtmibhbdfigpkmaaDoor
namespace Go.Proofs.YtmibhbdfigpkmaaDoor
open Go Go.Sep Go.Ab
set_option maxRecDepth 100000
def rqFs (q:Rq):Prop:=FsOk q.h.fields∧q.out.length≤9000000
theorem zb7 (ln:Ln) (p:Int) (m tg:Str) (hm:Int) (hf:List Fld) (hl le:Int) (out:List Evt) (hneed:yM ⟨ln,p,⟨m,tg,hm,hf,hl⟩,le,none,true,out⟩∧rqFs ⟨ln,p,⟨m,tg,hm,hf,hl⟩,le,none,true,out⟩):Spc Tryd.prog 44 [.v (.one (.ptr 0 0))] [.abs (.rq ⟨ln,p,⟨m,tg,hm,hf,hl⟩,le,none,true,out⟩)] (.ret (.v (.one (.p (.int .i64 ((zO ⟨ln,p,⟨m,tg,hm,hf,hl⟩,le,none,true,out⟩).2)))))) [.abs (.rq (((zO ⟨ln,p,⟨m,tg,hm,hf,hl⟩,le,none,true,out⟩).1)))]:=by
  obtain⟨-,hfs,hfw⟩:=hneed
  simp only at hfs hfw
  obtain⟨hf1,hf2⟩:=hfs
  generalize hr:zO ⟨ln,p,⟨m,tg,hm,hf,hl⟩,le,none,true,out⟩=r
  obtain⟨rq,rc⟩:=r
  have hhl:Ye.length≤1000000:=by decide
  refine spcG zx mixed Tryd.func44 (by kernel_rfl) { cfgQ with fz:=[26],keep:=some [0,2,4,5]} [VG,VF,zat,zas,zM,zL,zS,zQ,zX,zW,yh,yg,yS,yR,tV,tN,Qn,Qm] (by kernel_rfl) ?_
  intro I X hI hX
  refine zi (let y1:=I.hid (α:=Int) (Prod.fst (lenM hm hf));let y0:=I.hid (α:=(List Go.Ab.Evt)) (HAppend.hAppend out ([(Go.Ab.Evt.mk (1:Int) (Hd.mk m tg hm hf y1) ([]:Str) (Go.Ab.Prt.mk ([]:Str) ([]:Str) ([]:Str) ([]:Str)) (0:Int))]:List Go.Ab.Evt));let y2:=I.hid (α:=Go.Ab.Rq) (yX (Go.Ab.Rq.mk (Go.Ab.Ln.mk (Go.Ab.Ln.b ln) (Go.Ab.Ln.cr ln) (Go.Ab.Ln.code ln)) p (Hd.mk m tg hm hf y1) le (Option.none) Bool.false y0));let y3:=I.hid (α:=(Prop)) (zA (Go.Ab.Rq.mk (Go.Ab.Ln.mk (Go.Ab.Ln.b ln) (Go.Ab.Ln.cr ln) (Go.Ab.Ln.code ln)) p (Hd.mk m tg hm hf y1) le (Option.none) Bool.false out));let y4:=I.hid (α:=(Prop)) (zA (Go.Ab.Rq.mk (Go.Ab.Ln.mk (Go.Ab.Ln.b ln) (Go.Ab.Ln.cr ln) (Go.Ab.Ln.code ln)) p (Hd.mk m tg hm hf y1) le (Option.none) Bool.false y0));let y5:=I.hid (α:=Int) (Prod.snd (lenM hm hf));let y6:=I.hid (α:=Int) (Prod.snd (oneF (valsF hf ([104,111,115,116]:Str))));.need (I.hid (α:=(Prop)) (And (LE.le (List.length hf) 1000) (And (LE.le (List.length ([104,111,115,116]:Str)) 1000000) (∀ (f:Fld),f ∈ hf→List.length f.name≤1000000∧List.length f.value≤1000000)))) (.br (I.ieq y6 9) (.fin (.ret (.v (.one (.p (.int .i64 13))))) [(.abs (.rq (Go.Ab.Rq.mk (Go.Ab.Ln.mk (Go.Ab.Ln.b ln) (Go.Ab.Ln.cr ln) (Go.Ab.Ln.code ln)) p (Hd.mk m tg hm hf hl) le (Option.none) Bool.true out)))]) (.br (I.ieq y6 10) (.br (I.ieq hm 1) (.fin (.ret (.v (.one (.p (.int .i64 13))))) [(.abs (.rq (Go.Ab.Rq.mk (Go.Ab.Ln.mk (Go.Ab.Ln.b ln) (Go.Ab.Ln.cr ln) (Go.Ab.Ln.code ln)) p (Hd.mk m tg hm hf hl) le (Option.none) Bool.true out)))]) (.need (I.hid (α:=(Prop)) (FsOk hf)) (.br (I.bnot (I.ieq y5 0)) (.fin (.ret (.v (.one (.p (.int .i64 y5))))) [(.abs (.rq (Go.Ab.Rq.mk (Go.Ab.Ln.mk (Go.Ab.Ln.b ln) (Go.Ab.Ln.cr ln) (Go.Ab.Ln.code ln)) p (Hd.mk m tg hm hf hl) le (Option.none) Bool.false out)))]) (.need y3 (.br (I.ieq y1 0) (.need y4 (.fin (.ret (.v (.one (.p (.int .i64 0))))) [(.abs (.rq y2))])) (.br (I.ilt 0 y1) (.fin (.ret (.v (.one (.p (.int .i64 0))))) [(.abs (.rq (Go.Ab.Rq.mk (Go.Ab.Ln.mk (Go.Ab.Ln.b ln) (Go.Ab.Ln.cr ln) (Go.Ab.Ln.code ln)) (2:Int) (Hd.mk m tg hm hf y1) y1 (Option.none) Bool.false y0)))]) (.need (I.hid (α:=(Prop)) True) (.fin (.ret (.v (.one (.p (.int .i64 0))))) [(.abs (.rq (Go.Ab.Rq.mk (Go.Ab.Ln.mk (Go.Ab.Ln.b ln) (Go.Ab.Ln.cr ln) (Go.Ab.Ln.code ln)) (3:Int) (Hd.mk m tg hm hf y1) le (Option.some (Go.Ab.Ch.mk (Go.Ab.Ln.mk (I.hid (α:=Str) ([]:Str)) Bool.false (0:Int)) (0:Int) (0:Int) (0:Int) (0:Int) (0:Int))) Bool.false y0)))])))))))) (.need (I.hid (α:=(Prop)) (FsOk hf)) (.br (I.bnot (I.ieq y5 0)) (.fin (.ret (.v (.one (.p (.int .i64 y5))))) [(.abs (.rq (Go.Ab.Rq.mk (Go.Ab.Ln.mk (Go.Ab.Ln.b ln) (Go.Ab.Ln.cr ln) (Go.Ab.Ln.code ln)) p (Hd.mk m tg hm hf hl) le (Option.none) Bool.false out)))]) (.need y3 (.br (I.ieq y1 0) (.need y4 (.fin (.ret (.v (.one (.p (.int .i64 0))))) [(.abs (.rq y2))])) (.br (I.ilt 0 y1) (.fin (.ret (.v (.one (.p (.int .i64 0))))) [(.abs (.rq (Go.Ab.Rq.mk (Go.Ab.Ln.mk (Go.Ab.Ln.b ln) (Go.Ab.Ln.cr ln) (Go.Ab.Ln.code ln)) (2:Int) (Hd.mk m tg hm hf y1) y1 (Option.none) Bool.false y0)))]) (.need (I.hid (α:=(Prop)) True) (.fin (.ret (.v (.one (.p (.int .i64 0))))) [(.abs (.rq (Go.Ab.Rq.mk (Go.Ab.Ln.mk (Go.Ab.Ln.b ln) (Go.Ab.Ln.cr ln) (Go.Ab.Ln.code ln)) (3:Int) (Hd.mk m tg hm hf y1) le (Option.some (Go.Ab.Ch.mk (Go.Ab.Ln.mk (I.hid (α:=Str) ([]:Str)) Bool.false (0:Int)) (0:Int) (0:Int) (0:Int) (0:Int) (0:Int))) Bool.false y0)))])))))))))) (by kernel_rfl) ?_
  simp only [zB]
  subst hI
  unfold zO zfy at hr
  simp only at hr
  rw [show([104,111,115,116]:Str)=Ye from rfl]
  simp only [nrmA,nrmB,nrlB,reduceCtorEq,HO.abs.injEq,Gh.rq.injEq,Rq.mk.injEq]
  have hln:=Vw hm hf
  generalize oneF (valsF hf Ye)=oc at *
  obtain⟨ov,oc⟩:=oc
  simp only at hr ⊢
  generalize lenM hm hf=z at *
  obtain⟨zn,zc⟩:=z
  simp only at hr hln ⊢
  by_cases q1:(decide (oc=9)||decide (oc=10)&&decide (hm=1))=true
  · rw [if_pos q1] at hr
    simp only [Prod.mk.injEq] at hr
    obtain⟨rfl,rfl⟩:=hr
    simp only [Bool.or_eq_true,Bool.and_eq_true,decide_eq_true_eq] at q1
    (repeat' (first|refine And.intro ?_ ?_|intro _))<;>first|omega|exact True.intro|exact False.elim ‹False›|skip
    all_goals first|omega|rfl|exact hf1|exact⟨hf1,hf2⟩|(exact(hf2 _ ‹_›).1)|(exact(hf2 _ ‹_›).2)|(unfold zA;simp only;omega)|trace_state
  rw [if_neg q1] at hr
  simp only [Bool.or_eq_true,Bool.and_eq_true,decide_eq_true_eq] at q1
  by_cases q2:zc=0
  · rw [if_neg (fun h=>h q2)] at hr
    by_cases q3:zn=0
    · rw [if_pos q3] at hr
      simp only [Prod.mk.injEq] at hr
      obtain⟨rfl,rfl⟩:=hr
      subst q3
      (repeat' (first|refine And.intro ?_ ?_|intro _))<;>first|omega|exact True.intro|exact False.elim ‹False›|skip
      all_goals first|omega|rfl|exact hf1|exact⟨hf1,hf2⟩|(exact(hf2 _ ‹_›).1)|(exact(hf2 _ ‹_›).2)|(unfold zA;simp;omega)|trace_state
    rw [if_neg q3] at hr
    by_cases q4:0<zn
    · rw [if_pos q4] at hr
      simp only [Prod.mk.injEq] at hr
      obtain⟨rfl,rfl⟩:=hr
      (repeat' (first|refine And.intro ?_ ?_|intro _))<;>first|omega|exact True.intro|exact False.elim ‹False›|skip
      all_goals first|omega|rfl|exact hf1|exact⟨hf1,hf2⟩|(exact(hf2 _ ‹_›).1)|(exact(hf2 _ ‹_›).2)|(unfold zA;simp;omega)|trace_state
    · rw [if_neg q4] at hr
      simp only [Prod.mk.injEq] at hr
      obtain⟨rfl,rfl⟩:=hr
      (repeat' (first|refine And.intro ?_ ?_|intro _))<;>first|omega|exact True.intro|exact False.elim ‹False›|skip
      all_goals first|omega|rfl|exact hf1|exact⟨hf1,hf2⟩|(exact(hf2 _ ‹_›).1)|(exact(hf2 _ ‹_›).2)|(unfold zA;simp;omega)|trace_state
  · rw [if_pos q2] at hr
    simp only [Prod.mk.injEq] at hr
    obtain⟨rfl,rfl⟩:=hr
    (repeat' (first|refine And.intro ?_ ?_|intro _))<;>first|omega|exact True.intro|exact False.elim ‹False›|skip
    all_goals first|omega|rfl|exact hf1|exact⟨hf1,hf2⟩|(exact(hf2 _ ‹_›).1)|(exact(hf2 _ ‹_›).2)|(unfold zA;simp only;omega)|trace_state
theorem zb8 (ln:Ln) (p:Int) (m tg:Str) (hm:Int) (hf:List Fld) (hl le:Int) (out:List Evt) (hneed:yM ⟨ln,p,⟨m,tg,hm,hf,hl⟩,le,none,false,out⟩∧rqFs ⟨ln,p,⟨m,tg,hm,hf,hl⟩,le,none,false,out⟩):Spc Tryd.prog 44 [.v (.one (.ptr 0 0))] [.abs (.rq ⟨ln,p,⟨m,tg,hm,hf,hl⟩,le,none,false,out⟩)] (.ret (.v (.one (.p (.int .i64 ((zO ⟨ln,p,⟨m,tg,hm,hf,hl⟩,le,none,false,out⟩).2)))))) [.abs (.rq (((zO ⟨ln,p,⟨m,tg,hm,hf,hl⟩,le,none,false,out⟩).1)))]:=by
  exact absurd hneed.1 (fun h=>by unfold yM at h;cases h)
theorem zb5 (ln:Ln) (p:Int) (m tg:Str) (hm:Int) (hf:List Fld) (hl le:Int) (ch:Ch) (out:List Evt) (hneed:yM ⟨ln,p,⟨m,tg,hm,hf,hl⟩,le,some ch,true,out⟩∧rqFs ⟨ln,p,⟨m,tg,hm,hf,hl⟩,le,some ch,true,out⟩):Spc Tryd.prog 44 [.v (.one (.ptr 0 0))] [.abs (.rq ⟨ln,p,⟨m,tg,hm,hf,hl⟩,le,some ch,true,out⟩)] (.ret (.v (.one (.p (.int .i64 ((zO ⟨ln,p,⟨m,tg,hm,hf,hl⟩,le,some ch,true,out⟩).2)))))) [.abs (.rq (((zO ⟨ln,p,⟨m,tg,hm,hf,hl⟩,le,some ch,true,out⟩).1)))]:=by
  obtain⟨-,hfs,hfw⟩:=hneed
  simp only at hfs hfw
  obtain⟨hf1,hf2⟩:=hfs
  generalize hr:zO ⟨ln,p,⟨m,tg,hm,hf,hl⟩,le,some ch,true,out⟩=r
  obtain⟨rq,rc⟩:=r
  have hhl:Ye.length≤1000000:=by decide
  refine spcG zx mixed Tryd.func44 (by kernel_rfl) { cfgQ with fz:=[26],keep:=some [0,2,4,5]} [VG,VF,zat,zas,zM,zL,zS,zQ,zX,zW,yh,yg,yS,yR,tV,tN,Qn,Qm] (by kernel_rfl) ?_
  intro I X hI hX
  refine zi (let y1:=I.hid (α:=Int) (Prod.fst (lenM hm hf));let y0:=I.hid (α:=(List Go.Ab.Evt)) (HAppend.hAppend out ([(Go.Ab.Evt.mk (1:Int) (Hd.mk m tg hm hf y1) ([]:Str) (Go.Ab.Prt.mk ([]:Str) ([]:Str) ([]:Str) ([]:Str)) (0:Int))]:List Go.Ab.Evt));let y2:=I.hid (α:=Go.Ab.Rq) (yX (Go.Ab.Rq.mk (Go.Ab.Ln.mk (Go.Ab.Ln.b ln) (Go.Ab.Ln.cr ln) (Go.Ab.Ln.code ln)) p (Hd.mk m tg hm hf y1) le (Option.some (Go.Ab.Ch.mk (Go.Ab.Ln.mk (Go.Ab.Ln.b (Go.Ab.Ch.ln ch)) (Go.Ab.Ln.cr (Go.Ab.Ch.ln ch)) (Go.Ab.Ln.code (Go.Ab.Ch.ln ch))) (Go.Ab.Ch.pos ch) (Go.Ab.Ch.left ch) (Go.Ab.Ch.all ch) (Go.Ab.Ch.tails ch) (Go.Ab.Ch.code ch))) Bool.false y0));let y3:=I.hid (α:=(Prop)) (zA (Go.Ab.Rq.mk (Go.Ab.Ln.mk (Go.Ab.Ln.b ln) (Go.Ab.Ln.cr ln) (Go.Ab.Ln.code ln)) p (Hd.mk m tg hm hf y1) le (Option.some (Go.Ab.Ch.mk (Go.Ab.Ln.mk (Go.Ab.Ln.b (Go.Ab.Ch.ln ch)) (Go.Ab.Ln.cr (Go.Ab.Ch.ln ch)) (Go.Ab.Ln.code (Go.Ab.Ch.ln ch))) (Go.Ab.Ch.pos ch) (Go.Ab.Ch.left ch) (Go.Ab.Ch.all ch) (Go.Ab.Ch.tails ch) (Go.Ab.Ch.code ch))) Bool.false out));let y4:=I.hid (α:=(Prop)) (zA (Go.Ab.Rq.mk (Go.Ab.Ln.mk (Go.Ab.Ln.b ln) (Go.Ab.Ln.cr ln) (Go.Ab.Ln.code ln)) p (Hd.mk m tg hm hf y1) le (Option.some (Go.Ab.Ch.mk (Go.Ab.Ln.mk (Go.Ab.Ln.b (Go.Ab.Ch.ln ch)) (Go.Ab.Ln.cr (Go.Ab.Ch.ln ch)) (Go.Ab.Ln.code (Go.Ab.Ch.ln ch))) (Go.Ab.Ch.pos ch) (Go.Ab.Ch.left ch) (Go.Ab.Ch.all ch) (Go.Ab.Ch.tails ch) (Go.Ab.Ch.code ch))) Bool.false y0));let y5:=I.hid (α:=Int) (Prod.snd (lenM hm hf));let y6:=I.hid (α:=Int) (Prod.snd (oneF (valsF hf ([104,111,115,116]:Str))));.need (I.hid (α:=(Prop)) (And (LE.le (List.length hf) 1000) (And (LE.le (List.length ([104,111,115,116]:Str)) 1000000) (∀ (f:Fld),f ∈ hf→List.length f.name≤1000000∧List.length f.value≤1000000)))) (.br (I.ieq y6 9) (.fin (.ret (.v (.one (.p (.int .i64 13))))) [(.abs (.rq (Go.Ab.Rq.mk (Go.Ab.Ln.mk (Go.Ab.Ln.b ln) (Go.Ab.Ln.cr ln) (Go.Ab.Ln.code ln)) p (Hd.mk m tg hm hf hl) le (Option.some (Go.Ab.Ch.mk (Go.Ab.Ln.mk (Go.Ab.Ln.b (Go.Ab.Ch.ln ch)) (Go.Ab.Ln.cr (Go.Ab.Ch.ln ch)) (Go.Ab.Ln.code (Go.Ab.Ch.ln ch))) (Go.Ab.Ch.pos ch) (Go.Ab.Ch.left ch) (Go.Ab.Ch.all ch) (Go.Ab.Ch.tails ch) (Go.Ab.Ch.code ch))) Bool.true out)))]) (.br (I.ieq y6 10) (.br (I.ieq hm 1) (.fin (.ret (.v (.one (.p (.int .i64 13))))) [(.abs (.rq (Go.Ab.Rq.mk (Go.Ab.Ln.mk (Go.Ab.Ln.b ln) (Go.Ab.Ln.cr ln) (Go.Ab.Ln.code ln)) p (Hd.mk m tg hm hf hl) le (Option.some (Go.Ab.Ch.mk (Go.Ab.Ln.mk (Go.Ab.Ln.b (Go.Ab.Ch.ln ch)) (Go.Ab.Ln.cr (Go.Ab.Ch.ln ch)) (Go.Ab.Ln.code (Go.Ab.Ch.ln ch))) (Go.Ab.Ch.pos ch) (Go.Ab.Ch.left ch) (Go.Ab.Ch.all ch) (Go.Ab.Ch.tails ch) (Go.Ab.Ch.code ch))) Bool.true out)))]) (.need (I.hid (α:=(Prop)) (FsOk hf)) (.br (I.bnot (I.ieq y5 0)) (.fin (.ret (.v (.one (.p (.int .i64 y5))))) [(.abs (.rq (Go.Ab.Rq.mk (Go.Ab.Ln.mk (Go.Ab.Ln.b ln) (Go.Ab.Ln.cr ln) (Go.Ab.Ln.code ln)) p (Hd.mk m tg hm hf hl) le (Option.some (Go.Ab.Ch.mk (Go.Ab.Ln.mk (Go.Ab.Ln.b (Go.Ab.Ch.ln ch)) (Go.Ab.Ln.cr (Go.Ab.Ch.ln ch)) (Go.Ab.Ln.code (Go.Ab.Ch.ln ch))) (Go.Ab.Ch.pos ch) (Go.Ab.Ch.left ch) (Go.Ab.Ch.all ch) (Go.Ab.Ch.tails ch) (Go.Ab.Ch.code ch))) Bool.false out)))]) (.need y3 (.br (I.ieq y1 0) (.need y4 (.fin (.ret (.v (.one (.p (.int .i64 0))))) [(.abs (.rq y2))])) (.br (I.ilt 0 y1) (.fin (.ret (.v (.one (.p (.int .i64 0))))) [(.abs (.rq (Go.Ab.Rq.mk (Go.Ab.Ln.mk (Go.Ab.Ln.b ln) (Go.Ab.Ln.cr ln) (Go.Ab.Ln.code ln)) (2:Int) (Hd.mk m tg hm hf y1) y1 (Option.some (Go.Ab.Ch.mk (Go.Ab.Ln.mk (Go.Ab.Ln.b (Go.Ab.Ch.ln ch)) (Go.Ab.Ln.cr (Go.Ab.Ch.ln ch)) (Go.Ab.Ln.code (Go.Ab.Ch.ln ch))) (Go.Ab.Ch.pos ch) (Go.Ab.Ch.left ch) (Go.Ab.Ch.all ch) (Go.Ab.Ch.tails ch) (Go.Ab.Ch.code ch))) Bool.false y0)))]) (.need (I.hid (α:=(Prop)) True) (.fin (.ret (.v (.one (.p (.int .i64 0))))) [(.abs (.rq (Go.Ab.Rq.mk (Go.Ab.Ln.mk (Go.Ab.Ln.b ln) (Go.Ab.Ln.cr ln) (Go.Ab.Ln.code ln)) (3:Int) (Hd.mk m tg hm hf y1) le (Option.some (Go.Ab.Ch.mk (Go.Ab.Ln.mk (I.hid (α:=Str) ([]:Str)) Bool.false (0:Int)) (0:Int) (0:Int) (0:Int) (0:Int) (0:Int))) Bool.false y0)))])))))))) (.need (I.hid (α:=(Prop)) (FsOk hf)) (.br (I.bnot (I.ieq y5 0)) (.fin (.ret (.v (.one (.p (.int .i64 y5))))) [(.abs (.rq (Go.Ab.Rq.mk (Go.Ab.Ln.mk (Go.Ab.Ln.b ln) (Go.Ab.Ln.cr ln) (Go.Ab.Ln.code ln)) p (Hd.mk m tg hm hf hl) le (Option.some (Go.Ab.Ch.mk (Go.Ab.Ln.mk (Go.Ab.Ln.b (Go.Ab.Ch.ln ch)) (Go.Ab.Ln.cr (Go.Ab.Ch.ln ch)) (Go.Ab.Ln.code (Go.Ab.Ch.ln ch))) (Go.Ab.Ch.pos ch) (Go.Ab.Ch.left ch) (Go.Ab.Ch.all ch) (Go.Ab.Ch.tails ch) (Go.Ab.Ch.code ch))) Bool.false out)))]) (.need y3 (.br (I.ieq y1 0) (.need y4 (.fin (.ret (.v (.one (.p (.int .i64 0))))) [(.abs (.rq y2))])) (.br (I.ilt 0 y1) (.fin (.ret (.v (.one (.p (.int .i64 0))))) [(.abs (.rq (Go.Ab.Rq.mk (Go.Ab.Ln.mk (Go.Ab.Ln.b ln) (Go.Ab.Ln.cr ln) (Go.Ab.Ln.code ln)) (2:Int) (Hd.mk m tg hm hf y1) y1 (Option.some (Go.Ab.Ch.mk (Go.Ab.Ln.mk (Go.Ab.Ln.b (Go.Ab.Ch.ln ch)) (Go.Ab.Ln.cr (Go.Ab.Ch.ln ch)) (Go.Ab.Ln.code (Go.Ab.Ch.ln ch))) (Go.Ab.Ch.pos ch) (Go.Ab.Ch.left ch) (Go.Ab.Ch.all ch) (Go.Ab.Ch.tails ch) (Go.Ab.Ch.code ch))) Bool.false y0)))]) (.need (I.hid (α:=(Prop)) True) (.fin (.ret (.v (.one (.p (.int .i64 0))))) [(.abs (.rq (Go.Ab.Rq.mk (Go.Ab.Ln.mk (Go.Ab.Ln.b ln) (Go.Ab.Ln.cr ln) (Go.Ab.Ln.code ln)) (3:Int) (Hd.mk m tg hm hf y1) le (Option.some (Go.Ab.Ch.mk (Go.Ab.Ln.mk (I.hid (α:=Str) ([]:Str)) Bool.false (0:Int)) (0:Int) (0:Int) (0:Int) (0:Int) (0:Int))) Bool.false y0)))])))))))))) (by kernel_rfl) ?_
  simp only [zB]
  subst hI
  unfold zO zfy at hr
  simp only at hr
  rw [show([104,111,115,116]:Str)=Ye from rfl]
  simp only [nrmA,nrmB,nrlB,reduceCtorEq,HO.abs.injEq,Gh.rq.injEq,Rq.mk.injEq]
  have hln:=Vw hm hf
  generalize oneF (valsF hf Ye)=oc at *
  obtain⟨ov,oc⟩:=oc
  simp only at hr ⊢
  generalize lenM hm hf=z at *
  obtain⟨zn,zc⟩:=z
  simp only at hr hln ⊢
  by_cases q1:(decide (oc=9)||decide (oc=10)&&decide (hm=1))=true
  · rw [if_pos q1] at hr
    simp only [Prod.mk.injEq] at hr
    obtain⟨rfl,rfl⟩:=hr
    simp only [Bool.or_eq_true,Bool.and_eq_true,decide_eq_true_eq] at q1
    (repeat' (first|refine And.intro ?_ ?_|intro _))<;>first|omega|exact True.intro|exact False.elim ‹False›|skip
    all_goals first|omega|rfl|exact hf1|exact⟨hf1,hf2⟩|(exact(hf2 _ ‹_›).1)|(exact(hf2 _ ‹_›).2)|(unfold zA;simp only;omega)|trace_state
  rw [if_neg q1] at hr
  simp only [Bool.or_eq_true,Bool.and_eq_true,decide_eq_true_eq] at q1
  by_cases q2:zc=0
  · rw [if_neg (fun h=>h q2)] at hr
    by_cases q3:zn=0
    · rw [if_pos q3] at hr
      simp only [Prod.mk.injEq] at hr
      obtain⟨rfl,rfl⟩:=hr
      subst q3
      (repeat' (first|refine And.intro ?_ ?_|intro _))<;>first|omega|exact True.intro|exact False.elim ‹False›|skip
      all_goals first|omega|rfl|exact hf1|exact⟨hf1,hf2⟩|(exact(hf2 _ ‹_›).1)|(exact(hf2 _ ‹_›).2)|(unfold zA;simp;omega)|trace_state
    rw [if_neg q3] at hr
    by_cases q4:0<zn
    · rw [if_pos q4] at hr
      simp only [Prod.mk.injEq] at hr
      obtain⟨rfl,rfl⟩:=hr
      (repeat' (first|refine And.intro ?_ ?_|intro _))<;>first|omega|exact True.intro|exact False.elim ‹False›|skip
      all_goals first|omega|rfl|exact hf1|exact⟨hf1,hf2⟩|(exact(hf2 _ ‹_›).1)|(exact(hf2 _ ‹_›).2)|(unfold zA;simp;omega)|trace_state
    · rw [if_neg q4] at hr
      simp only [Prod.mk.injEq] at hr
      obtain⟨rfl,rfl⟩:=hr
      (repeat' (first|refine And.intro ?_ ?_|intro _))<;>first|omega|exact True.intro|exact False.elim ‹False›|skip
      all_goals first|omega|rfl|exact hf1|exact⟨hf1,hf2⟩|(exact(hf2 _ ‹_›).1)|(exact(hf2 _ ‹_›).2)|(unfold zA;simp;omega)|trace_state
  · rw [if_pos q2] at hr
    simp only [Prod.mk.injEq] at hr
    obtain⟨rfl,rfl⟩:=hr
    (repeat' (first|refine And.intro ?_ ?_|intro _))<;>first|omega|exact True.intro|exact False.elim ‹False›|skip
    all_goals first|omega|rfl|exact hf1|exact⟨hf1,hf2⟩|(exact(hf2 _ ‹_›).1)|(exact(hf2 _ ‹_›).2)|(unfold zA;simp only;omega)|trace_state
theorem zb6 (ln:Ln) (p:Int) (m tg:Str) (hm:Int) (hf:List Fld) (hl le:Int) (ch:Ch) (out:List Evt) (hneed:yM ⟨ln,p,⟨m,tg,hm,hf,hl⟩,le,some ch,false,out⟩∧rqFs ⟨ln,p,⟨m,tg,hm,hf,hl⟩,le,some ch,false,out⟩):Spc Tryd.prog 44 [.v (.one (.ptr 0 0))] [.abs (.rq ⟨ln,p,⟨m,tg,hm,hf,hl⟩,le,some ch,false,out⟩)] (.ret (.v (.one (.p (.int .i64 ((zO ⟨ln,p,⟨m,tg,hm,hf,hl⟩,le,some ch,false,out⟩).2)))))) [.abs (.rq (((zO ⟨ln,p,⟨m,tg,hm,hf,hl⟩,le,some ch,false,out⟩).1)))]:=by
  exact absurd hneed.1 (fun h=>by unfold yM at h;cases h)
theorem zfc (q:Rq) (hneed:yM q∧rqFs q):Spc Tryd.prog 44 [.v (.one (.ptr 0 0))] [.abs (.rq q)] (.ret (.v (.one (.p (.int .i64 ((zO q).2)))))) [.abs (.rq (((zO q).1)))]:=by
  obtain⟨ln,p,⟨m,tg,hm,hf,hl⟩,le,ck,own,out⟩:=q
  cases ck with
  | none=>cases own with
    |true=>exact zb7 ln p m tg hm hf hl le out hneed
    |false=>exact zb8 ln p m tg hm hf hl le out hneed
  | some ch=>cases own with
    |true=>exact zb5 ln p m tg hm hf hl le ch out hneed
    |false=>exact zb6 ln p m tg hm hf hl le ch out hneed
def qG (I:Alg) (args:List D) (hp:List HO):Option CT:=match args,hp with
  |[.v (.one (.ptr 0 0))],[.abs (.rq q)]=>(fun(q:Rq)=>(some (.one ⟨I.hid (yM q∧rqFs q),(.ret (.v (.one (.p (.int .i64 (I.hid ((zO q).2))))))),[.abs (.rq (I.hid (((zO q).1))))]⟩):Option CT)) q
  |_,_=>none
theorem Us:zG Tryd.prog 44 (qG alg):=by
  intro args hp r h
  unfold qG at h
  split at h
  · cases h;exact fun hn=>zfc _ hn
  · cases h
def Ur:Know Tryd.prog:=⟨44,qG,Us⟩
def Uo:Know Tryd.prog:=⟨44,fun I=>zK I (qG I),zf Us⟩
theorem zbV (ln:Ln) (p:Int) (m tg:Str) (hm:Int) (hf:List Fld) (hl le:Int) (out:List Evt) (s:Str) (hneed:yM ⟨ln,p,⟨m,tg,hm,hf,hl⟩,le,none,true,out⟩∧rqFs ⟨ln,p,⟨m,tg,hm,hf,hl⟩,le,none,true,out⟩∧s.length≤1000000):Spc Tryd.prog 31 [.v (.one (.ptr 0 0)),.v (.one (.p (.str s)))] [.abs (.rq ⟨ln,p,⟨m,tg,hm,hf,hl⟩,le,none,true,out⟩)] (.ret (.v (.one (.p (.int .i64 ((zF ⟨ln,p,⟨m,tg,hm,hf,hl⟩,le,none,true,out⟩ s).2)))))) [.abs (.rq (((zF ⟨ln,p,⟨m,tg,hm,hf,hl⟩,le,none,true,out⟩ s).1)))]:=by
  obtain⟨-,hfs,hs⟩:=hneed
  have hfs0:=hfs
  obtain⟨hfs,hfw⟩:=hfs
  simp only at hfs hfw
  obtain⟨hf1,hf2⟩:=hfs
  generalize hr:zF ⟨ln,p,⟨m,tg,hm,hf,hl⟩,le,none,true,out⟩ s=r
  obtain⟨rq,rc⟩:=r
  refine spcG zx mixed Tryd.func31 (by kernel_rfl) { cfgQ with seam:=[],keep:=some [0,1,4,5,6]} [Vp,Vo,Qr,Qq,Ur,Uo] (by kernel_rfl) ?_
  intro I X hI hX
  refine zi (let y2:=I.hid (α:=Str) (Fld.name (Prod.fst (yU s)));let y1:=I.hid (α:=Str) (Fld.value (Prod.fst (yU s)));let y0:=I.few (I.add (I.len (α:=Fld) hf) (I.len (α:=Fld) ([(Fld.mk y2 y1)]:List Fld))) 100000000;let y3:=I.hid (α:=Int) (Prod.snd (yU s));.br (I.ieq p 0) (.br (I.seq s ([]:Str)) (.fin (.ret (.v (.one (.p (.int .i64 0))))) [(.abs (.rq (Go.Ab.Rq.mk (Go.Ab.Ln.mk (Go.Ab.Ln.b ln) (Go.Ab.Ln.cr ln) (Go.Ab.Ln.code ln)) p (Hd.mk m tg hm hf hl) le (Option.none) Bool.true out)))]) (.need (I.hid (α:=(Prop)) (And (yM (Go.Ab.Rq.mk (Go.Ab.Ln.mk (Go.Ab.Ln.b ln) (Go.Ab.Ln.cr ln) (Go.Ab.Ln.code ln)) p (Hd.mk m tg hm hf hl) le (Option.none) Bool.true out)) (LE.le (List.length s) 1000000))) (.fin (.ret (.v (.one (.p (.int .i64 (I.hid (α:=Int) (Prod.fst (begM s)))))))) [(.abs (.rq (I.hid (α:=Go.Ab.Rq) (xg (Go.Ab.Rq.mk (Go.Ab.Ln.mk (Go.Ab.Ln.b ln) (Go.Ab.Ln.cr ln) (Go.Ab.Ln.code ln)) p (Hd.mk m tg hm hf hl) le (Option.none) Bool.true out) s))))]))) (.br (I.seq s ([]:Str)) (.need (I.hid (α:=(Prop)) (And (yM (Go.Ab.Rq.mk (Go.Ab.Ln.mk (Go.Ab.Ln.b ln) (Go.Ab.Ln.cr ln) (Go.Ab.Ln.code ln)) p (Hd.mk m tg hm hf hl) le (Option.none) Bool.true out)) (rqFs (Go.Ab.Rq.mk (Go.Ab.Ln.mk (Go.Ab.Ln.b ln) (Go.Ab.Ln.cr ln) (Go.Ab.Ln.code ln)) p (Hd.mk m tg hm hf hl) le (Option.none) Bool.true out)))) (.fin (.ret (.v (.one (.p (.int .i64 (I.hid (α:=Int) (Prod.snd (zO (Go.Ab.Rq.mk (Go.Ab.Ln.mk (Go.Ab.Ln.b ln) (Go.Ab.Ln.cr ln) (Go.Ab.Ln.code ln)) p (Hd.mk m tg hm hf hl) le (Option.none) Bool.true out))))))))) [(.abs (.rq (I.hid (α:=Go.Ab.Rq) (Prod.fst (zO (Go.Ab.Rq.mk (Go.Ab.Ln.mk (Go.Ab.Ln.b ln) (Go.Ab.Ln.cr ln) (Go.Ab.Ln.code ln)) p (Hd.mk m tg hm hf hl) le (Option.none) Bool.true out))))))])) (.br (I.ieq (I.len (α:=Fld) hf) 16) (.fin (.ret (.v (.one (.p (.int .i64 8))))) [(.abs (.rq (Go.Ab.Rq.mk (Go.Ab.Ln.mk (Go.Ab.Ln.b ln) (Go.Ab.Ln.cr ln) (Go.Ab.Ln.code ln)) p (Hd.mk m tg hm hf hl) le (Option.none) Bool.true out)))]) (.need (I.hid (α:=(Prop)) (LE.le (List.length s) 1000000)) (.both (.need y0 (.fin (.ret (.v (.one (.p (.int .i64 y3))))) [(.abs (.rq (Go.Ab.Rq.mk (Go.Ab.Ln.mk (Go.Ab.Ln.b ln) (Go.Ab.Ln.cr ln) (Go.Ab.Ln.code ln)) p (Hd.mk m tg hm (I.app (α:=Fld) hf ([(Fld.mk y2 y1)]:List Fld)) hl) le (Option.none) Bool.true out)))])) (.need y0 (.fin (.ret (.v (.one (.p (.int .i64 y3))))) [(.abs (.rq (Go.Ab.Rq.mk (Go.Ab.Ln.mk (Go.Ab.Ln.b ln) (Go.Ab.Ln.cr ln) (Go.Ab.Ln.code ln)) p (Hd.mk m tg hm (I.app (α:=Fld) hf ([(Fld.mk y2 y1)]:List Fld)) hl) le (Option.none) Bool.true out)))]))))))) (by kernel_rfl) ?_
  simp only [zB]
  subst hI
  unfold zF at hr
  simp only at hr
  simp only [nrmA,nrmB,nrlB,reduceCtorEq,HO.abs.injEq,Gh.rq.injEq,Rq.mk.injEq]
  have hdn:(zO ⟨ln,p,⟨m,tg,hm,hf,hl⟩,le,none,true,out⟩)=zO ⟨ln,p,⟨m,tg,hm,hf,hl⟩,le,none,true,out⟩:=rfl
  by_cases q1:p=0
  · rw [if_pos q1] at hr
    by_cases q2:s=[]
    · rw [if_pos q2] at hr
      simp only [Prod.mk.injEq] at hr
      obtain⟨rfl,rfl⟩:=hr
      (repeat' (first|refine And.intro ?_ ?_|intro _))<;>first|omega|exact True.intro|exact False.elim ‹False›|skip
      all_goals first|omega|rfl|(exfalso;exact ‹¬ s=[]› q2)|trace_state
    rw [if_neg q2] at hr
    have hbg:(xg ⟨ln,p,⟨m,tg,hm,hf,hl⟩,le,none,true,out⟩ s,(begM s).1)=(rq,rc):=by
      rw [← hr]
      unfold xg
      by_cases c0:(begM s).1=0
      · rw [if_pos c0,if_pos c0,c0]
      · rw [if_neg c0,if_neg c0]
        by_cases c1:(begM s).1=11
        · rw [if_pos c1,if_pos c1,c1]
        · rw [if_neg c1,if_neg c1]
    simp only [Prod.mk.injEq] at hbg
    (repeat' (first|refine And.intro ?_ ?_|intro _))<;>first|omega|exact True.intro|exact False.elim ‹False›|skip
    all_goals first|omega|exact hbg.1|exact hbg.2|exact⟨rfl,hs⟩|rfl|(exfalso;exact q2 ‹s=[]›)|(simp only [yM];done)|exact hs|trace_state
  · rw [if_neg q1] at hr
    by_cases q2:s=[]
    · rw [if_pos q2] at hr
      (repeat' (first|refine And.intro ?_ ?_|intro _))<;>first|omega|exact True.intro|exact False.elim ‹False›|skip
      all_goals first|omega|(rw [hr];done)|(rw [hr])|rfl|exact hfs0|exact hf1|(exact(hf2 _ ‹_›).1)|(exact(hf2 _ ‹_›).2)|(exfalso;exact ‹¬ s=[]› q2)|trace_state
    rw [if_neg q2] at hr
    by_cases q3:hf.length=16
    · rw [if_pos q3] at hr
      simp only [Prod.mk.injEq] at hr
      obtain⟨rfl,rfl⟩:=hr
      (repeat' (first|refine And.intro ?_ ?_|intro _))<;>first|omega|exact True.intro|exact False.elim ‹False›|skip
      all_goals first|omega|rfl|(exfalso;exact q2 ‹s=[]›)|trace_state
    · rw [if_neg q3] at hr
      simp only [Prod.mk.injEq] at hr
      obtain⟨rfl,rfl⟩:=hr
      (repeat' (first|refine And.intro ?_ ?_|intro _))<;>first|omega|exact True.intro|exact False.elim ‹False›|skip
      all_goals first|omega|rfl|exact hs|(simp only [List.length_cons,List.length_nil];omega)|(exfalso;exact q2 ‹s=[]›)|trace_state
theorem zbW (ln:Ln) (p:Int) (m tg:Str) (hm:Int) (hf:List Fld) (hl le:Int) (out:List Evt) (s:Str) (hneed:yM ⟨ln,p,⟨m,tg,hm,hf,hl⟩,le,none,false,out⟩∧rqFs ⟨ln,p,⟨m,tg,hm,hf,hl⟩,le,none,false,out⟩∧s.length≤1000000):Spc Tryd.prog 31 [.v (.one (.ptr 0 0)),.v (.one (.p (.str s)))] [.abs (.rq ⟨ln,p,⟨m,tg,hm,hf,hl⟩,le,none,false,out⟩)] (.ret (.v (.one (.p (.int .i64 ((zF ⟨ln,p,⟨m,tg,hm,hf,hl⟩,le,none,false,out⟩ s).2)))))) [.abs (.rq (((zF ⟨ln,p,⟨m,tg,hm,hf,hl⟩,le,none,false,out⟩ s).1)))]:=by
  exact absurd hneed.1 (fun h=>by unfold yM at h;cases h)
theorem zbT (ln:Ln) (p:Int) (m tg:Str) (hm:Int) (hf:List Fld) (hl le:Int) (ch:Ch) (out:List Evt) (s:Str) (hneed:yM ⟨ln,p,⟨m,tg,hm,hf,hl⟩,le,some ch,true,out⟩∧rqFs ⟨ln,p,⟨m,tg,hm,hf,hl⟩,le,some ch,true,out⟩∧s.length≤1000000):Spc Tryd.prog 31 [.v (.one (.ptr 0 0)),.v (.one (.p (.str s)))] [.abs (.rq ⟨ln,p,⟨m,tg,hm,hf,hl⟩,le,some ch,true,out⟩)] (.ret (.v (.one (.p (.int .i64 ((zF ⟨ln,p,⟨m,tg,hm,hf,hl⟩,le,some ch,true,out⟩ s).2)))))) [.abs (.rq (((zF ⟨ln,p,⟨m,tg,hm,hf,hl⟩,le,some ch,true,out⟩ s).1)))]:=by
  obtain⟨-,hfs,hs⟩:=hneed
  have hfs0:=hfs
  obtain⟨hfs,hfw⟩:=hfs
  simp only at hfs hfw
  obtain⟨hf1,hf2⟩:=hfs
  generalize hr:zF ⟨ln,p,⟨m,tg,hm,hf,hl⟩,le,some ch,true,out⟩ s=r
  obtain⟨rq,rc⟩:=r
  refine spcG zx mixed Tryd.func31 (by kernel_rfl) { cfgQ with seam:=[],keep:=some [0,1,4,5,6]} [Vp,Vo,Qr,Qq,Ur,Uo] (by kernel_rfl) ?_
  intro I X hI hX
  refine zi (let y2:=I.hid (α:=Str) (Fld.name (Prod.fst (yU s)));let y1:=I.hid (α:=Str) (Fld.value (Prod.fst (yU s)));let y0:=I.few (I.add (I.len (α:=Fld) hf) (I.len (α:=Fld) ([(Fld.mk y2 y1)]:List Fld))) 100000000;let y3:=I.hid (α:=Int) (Prod.snd (yU s));.br (I.ieq p 0) (.br (I.seq s ([]:Str)) (.fin (.ret (.v (.one (.p (.int .i64 0))))) [(.abs (.rq (Go.Ab.Rq.mk (Go.Ab.Ln.mk (Go.Ab.Ln.b ln) (Go.Ab.Ln.cr ln) (Go.Ab.Ln.code ln)) p (Hd.mk m tg hm hf hl) le (Option.some (Go.Ab.Ch.mk (Go.Ab.Ln.mk (Go.Ab.Ln.b (Go.Ab.Ch.ln ch)) (Go.Ab.Ln.cr (Go.Ab.Ch.ln ch)) (Go.Ab.Ln.code (Go.Ab.Ch.ln ch))) (Go.Ab.Ch.pos ch) (Go.Ab.Ch.left ch) (Go.Ab.Ch.all ch) (Go.Ab.Ch.tails ch) (Go.Ab.Ch.code ch))) Bool.true out)))]) (.need (I.hid (α:=(Prop)) (And (yM (Go.Ab.Rq.mk (Go.Ab.Ln.mk (Go.Ab.Ln.b ln) (Go.Ab.Ln.cr ln) (Go.Ab.Ln.code ln)) p (Hd.mk m tg hm hf hl) le (Option.some (Go.Ab.Ch.mk (Go.Ab.Ln.mk (Go.Ab.Ln.b (Go.Ab.Ch.ln ch)) (Go.Ab.Ln.cr (Go.Ab.Ch.ln ch)) (Go.Ab.Ln.code (Go.Ab.Ch.ln ch))) (Go.Ab.Ch.pos ch) (Go.Ab.Ch.left ch) (Go.Ab.Ch.all ch) (Go.Ab.Ch.tails ch) (Go.Ab.Ch.code ch))) Bool.true out)) (LE.le (List.length s) 1000000))) (.fin (.ret (.v (.one (.p (.int .i64 (I.hid (α:=Int) (Prod.fst (begM s)))))))) [(.abs (.rq (I.hid (α:=Go.Ab.Rq) (xg (Go.Ab.Rq.mk (Go.Ab.Ln.mk (Go.Ab.Ln.b ln) (Go.Ab.Ln.cr ln) (Go.Ab.Ln.code ln)) p (Hd.mk m tg hm hf hl) le (Option.some (Go.Ab.Ch.mk (Go.Ab.Ln.mk (Go.Ab.Ln.b (Go.Ab.Ch.ln ch)) (Go.Ab.Ln.cr (Go.Ab.Ch.ln ch)) (Go.Ab.Ln.code (Go.Ab.Ch.ln ch))) (Go.Ab.Ch.pos ch) (Go.Ab.Ch.left ch) (Go.Ab.Ch.all ch) (Go.Ab.Ch.tails ch) (Go.Ab.Ch.code ch))) Bool.true out) s))))]))) (.br (I.seq s ([]:Str)) (.need (I.hid (α:=(Prop)) (And (yM (Go.Ab.Rq.mk (Go.Ab.Ln.mk (Go.Ab.Ln.b ln) (Go.Ab.Ln.cr ln) (Go.Ab.Ln.code ln)) p (Hd.mk m tg hm hf hl) le (Option.some (Go.Ab.Ch.mk (Go.Ab.Ln.mk (Go.Ab.Ln.b (Go.Ab.Ch.ln ch)) (Go.Ab.Ln.cr (Go.Ab.Ch.ln ch)) (Go.Ab.Ln.code (Go.Ab.Ch.ln ch))) (Go.Ab.Ch.pos ch) (Go.Ab.Ch.left ch) (Go.Ab.Ch.all ch) (Go.Ab.Ch.tails ch) (Go.Ab.Ch.code ch))) Bool.true out)) (rqFs (Go.Ab.Rq.mk (Go.Ab.Ln.mk (Go.Ab.Ln.b ln) (Go.Ab.Ln.cr ln) (Go.Ab.Ln.code ln)) p (Hd.mk m tg hm hf hl) le (Option.some (Go.Ab.Ch.mk (Go.Ab.Ln.mk (Go.Ab.Ln.b (Go.Ab.Ch.ln ch)) (Go.Ab.Ln.cr (Go.Ab.Ch.ln ch)) (Go.Ab.Ln.code (Go.Ab.Ch.ln ch))) (Go.Ab.Ch.pos ch) (Go.Ab.Ch.left ch) (Go.Ab.Ch.all ch) (Go.Ab.Ch.tails ch) (Go.Ab.Ch.code ch))) Bool.true out)))) (.fin (.ret (.v (.one (.p (.int .i64 (I.hid (α:=Int) (Prod.snd (zO (Go.Ab.Rq.mk (Go.Ab.Ln.mk (Go.Ab.Ln.b ln) (Go.Ab.Ln.cr ln) (Go.Ab.Ln.code ln)) p (Hd.mk m tg hm hf hl) le (Option.some (Go.Ab.Ch.mk (Go.Ab.Ln.mk (Go.Ab.Ln.b (Go.Ab.Ch.ln ch)) (Go.Ab.Ln.cr (Go.Ab.Ch.ln ch)) (Go.Ab.Ln.code (Go.Ab.Ch.ln ch))) (Go.Ab.Ch.pos ch) (Go.Ab.Ch.left ch) (Go.Ab.Ch.all ch) (Go.Ab.Ch.tails ch) (Go.Ab.Ch.code ch))) Bool.true out))))))))) [(.abs (.rq (I.hid (α:=Go.Ab.Rq) (Prod.fst (zO (Go.Ab.Rq.mk (Go.Ab.Ln.mk (Go.Ab.Ln.b ln) (Go.Ab.Ln.cr ln) (Go.Ab.Ln.code ln)) p (Hd.mk m tg hm hf hl) le (Option.some (Go.Ab.Ch.mk (Go.Ab.Ln.mk (Go.Ab.Ln.b (Go.Ab.Ch.ln ch)) (Go.Ab.Ln.cr (Go.Ab.Ch.ln ch)) (Go.Ab.Ln.code (Go.Ab.Ch.ln ch))) (Go.Ab.Ch.pos ch) (Go.Ab.Ch.left ch) (Go.Ab.Ch.all ch) (Go.Ab.Ch.tails ch) (Go.Ab.Ch.code ch))) Bool.true out))))))])) (.br (I.ieq (I.len (α:=Fld) hf) 16) (.fin (.ret (.v (.one (.p (.int .i64 8))))) [(.abs (.rq (Go.Ab.Rq.mk (Go.Ab.Ln.mk (Go.Ab.Ln.b ln) (Go.Ab.Ln.cr ln) (Go.Ab.Ln.code ln)) p (Hd.mk m tg hm hf hl) le (Option.some (Go.Ab.Ch.mk (Go.Ab.Ln.mk (Go.Ab.Ln.b (Go.Ab.Ch.ln ch)) (Go.Ab.Ln.cr (Go.Ab.Ch.ln ch)) (Go.Ab.Ln.code (Go.Ab.Ch.ln ch))) (Go.Ab.Ch.pos ch) (Go.Ab.Ch.left ch) (Go.Ab.Ch.all ch) (Go.Ab.Ch.tails ch) (Go.Ab.Ch.code ch))) Bool.true out)))]) (.need (I.hid (α:=(Prop)) (LE.le (List.length s) 1000000)) (.both (.need y0 (.fin (.ret (.v (.one (.p (.int .i64 y3))))) [(.abs (.rq (Go.Ab.Rq.mk (Go.Ab.Ln.mk (Go.Ab.Ln.b ln) (Go.Ab.Ln.cr ln) (Go.Ab.Ln.code ln)) p (Hd.mk m tg hm (I.app (α:=Fld) hf ([(Fld.mk y2 y1)]:List Fld)) hl) le (Option.some (Go.Ab.Ch.mk (Go.Ab.Ln.mk (Go.Ab.Ln.b (Go.Ab.Ch.ln ch)) (Go.Ab.Ln.cr (Go.Ab.Ch.ln ch)) (Go.Ab.Ln.code (Go.Ab.Ch.ln ch))) (Go.Ab.Ch.pos ch) (Go.Ab.Ch.left ch) (Go.Ab.Ch.all ch) (Go.Ab.Ch.tails ch) (Go.Ab.Ch.code ch))) Bool.true out)))])) (.need y0 (.fin (.ret (.v (.one (.p (.int .i64 y3))))) [(.abs (.rq (Go.Ab.Rq.mk (Go.Ab.Ln.mk (Go.Ab.Ln.b ln) (Go.Ab.Ln.cr ln) (Go.Ab.Ln.code ln)) p (Hd.mk m tg hm (I.app (α:=Fld) hf ([(Fld.mk y2 y1)]:List Fld)) hl) le (Option.some (Go.Ab.Ch.mk (Go.Ab.Ln.mk (Go.Ab.Ln.b (Go.Ab.Ch.ln ch)) (Go.Ab.Ln.cr (Go.Ab.Ch.ln ch)) (Go.Ab.Ln.code (Go.Ab.Ch.ln ch))) (Go.Ab.Ch.pos ch) (Go.Ab.Ch.left ch) (Go.Ab.Ch.all ch) (Go.Ab.Ch.tails ch) (Go.Ab.Ch.code ch))) Bool.true out)))]))))))) (by kernel_rfl) ?_
  simp only [zB]
  subst hI
  unfold zF at hr
  simp only at hr
  simp only [nrmA,nrmB,nrlB,reduceCtorEq,HO.abs.injEq,Gh.rq.injEq,Rq.mk.injEq]
  have hdn:(zO ⟨ln,p,⟨m,tg,hm,hf,hl⟩,le,some ch,true,out⟩)=zO ⟨ln,p,⟨m,tg,hm,hf,hl⟩,le,some ch,true,out⟩:=rfl
  by_cases q1:p=0
  · rw [if_pos q1] at hr
    by_cases q2:s=[]
    · rw [if_pos q2] at hr
      simp only [Prod.mk.injEq] at hr
      obtain⟨rfl,rfl⟩:=hr
      (repeat' (first|refine And.intro ?_ ?_|intro _))<;>first|omega|exact True.intro|exact False.elim ‹False›|skip
      all_goals first|omega|rfl|(exfalso;exact ‹¬ s=[]› q2)|trace_state
    rw [if_neg q2] at hr
    have hbg:(xg ⟨ln,p,⟨m,tg,hm,hf,hl⟩,le,some ch,true,out⟩ s,(begM s).1)=(rq,rc):=by
      rw [← hr]
      unfold xg
      by_cases c0:(begM s).1=0
      · rw [if_pos c0,if_pos c0,c0]
      · rw [if_neg c0,if_neg c0]
        by_cases c1:(begM s).1=11
        · rw [if_pos c1,if_pos c1,c1]
        · rw [if_neg c1,if_neg c1]
    simp only [Prod.mk.injEq] at hbg
    (repeat' (first|refine And.intro ?_ ?_|intro _))<;>first|omega|exact True.intro|exact False.elim ‹False›|skip
    all_goals first|omega|exact hbg.1|exact hbg.2|exact⟨rfl,hs⟩|rfl|(exfalso;exact q2 ‹s=[]›)|(simp only [yM];done)|exact hs|trace_state
  · rw [if_neg q1] at hr
    by_cases q2:s=[]
    · rw [if_pos q2] at hr
      (repeat' (first|refine And.intro ?_ ?_|intro _))<;>first|omega|exact True.intro|exact False.elim ‹False›|skip
      all_goals first|omega|(rw [hr];done)|(rw [hr])|rfl|exact hfs0|exact hf1|(exact(hf2 _ ‹_›).1)|(exact(hf2 _ ‹_›).2)|(exfalso;exact ‹¬ s=[]› q2)|trace_state
    rw [if_neg q2] at hr
    by_cases q3:hf.length=16
    · rw [if_pos q3] at hr
      simp only [Prod.mk.injEq] at hr
      obtain⟨rfl,rfl⟩:=hr
      (repeat' (first|refine And.intro ?_ ?_|intro _))<;>first|omega|exact True.intro|exact False.elim ‹False›|skip
      all_goals first|omega|rfl|(exfalso;exact q2 ‹s=[]›)|trace_state
    · rw [if_neg q3] at hr
      simp only [Prod.mk.injEq] at hr
      obtain⟨rfl,rfl⟩:=hr
      (repeat' (first|refine And.intro ?_ ?_|intro _))<;>first|omega|exact True.intro|exact False.elim ‹False›|skip
      all_goals first|omega|rfl|exact hs|(simp only [List.length_cons,List.length_nil];omega)|(exfalso;exact q2 ‹s=[]›)|trace_state
theorem zbU (ln:Ln) (p:Int) (m tg:Str) (hm:Int) (hf:List Fld) (hl le:Int) (ch:Ch) (out:List Evt) (s:Str) (hneed:yM ⟨ln,p,⟨m,tg,hm,hf,hl⟩,le,some ch,false,out⟩∧rqFs ⟨ln,p,⟨m,tg,hm,hf,hl⟩,le,some ch,false,out⟩∧s.length≤1000000):Spc Tryd.prog 31 [.v (.one (.ptr 0 0)),.v (.one (.p (.str s)))] [.abs (.rq ⟨ln,p,⟨m,tg,hm,hf,hl⟩,le,some ch,false,out⟩)] (.ret (.v (.one (.p (.int .i64 ((zF ⟨ln,p,⟨m,tg,hm,hf,hl⟩,le,some ch,false,out⟩ s).2)))))) [.abs (.rq (((zF ⟨ln,p,⟨m,tg,hm,hf,hl⟩,le,some ch,false,out⟩ s).1)))]:=by
  exact absurd hneed.1 (fun h=>by unfold yM at h;cases h)
theorem ze7 (q:Rq) (s:Str) (hneed:yM q∧rqFs q∧s.length≤1000000):Spc Tryd.prog 31 [.v (.one (.ptr 0 0)),.v (.one (.p (.str s)))] [.abs (.rq q)] (.ret (.v (.one (.p (.int .i64 ((zF q s).2)))))) [.abs (.rq (((zF q s).1)))]:=by
  obtain⟨ln,p,⟨m,tg,hm,hf,hl⟩,le,ck,own,out⟩:=q
  cases ck with
  | none=>cases own with
    |true=>exact zbV ln p m tg hm hf hl le out s hneed
    |false=>exact zbW ln p m tg hm hf hl le out s hneed
  | some ch=>cases own with
    |true=>exact zbT ln p m tg hm hf hl le ch out s hneed
    |false=>exact zbU ln p m tg hm hf hl le ch out s hneed
def qw (I:Alg) (args:List D) (hp:List HO):Option CT:=match args,hp with
  |[.v (.one (.ptr 0 0)),.v (.one (.p (.str s)))],[.abs (.rq q)]=>(fun(q:Rq) (s:Str)=>(some (.one ⟨I.hid (yM q∧rqFs q∧s.length≤1000000),(.ret (.v (.one (.p (.int .i64 (I.hid ((zF q s).2))))))),[.abs (.rq (I.hid (((zF q s).1))))]⟩):Option CT)) q s
  |_,_=>none
theorem Uk:zG Tryd.prog 31 (qw alg):=by
  intro args hp r h
  unfold qw at h
  split at h
  · cases h;exact fun hn=>ze7 _ _ hn
  · cases h
def qp:Know Tryd.prog:=⟨31,qw,Uk⟩
def qm:Know Tryd.prog:=⟨31,fun I=>zK I (qw I),zf Uk⟩
theorem zgv (k:Int) (hneed:False):Spc Tryd.prog 28 [.v (.one (.p (.val (.pointer none)))),.v (.one (.p (.int .u8 k)))] [] (.ret (.tup [(.one (.p (.list .byte ([])))),(.one (.p (.bool false))),(.one (.p (.int .i64 0)))])) []:=hneed.elim
def YL (I:Alg) (args:List D) (hp:List HO):Option CT:=match args,hp with
  |[.v (.one (.p (.val (.pointer none)))),.v (.one (.p (.int .u8 k)))],[]=>(fun(k:Int)=>(some (.one ⟨I.hid (False),(.ret (.tup [(.one (.p (.list .byte (I.hid ([]))))),(.one (.p (.bool false))),(.one (.p (.int .i64 0)))])),[]⟩):Option CT)) k
  |_,_=>none
theorem zar:zG Tryd.prog 28 (YL alg):=by
  intro args hp r h
  unfold YL at h
  split at h
  · cases h;exact fun hn=>zgv _ hn
  · cases h
def YK:Know Tryd.prog:=⟨28,YL,zar⟩
def YJ:Know Tryd.prog:=⟨28,fun I=>zK I (YL I),zf zar⟩
def rqN (q:Rq):Prop:=∃ i:Nat,i≤1000000∧RqI q i
theorem Wi (q:Rq) (s:Str):(zF q s).1.out.length≤q.out.length+2:=by
  unfold zF zO yX
  repeat' split
  all_goals(simp only [List.length_append,List.length_cons,List.length_nil];omega)
theorem zcb (ln:Ln) (p:Int) (m tg:Str) (hm:Int) (hf:List Fld) (hl le:Int) (out:List Evt) (k:Int) (hneed:rqN ⟨ln,p,⟨m,tg,hm,hf,hl⟩,le,none,true,out⟩∧0≤k∧k≤255):Spc Tryd.prog 12 [.v (.one (.ptr 0 0)),.v (.one (.p (.int .u8 k)))] [.abs (.rq ⟨ln,p,⟨m,tg,hm,hf,hl⟩,le,none,true,out⟩)] (.ret (.tup [])) [.abs (.rq ((rqF ⟨ln,p,⟨m,tg,hm,hf,hl⟩,le,none,true,out⟩ (UInt8.ofNat k.toNat))))]:=by
  obtain⟨⟨i,hi,hI0⟩,hk0,hk1⟩:=hneed
  obtain⟨g1,g2,g3,g4,g5,g6,g7,g8,g9,g10⟩:=hI0
  simp only at g1 g2 g3 g4 g5 g6 g7 g8 g9 g10
  have hfs:FsOk hf:=⟨by omega,fun f hm=>by have:=g6 f hm;omega⟩
  have hll:=ZC ln (UInt8.ofNat k.toNat)
  generalize hr:rqF ⟨ln,p,⟨m,tg,hm,hf,hl⟩,le,none,true,out⟩ (UInt8.ofNat k.toNat)=r
  refine spcG zx mixed Tryd.func12 (by kernel_rfl) { cfgQ with fz:=[26],keep:=some [0,1,4,5,6,7,8,9,13,62]} [uN,uM,Zc,Zb,YK,YJ,zM,zL,zS,zQ,zX,zW,yh,yg,yS,yR,qE,qC,tV,tN,qp,qm] (by kernel_rfl) ?_
  intro I X hI hX
  refine zi (let y0:=I.hid (α:=Int) (Go.Ab.Ln.code (Prod.fst (lnF (Go.Ab.Ln.mk (Go.Ab.Ln.b ln) (Go.Ab.Ln.cr ln) (Go.Ab.Ln.code ln)) (UInt8.ofNat (Int.toNat k)))));let y1:=I.hid (α:=Bool) (Go.Ab.Ln.cr (Prod.fst (lnF (Go.Ab.Ln.mk (Go.Ab.Ln.b ln) (Go.Ab.Ln.cr ln) (Go.Ab.Ln.code ln)) (UInt8.ofNat (Int.toNat k)))));let y2:=I.hid (α:=Str) (Go.Ab.Ln.b (Prod.fst (lnF (Go.Ab.Ln.mk (Go.Ab.Ln.b ln) (Go.Ab.Ln.cr ln) (Go.Ab.Ln.code ln)) (UInt8.ofNat (Int.toNat k)))));let y3:=I.hid (α:=Str) (Prod.fst (Prod.snd (lnF (Go.Ab.Ln.mk (Go.Ab.Ln.b ln) (Go.Ab.Ln.cr ln) (Go.Ab.Ln.code ln)) (UInt8.ofNat (Int.toNat k)))));let y4:=I.hid (α:=Int) (Prod.snd (Prod.snd (Prod.snd (lnF (Go.Ab.Ln.mk (Go.Ab.Ln.b ln) (Go.Ab.Ln.cr ln) (Go.Ab.Ln.code ln)) (UInt8.ofNat (Int.toNat k))))));let y5:=I.hid (α:=Go.Ab.Rq) (Prod.fst (zF (Go.Ab.Rq.mk (Go.Ab.Ln.mk y2 y1 y0) p (Hd.mk m tg hm hf hl) le (Option.none) Bool.true out) y3));let y6:=I.hid (α:=(List Go.Ab.Evt)) (HAppend.hAppend out ([(Go.Ab.Evt.mk (2:Int) (Hd.mk ([]:Str) ([]:Str) (0:Int) ([]:List Fld) (0:Int)) (I.hid (α:=Str) ([]:Str)) (Go.Ab.Prt.mk ([]:Str) ([]:Str) ([]:Str) ([]:Str)) (0:Int))]:List Go.Ab.Evt));let y7:=I.hid (α:=(List Go.Ab.Evt)) (HAppend.hAppend out ([(Go.Ab.Evt.mk (2:Int) (Hd.mk ([]:Str) ([]:Str) (0:Int) ([]:List Fld) (0:Int)) ([(I.i2b k)]:Str) (Go.Ab.Prt.mk ([]:Str) ([]:Str) ([]:Str) ([]:Str)) (0:Int))]:List Go.Ab.Evt));let y8:=I.hid (α:=(Prop)) (zA (Go.Ab.Rq.mk (Go.Ab.Ln.mk (Go.Ab.Ln.b ln) (Go.Ab.Ln.cr ln) (Go.Ab.Ln.code ln)) p (Hd.mk m tg hm hf hl) le (Option.none) Bool.true out));let y9:=I.hid (α:=Int) (Prod.snd (zF (Go.Ab.Rq.mk (Go.Ab.Ln.mk y2 y1 y0) p (Hd.mk m tg hm hf hl) le (Option.none) Bool.true out) y3));let y10:=I.hid (α:=Go.Ab.Rq) (yD (Go.Ab.Rq.mk (Go.Ab.Ln.mk y2 y1 y0) p (Hd.mk m tg hm hf hl) le (Option.none) Bool.true out) y4);let y11:=I.hid (α:=(Prop)) (zA (Go.Ab.Rq.mk (Go.Ab.Ln.mk y2 y1 y0) p (Hd.mk m tg hm hf hl) le (Option.none) Bool.true out));let y12:=I.hid (α:=(Prop)) (And (yM (Go.Ab.Rq.mk (Go.Ab.Ln.mk y2 y1 y0) p (Hd.mk m tg hm hf hl) le (Option.none) Bool.true out)) (And (rqFs (Go.Ab.Rq.mk (Go.Ab.Ln.mk y2 y1 y0) p (Hd.mk m tg hm hf hl) le (Option.none) Bool.true out)) (LE.le (List.length y3) 1000000)));let y13:=I.hid (α:=Bool) (Prod.fst (Prod.snd (Prod.snd (lnF (Go.Ab.Ln.mk (Go.Ab.Ln.b ln) (Go.Ab.Ln.cr ln) (Go.Ab.Ln.code ln)) (UInt8.ofNat (Int.toNat k))))));let y14:=I.hid (α:=(Prop)) (And (LE.le (0:Int) k) (And (LE.le k (255:Int)) (LE.le (List.length (Go.Ab.Ln.b ln)) 1000000)));let y15:=I.hid (α:=Go.Ab.Rq) (yD y5 y9);.br (I.ieq p 2) (.need (I.inr Go.IntKind.u8 k) (.need y8 (.need (I.inr Go.IntKind.i64 (I.sub le 1)) (.br (I.ieq (I.sub le 1) 0) (.need (I.hid (α:=(Prop)) (zA (Go.Ab.Rq.mk (Go.Ab.Ln.mk (Go.Ab.Ln.b ln) (Go.Ab.Ln.cr ln) (Go.Ab.Ln.code ln)) p (Hd.mk m tg hm hf hl) (I.sub le 1) (Option.none) Bool.true y7))) (.fin (.ret (.tup [])) [(.abs (.rq (I.hid (α:=Go.Ab.Rq) (yX (Go.Ab.Rq.mk (Go.Ab.Ln.mk (Go.Ab.Ln.b ln) (Go.Ab.Ln.cr ln) (Go.Ab.Ln.code ln)) p (Hd.mk m tg hm hf hl) (I.sub le 1) (Option.none) Bool.true y7)))))])) (.fin (.ret (.tup [])) [(.abs (.rq (Go.Ab.Rq.mk (Go.Ab.Ln.mk (Go.Ab.Ln.b ln) (Go.Ab.Ln.cr ln) (Go.Ab.Ln.code ln)) p (Hd.mk m tg hm hf hl) (I.sub le 1) (Option.none) Bool.true y7)))]))))) (.br (I.ieq p 3) (.need (I.hid (α:=(Prop)) False) (.br (I.bnot (I.ieq 0 0)) (.need y8 (.fin (.ret (.tup [])) [(.abs (.rq (I.hid (α:=Go.Ab.Rq) (yD (Go.Ab.Rq.mk (Go.Ab.Ln.mk (Go.Ab.Ln.b ln) (Go.Ab.Ln.cr ln) (Go.Ab.Ln.code ln)) p (Hd.mk m tg hm hf hl) le (Option.none) Bool.true out) (0:Int)))))])) (.br (I.ilt 0 (I.len (α:=UInt8) (I.hid (α:=Str) ([]:Str)))) (.need y8 (.br Bool.false (.need (I.hid (α:=(Prop)) (zA (Go.Ab.Rq.mk (Go.Ab.Ln.mk (Go.Ab.Ln.b ln) (Go.Ab.Ln.cr ln) (Go.Ab.Ln.code ln)) p (Hd.mk m tg hm hf hl) le (Option.none) Bool.true y6))) (.fin (.ret (.tup [])) [(.abs (.rq (I.hid (α:=Go.Ab.Rq) (yX (Go.Ab.Rq.mk (Go.Ab.Ln.mk (Go.Ab.Ln.b ln) (Go.Ab.Ln.cr ln) (Go.Ab.Ln.code ln)) p (Hd.mk m tg hm hf hl) le (Option.none) Bool.true y6)))))])) (.fin (.ret (.tup [])) [(.abs (.rq (Go.Ab.Rq.mk (Go.Ab.Ln.mk (Go.Ab.Ln.b ln) (Go.Ab.Ln.cr ln) (Go.Ab.Ln.code ln)) p (Hd.mk m tg hm hf hl) le (Option.none) Bool.true y6)))]))) (.br Bool.false (.need y8 (.fin (.ret (.tup [])) [(.abs (.rq (I.hid (α:=Go.Ab.Rq) (yX (Go.Ab.Rq.mk (Go.Ab.Ln.mk (Go.Ab.Ln.b ln) (Go.Ab.Ln.cr ln) (Go.Ab.Ln.code ln)) p (Hd.mk m tg hm hf hl) le (Option.none) Bool.true out)))))])) (.fin (.ret (.tup [])) [(.abs (.rq (Go.Ab.Rq.mk (Go.Ab.Ln.mk (Go.Ab.Ln.b ln) (Go.Ab.Ln.cr ln) (Go.Ab.Ln.code ln)) p (Hd.mk m tg hm hf hl) le (Option.none) Bool.true out)))]))))) (.br (I.ieq p 0) (.need y14 (.br (I.ieq y4 0) (.br y13 (.need y12 (.br (I.bnot (I.ieq y9 0)) (.need (I.hid (α:=(Prop)) (zA y5)) (.fin (.ret (.tup [])) [(.abs (.rq y15))])) (.fin (.ret (.tup [])) [(.abs (.rq y5))]))) (.br (I.bnot (I.ieq y4 0)) (.need y11 (.fin (.ret (.tup [])) [(.abs (.rq y10))])) (.fin (.ret (.tup [])) [(.abs (.rq (Go.Ab.Rq.mk (Go.Ab.Ln.mk y2 y1 y0) p (Hd.mk m tg hm hf hl) le (Option.none) Bool.true out)))]))) (.br (I.bnot (I.ieq y4 0)) (.need y11 (.fin (.ret (.tup [])) [(.abs (.rq y10))])) (.fin (.ret (.tup [])) [(.abs (.rq (Go.Ab.Rq.mk (Go.Ab.Ln.mk y2 y1 y0) p (Hd.mk m tg hm hf hl) le (Option.none) Bool.true out)))])))) (.br (I.ieq p 1) (.need y14 (.br (I.ieq y4 0) (.br y13 (.need y12 (.br (I.bnot (I.ieq y9 0)) (.need (I.hid (α:=(Prop)) (zA y5)) (.fin (.ret (.tup [])) [(.abs (.rq y15))])) (.fin (.ret (.tup [])) [(.abs (.rq y5))]))) (.br (I.bnot (I.ieq y4 0)) (.need y11 (.fin (.ret (.tup [])) [(.abs (.rq y10))])) (.fin (.ret (.tup [])) [(.abs (.rq (Go.Ab.Rq.mk (Go.Ab.Ln.mk y2 y1 y0) p (Hd.mk m tg hm hf hl) le (Option.none) Bool.true out)))]))) (.br (I.bnot (I.ieq y4 0)) (.need y11 (.fin (.ret (.tup [])) [(.abs (.rq y10))])) (.fin (.ret (.tup [])) [(.abs (.rq (Go.Ab.Rq.mk (Go.Ab.Ln.mk y2 y1 y0) p (Hd.mk m tg hm hf hl) le (Option.none) Bool.true out)))])))) (.fin (.ret (.tup [])) [(.abs (.rq (Go.Ab.Rq.mk (Go.Ab.Ln.mk (Go.Ab.Ln.b ln) (Go.Ab.Ln.cr ln) (Go.Ab.Ln.code ln)) p (Hd.mk m tg hm hf hl) le (Option.none) Bool.true out)))]))))) (by kernel_rfl) ?_
  simp only [zB]
  subst hI
  unfold rqF at hr
  simp only at hr
  simp only [nrmA,nrmB,nrlB,reduceCtorEq,HO.abs.injEq,Gh.rq.injEq,Rq.mk.injEq]
  generalize UInt8.ofNat k.toNat=c at *
  have hz2:lnF ⟨ln.b,ln.cr,ln.code⟩ c=lnF ln c:=rfl
  simp only [hz2]
  clear hz2 g2
  by_cases q1:p=2
  · rw [if_pos q1] at hr
    have h9:=g9 q1
    by_cases q2:le - 1=0
    · rw [if_pos q2] at hr
      subst hr
      have q3:le=1:=by omega
      subst q3
      (repeat' (first|refine And.intro ?_ ?_|intro _))<;>first|omega|exact True.intro|exact False.elim ‹False›|skip
      all_goals first|omega|rfl|(unfold zA;simp;omega)|(unfold zA;simp only;omega)|trace_state
    · rw [if_neg q2] at hr
      subst hr
      (repeat' (first|refine And.intro ?_ ?_|intro _))<;>first|omega|exact True.intro|exact False.elim ‹False›|skip
      all_goals first|omega|rfl|(unfold zA;simp;omega)|(unfold zA;simp only;omega)|trace_state
  rw [if_neg q1] at hr
  by_cases q4:p=3
  · exact absurd rfl (g3 q4)
  rw [if_neg q4] at hr
  by_cases q8:p=0∨p=1
  · rw [if_pos q8] at hr
    have hl: ∀ (l:Ln) (s:Str),zF ⟨⟨l.b,l.cr,l.code⟩,p,⟨m,tg,hm,hf,hl⟩,le,none,true,out⟩ s=zF ⟨l,p,⟨m,tg,hm,hf,hl⟩,le,none,true,out⟩ s:=fun l s=>rfl
    simp only [hl]
    clear hl
    generalize lnF ln c=z at *
    obtain⟨l2,s,is,e⟩:=z
    simp only at hr hll ⊢
    have hlo:(zF ⟨l2,p,⟨m,tg,hm,hf,hl⟩,le,none,true,out⟩ s).1.out.length≤out.length+2:=Wi _ _
    generalize zF ⟨l2,p,⟨m,tg,hm,hf,hl⟩,le,none,true,out⟩ s=y at *
    obtain⟨y,ye⟩:=y
    simp only at hr hlo ⊢
    by_cases q5:e=0
    · rw [if_neg (fun h=>h q5)] at hr
      cases is with
      | true=>
        rw [if_pos rfl] at hr
        by_cases q6:ye=0
        · rw [if_neg (fun h=>h q6)] at hr
          subst hr
          (repeat' (first|refine And.intro ?_ ?_|intro _))<;>first|omega|exact True.intro|exact False.elim ‹False›|skip
          all_goals first|omega|rfl|contradiction|exact⟨rfl,⟨hfs,by simp only;omega⟩,by omega⟩|(simp only [yM];done)|exact hfs.1|(exact(hfs.2 _ ‹_›).1)|(exact(hfs.2 _ ‹_›).2)|(unfold zA;omega)|(simp only;omega)|trace_state
        · rw [if_pos q6] at hr
          subst hr
          (repeat' (first|refine And.intro ?_ ?_|intro _))<;>first|omega|exact True.intro|exact False.elim ‹False›|skip
          all_goals first|omega|rfl|contradiction|exact⟨rfl,⟨hfs,by simp only;omega⟩,by omega⟩|(simp only [yM];done)|exact hfs.1|(exact(hfs.2 _ ‹_›).1)|(exact(hfs.2 _ ‹_›).2)|(unfold zA;omega)|(simp only;omega)|trace_state
      | false=>
        rw [if_neg Bool.false_ne_true] at hr
        subst hr
        (repeat' (first|refine And.intro ?_ ?_|intro _))<;>first|omega|exact True.intro|exact False.elim ‹False›|skip
        all_goals first|omega|rfl|contradiction|trace_state
    · rw [if_pos q5] at hr
      subst hr
      (repeat' (first|refine And.intro ?_ ?_|intro _))<;>first|omega|exact True.intro|exact False.elim ‹False›|skip
      all_goals first|omega|rfl|contradiction|(unfold zA;simp only;omega)|trace_state
  rw [if_neg q8] at hr
  subst hr
  (repeat' (first|refine And.intro ?_ ?_|intro _))<;>first|omega|exact True.intro|exact False.elim ‹False›|skip
  all_goals first|omega|rfl|contradiction|trace_state
theorem zcc (ln:Ln) (p:Int) (m tg:Str) (hm:Int) (hf:List Fld) (hl le:Int) (out:List Evt) (k:Int) (hneed:rqN ⟨ln,p,⟨m,tg,hm,hf,hl⟩,le,none,false,out⟩∧0≤k∧k≤255):Spc Tryd.prog 12 [.v (.one (.ptr 0 0)),.v (.one (.p (.int .u8 k)))] [.abs (.rq ⟨ln,p,⟨m,tg,hm,hf,hl⟩,le,none,false,out⟩)] (.ret (.tup [])) [.abs (.rq ((rqF ⟨ln,p,⟨m,tg,hm,hf,hl⟩,le,none,false,out⟩ (UInt8.ofNat k.toNat))))]:=by
  obtain⟨⟨i,hi,hI0⟩,hk0,hk1⟩:=hneed
  obtain⟨g1,g2,g3,g4,g5,g6,g7,g8,g9,g10⟩:=hI0
  simp only at g1 g2 g3 g4 g5 g6 g7 g8 g9 g10
  have hfs:FsOk hf:=⟨by omega,fun f hm=>by have:=g6 f hm;omega⟩
  have hll:=ZC ln (UInt8.ofNat k.toNat)
  generalize hr:rqF ⟨ln,p,⟨m,tg,hm,hf,hl⟩,le,none,false,out⟩ (UInt8.ofNat k.toNat)=r
  refine spcG zx mixed Tryd.func12 (by kernel_rfl) { cfgQ with fz:=[26],keep:=some [0,1,4,5,6,7,8,9,13,62]} [uN,uM,Zc,Zb,YK,YJ,zM,zL,zS,zQ,zX,zW,yh,yg,yS,yR,qE,qC,tV,tN,qp,qm] (by kernel_rfl) ?_
  intro I X hI hX
  refine zi (let y0:=I.hid (α:=Int) (Go.Ab.Ln.code (Prod.fst (lnF (Go.Ab.Ln.mk (Go.Ab.Ln.b ln) (Go.Ab.Ln.cr ln) (Go.Ab.Ln.code ln)) (UInt8.ofNat (Int.toNat k)))));let y1:=I.hid (α:=Bool) (Go.Ab.Ln.cr (Prod.fst (lnF (Go.Ab.Ln.mk (Go.Ab.Ln.b ln) (Go.Ab.Ln.cr ln) (Go.Ab.Ln.code ln)) (UInt8.ofNat (Int.toNat k)))));let y2:=I.hid (α:=Str) (Go.Ab.Ln.b (Prod.fst (lnF (Go.Ab.Ln.mk (Go.Ab.Ln.b ln) (Go.Ab.Ln.cr ln) (Go.Ab.Ln.code ln)) (UInt8.ofNat (Int.toNat k)))));let y3:=I.hid (α:=Str) (Prod.fst (Prod.snd (lnF (Go.Ab.Ln.mk (Go.Ab.Ln.b ln) (Go.Ab.Ln.cr ln) (Go.Ab.Ln.code ln)) (UInt8.ofNat (Int.toNat k)))));let y4:=I.hid (α:=Int) (Prod.snd (Prod.snd (Prod.snd (lnF (Go.Ab.Ln.mk (Go.Ab.Ln.b ln) (Go.Ab.Ln.cr ln) (Go.Ab.Ln.code ln)) (UInt8.ofNat (Int.toNat k))))));let y5:=I.hid (α:=Go.Ab.Rq) (Prod.fst (zF (Go.Ab.Rq.mk (Go.Ab.Ln.mk y2 y1 y0) p (Hd.mk m tg hm hf hl) le (Option.none) Bool.false out) y3));let y6:=I.hid (α:=(List Go.Ab.Evt)) (HAppend.hAppend out ([(Go.Ab.Evt.mk (2:Int) (Hd.mk ([]:Str) ([]:Str) (0:Int) ([]:List Fld) (0:Int)) (I.hid (α:=Str) ([]:Str)) (Go.Ab.Prt.mk ([]:Str) ([]:Str) ([]:Str) ([]:Str)) (0:Int))]:List Go.Ab.Evt));let y7:=I.hid (α:=(List Go.Ab.Evt)) (HAppend.hAppend out ([(Go.Ab.Evt.mk (2:Int) (Hd.mk ([]:Str) ([]:Str) (0:Int) ([]:List Fld) (0:Int)) ([(I.i2b k)]:Str) (Go.Ab.Prt.mk ([]:Str) ([]:Str) ([]:Str) ([]:Str)) (0:Int))]:List Go.Ab.Evt));let y8:=I.hid (α:=(Prop)) (zA (Go.Ab.Rq.mk (Go.Ab.Ln.mk (Go.Ab.Ln.b ln) (Go.Ab.Ln.cr ln) (Go.Ab.Ln.code ln)) p (Hd.mk m tg hm hf hl) le (Option.none) Bool.false out));let y9:=I.hid (α:=Int) (Prod.snd (zF (Go.Ab.Rq.mk (Go.Ab.Ln.mk y2 y1 y0) p (Hd.mk m tg hm hf hl) le (Option.none) Bool.false out) y3));let y10:=I.hid (α:=Go.Ab.Rq) (yD (Go.Ab.Rq.mk (Go.Ab.Ln.mk y2 y1 y0) p (Hd.mk m tg hm hf hl) le (Option.none) Bool.false out) y4);let y11:=I.hid (α:=(Prop)) (zA (Go.Ab.Rq.mk (Go.Ab.Ln.mk y2 y1 y0) p (Hd.mk m tg hm hf hl) le (Option.none) Bool.false out));let y12:=I.hid (α:=(Prop)) (And (yM (Go.Ab.Rq.mk (Go.Ab.Ln.mk y2 y1 y0) p (Hd.mk m tg hm hf hl) le (Option.none) Bool.false out)) (And (rqFs (Go.Ab.Rq.mk (Go.Ab.Ln.mk y2 y1 y0) p (Hd.mk m tg hm hf hl) le (Option.none) Bool.false out)) (LE.le (List.length y3) 1000000)));let y13:=I.hid (α:=Bool) (Prod.fst (Prod.snd (Prod.snd (lnF (Go.Ab.Ln.mk (Go.Ab.Ln.b ln) (Go.Ab.Ln.cr ln) (Go.Ab.Ln.code ln)) (UInt8.ofNat (Int.toNat k))))));let y14:=I.hid (α:=(Prop)) (And (LE.le (0:Int) k) (And (LE.le k (255:Int)) (LE.le (List.length (Go.Ab.Ln.b ln)) 1000000)));let y15:=I.hid (α:=Go.Ab.Rq) (yD y5 y9);.br (I.ieq p 2) (.need (I.inr Go.IntKind.u8 k) (.need y8 (.need (I.inr Go.IntKind.i64 (I.sub le 1)) (.br (I.ieq (I.sub le 1) 0) (.need (I.hid (α:=(Prop)) (zA (Go.Ab.Rq.mk (Go.Ab.Ln.mk (Go.Ab.Ln.b ln) (Go.Ab.Ln.cr ln) (Go.Ab.Ln.code ln)) p (Hd.mk m tg hm hf hl) (I.sub le 1) (Option.none) Bool.false y7))) (.fin (.ret (.tup [])) [(.abs (.rq (I.hid (α:=Go.Ab.Rq) (yX (Go.Ab.Rq.mk (Go.Ab.Ln.mk (Go.Ab.Ln.b ln) (Go.Ab.Ln.cr ln) (Go.Ab.Ln.code ln)) p (Hd.mk m tg hm hf hl) (I.sub le 1) (Option.none) Bool.false y7)))))])) (.fin (.ret (.tup [])) [(.abs (.rq (Go.Ab.Rq.mk (Go.Ab.Ln.mk (Go.Ab.Ln.b ln) (Go.Ab.Ln.cr ln) (Go.Ab.Ln.code ln)) p (Hd.mk m tg hm hf hl) (I.sub le 1) (Option.none) Bool.false y7)))]))))) (.br (I.ieq p 3) (.need (I.hid (α:=(Prop)) False) (.br (I.bnot (I.ieq 0 0)) (.need y8 (.fin (.ret (.tup [])) [(.abs (.rq (I.hid (α:=Go.Ab.Rq) (yD (Go.Ab.Rq.mk (Go.Ab.Ln.mk (Go.Ab.Ln.b ln) (Go.Ab.Ln.cr ln) (Go.Ab.Ln.code ln)) p (Hd.mk m tg hm hf hl) le (Option.none) Bool.false out) (0:Int)))))])) (.br (I.ilt 0 (I.len (α:=UInt8) (I.hid (α:=Str) ([]:Str)))) (.need y8 (.br Bool.false (.need (I.hid (α:=(Prop)) (zA (Go.Ab.Rq.mk (Go.Ab.Ln.mk (Go.Ab.Ln.b ln) (Go.Ab.Ln.cr ln) (Go.Ab.Ln.code ln)) p (Hd.mk m tg hm hf hl) le (Option.none) Bool.false y6))) (.fin (.ret (.tup [])) [(.abs (.rq (I.hid (α:=Go.Ab.Rq) (yX (Go.Ab.Rq.mk (Go.Ab.Ln.mk (Go.Ab.Ln.b ln) (Go.Ab.Ln.cr ln) (Go.Ab.Ln.code ln)) p (Hd.mk m tg hm hf hl) le (Option.none) Bool.false y6)))))])) (.fin (.ret (.tup [])) [(.abs (.rq (Go.Ab.Rq.mk (Go.Ab.Ln.mk (Go.Ab.Ln.b ln) (Go.Ab.Ln.cr ln) (Go.Ab.Ln.code ln)) p (Hd.mk m tg hm hf hl) le (Option.none) Bool.false y6)))]))) (.br Bool.false (.need y8 (.fin (.ret (.tup [])) [(.abs (.rq (I.hid (α:=Go.Ab.Rq) (yX (Go.Ab.Rq.mk (Go.Ab.Ln.mk (Go.Ab.Ln.b ln) (Go.Ab.Ln.cr ln) (Go.Ab.Ln.code ln)) p (Hd.mk m tg hm hf hl) le (Option.none) Bool.false out)))))])) (.fin (.ret (.tup [])) [(.abs (.rq (Go.Ab.Rq.mk (Go.Ab.Ln.mk (Go.Ab.Ln.b ln) (Go.Ab.Ln.cr ln) (Go.Ab.Ln.code ln)) p (Hd.mk m tg hm hf hl) le (Option.none) Bool.false out)))]))))) (.br (I.ieq p 0) (.need y14 (.br (I.ieq y4 0) (.br y13 (.need y12 (.br (I.bnot (I.ieq y9 0)) (.need (I.hid (α:=(Prop)) (zA y5)) (.fin (.ret (.tup [])) [(.abs (.rq y15))])) (.fin (.ret (.tup [])) [(.abs (.rq y5))]))) (.br (I.bnot (I.ieq y4 0)) (.need y11 (.fin (.ret (.tup [])) [(.abs (.rq y10))])) (.fin (.ret (.tup [])) [(.abs (.rq (Go.Ab.Rq.mk (Go.Ab.Ln.mk y2 y1 y0) p (Hd.mk m tg hm hf hl) le (Option.none) Bool.false out)))]))) (.br (I.bnot (I.ieq y4 0)) (.need y11 (.fin (.ret (.tup [])) [(.abs (.rq y10))])) (.fin (.ret (.tup [])) [(.abs (.rq (Go.Ab.Rq.mk (Go.Ab.Ln.mk y2 y1 y0) p (Hd.mk m tg hm hf hl) le (Option.none) Bool.false out)))])))) (.br (I.ieq p 1) (.need y14 (.br (I.ieq y4 0) (.br y13 (.need y12 (.br (I.bnot (I.ieq y9 0)) (.need (I.hid (α:=(Prop)) (zA y5)) (.fin (.ret (.tup [])) [(.abs (.rq y15))])) (.fin (.ret (.tup [])) [(.abs (.rq y5))]))) (.br (I.bnot (I.ieq y4 0)) (.need y11 (.fin (.ret (.tup [])) [(.abs (.rq y10))])) (.fin (.ret (.tup [])) [(.abs (.rq (Go.Ab.Rq.mk (Go.Ab.Ln.mk y2 y1 y0) p (Hd.mk m tg hm hf hl) le (Option.none) Bool.false out)))]))) (.br (I.bnot (I.ieq y4 0)) (.need y11 (.fin (.ret (.tup [])) [(.abs (.rq y10))])) (.fin (.ret (.tup [])) [(.abs (.rq (Go.Ab.Rq.mk (Go.Ab.Ln.mk y2 y1 y0) p (Hd.mk m tg hm hf hl) le (Option.none) Bool.false out)))])))) (.fin (.ret (.tup [])) [(.abs (.rq (Go.Ab.Rq.mk (Go.Ab.Ln.mk (Go.Ab.Ln.b ln) (Go.Ab.Ln.cr ln) (Go.Ab.Ln.code ln)) p (Hd.mk m tg hm hf hl) le (Option.none) Bool.false out)))]))))) (by kernel_rfl) ?_
  simp only [zB]
  subst hI
  unfold rqF at hr
  simp only at hr
  simp only [nrmA,nrmB,nrlB,reduceCtorEq,HO.abs.injEq,Gh.rq.injEq,Rq.mk.injEq]
  generalize UInt8.ofNat k.toNat=c at *
  have hz2:lnF ⟨ln.b,ln.cr,ln.code⟩ c=lnF ln c:=rfl
  simp only [hz2]
  clear hz2 g2
  by_cases q1:p=2
  · rw [if_pos q1] at hr
    have h9:=g9 q1
    by_cases q2:le - 1=0
    · rw [if_pos q2] at hr
      subst hr
      have q3:le=1:=by omega
      subst q3
      (repeat' (first|refine And.intro ?_ ?_|intro _))<;>first|omega|exact True.intro|exact False.elim ‹False›|skip
      all_goals first|omega|rfl|(unfold zA;simp;omega)|(unfold zA;simp only;omega)|trace_state
    · rw [if_neg q2] at hr
      subst hr
      (repeat' (first|refine And.intro ?_ ?_|intro _))<;>first|omega|exact True.intro|exact False.elim ‹False›|skip
      all_goals first|omega|rfl|(unfold zA;simp;omega)|(unfold zA;simp only;omega)|trace_state
  rw [if_neg q1] at hr
  by_cases q4:p=3
  · exact absurd rfl (g3 q4)
  rw [if_neg q4] at hr
  by_cases q8:p=0∨p=1
  · exact absurd (g4 q8) (by simp)
  rw [if_neg q8] at hr
  subst hr
  (repeat' (first|refine And.intro ?_ ?_|intro _))<;>first|omega|exact True.intro|exact False.elim ‹False›|skip
  all_goals first|omega|rfl|contradiction|trace_state
theorem zb9 (ln:Ln) (p:Int) (m tg:Str) (hm:Int) (hf:List Fld) (hl le:Int) (ch:Ch) (out:List Evt) (k:Int) (hneed:rqN ⟨ln,p,⟨m,tg,hm,hf,hl⟩,le,some ch,true,out⟩∧0≤k∧k≤255):Spc Tryd.prog 12 [.v (.one (.ptr 0 0)),.v (.one (.p (.int .u8 k)))] [.abs (.rq ⟨ln,p,⟨m,tg,hm,hf,hl⟩,le,some ch,true,out⟩)] (.ret (.tup [])) [.abs (.rq ((rqF ⟨ln,p,⟨m,tg,hm,hf,hl⟩,le,some ch,true,out⟩ (UInt8.ofNat k.toNat))))]:=by
  obtain⟨⟨i,hi,hI0⟩,hk0,hk1⟩:=hneed
  obtain⟨g1,g2,g3,g4,g5,g6,g7,g8,g9,g10⟩:=hI0
  simp only at g1 g2 g3 g4 g5 g6 g7 g8 g9 g10
  have hfs:FsOk hf:=⟨by omega,fun f hm=>by have:=g6 f hm;omega⟩
  have hll:=ZC ln (UInt8.ofNat k.toNat)
  generalize hr:rqF ⟨ln,p,⟨m,tg,hm,hf,hl⟩,le,some ch,true,out⟩ (UInt8.ofNat k.toNat)=r
  refine spcG zx mixed Tryd.func12 (by kernel_rfl) { cfgQ with fz:=[26],keep:=some [0,1,4,5,6,7,8,9,13,62]} [uN,uM,Zc,Zb,YK,YJ,zM,zL,zS,zQ,zX,zW,yh,yg,yS,yR,qE,qC,tV,tN,qp,qm] (by kernel_rfl) ?_
  intro I X hI hX
  refine zi (let y8:=I.hid (α:=Str) (Go.Ab.Ln.b (Go.Ab.Ch.ln (Prod.fst (chF (Go.Ab.Ch.mk (Go.Ab.Ln.mk (Go.Ab.Ln.b (Go.Ab.Ch.ln ch)) (Go.Ab.Ln.cr (Go.Ab.Ch.ln ch)) (Go.Ab.Ln.code (Go.Ab.Ch.ln ch))) (Go.Ab.Ch.pos ch) (Go.Ab.Ch.left ch) (Go.Ab.Ch.all ch) (Go.Ab.Ch.tails ch) (Go.Ab.Ch.code ch)) (UInt8.ofNat (Int.toNat k))))));let y7:=I.hid (α:=Bool) (Go.Ab.Ln.cr (Go.Ab.Ch.ln (Prod.fst (chF (Go.Ab.Ch.mk (Go.Ab.Ln.mk (Go.Ab.Ln.b (Go.Ab.Ch.ln ch)) (Go.Ab.Ln.cr (Go.Ab.Ch.ln ch)) (Go.Ab.Ln.code (Go.Ab.Ch.ln ch))) (Go.Ab.Ch.pos ch) (Go.Ab.Ch.left ch) (Go.Ab.Ch.all ch) (Go.Ab.Ch.tails ch) (Go.Ab.Ch.code ch)) (UInt8.ofNat (Int.toNat k))))));let y6:=I.hid (α:=Int) (Go.Ab.Ln.code (Go.Ab.Ch.ln (Prod.fst (chF (Go.Ab.Ch.mk (Go.Ab.Ln.mk (Go.Ab.Ln.b (Go.Ab.Ch.ln ch)) (Go.Ab.Ln.cr (Go.Ab.Ch.ln ch)) (Go.Ab.Ln.code (Go.Ab.Ch.ln ch))) (Go.Ab.Ch.pos ch) (Go.Ab.Ch.left ch) (Go.Ab.Ch.all ch) (Go.Ab.Ch.tails ch) (Go.Ab.Ch.code ch)) (UInt8.ofNat (Int.toNat k))))));let y12:=I.hid (α:=Int) (Go.Ab.Ch.pos (Prod.fst (chF (Go.Ab.Ch.mk (Go.Ab.Ln.mk (Go.Ab.Ln.b (Go.Ab.Ch.ln ch)) (Go.Ab.Ln.cr (Go.Ab.Ch.ln ch)) (Go.Ab.Ln.code (Go.Ab.Ch.ln ch))) (Go.Ab.Ch.pos ch) (Go.Ab.Ch.left ch) (Go.Ab.Ch.all ch) (Go.Ab.Ch.tails ch) (Go.Ab.Ch.code ch)) (UInt8.ofNat (Int.toNat k)))));let y10:=I.hid (α:=Int) (Go.Ab.Ch.left (Prod.fst (chF (Go.Ab.Ch.mk (Go.Ab.Ln.mk (Go.Ab.Ln.b (Go.Ab.Ch.ln ch)) (Go.Ab.Ln.cr (Go.Ab.Ch.ln ch)) (Go.Ab.Ln.code (Go.Ab.Ch.ln ch))) (Go.Ab.Ch.pos ch) (Go.Ab.Ch.left ch) (Go.Ab.Ch.all ch) (Go.Ab.Ch.tails ch) (Go.Ab.Ch.code ch)) (UInt8.ofNat (Int.toNat k)))));let y13:=I.hid (α:=Int) (Go.Ab.Ch.all (Prod.fst (chF (Go.Ab.Ch.mk (Go.Ab.Ln.mk (Go.Ab.Ln.b (Go.Ab.Ch.ln ch)) (Go.Ab.Ln.cr (Go.Ab.Ch.ln ch)) (Go.Ab.Ln.code (Go.Ab.Ch.ln ch))) (Go.Ab.Ch.pos ch) (Go.Ab.Ch.left ch) (Go.Ab.Ch.all ch) (Go.Ab.Ch.tails ch) (Go.Ab.Ch.code ch)) (UInt8.ofNat (Int.toNat k)))));let y9:=I.hid (α:=Int) (Go.Ab.Ch.tails (Prod.fst (chF (Go.Ab.Ch.mk (Go.Ab.Ln.mk (Go.Ab.Ln.b (Go.Ab.Ch.ln ch)) (Go.Ab.Ln.cr (Go.Ab.Ch.ln ch)) (Go.Ab.Ln.code (Go.Ab.Ch.ln ch))) (Go.Ab.Ch.pos ch) (Go.Ab.Ch.left ch) (Go.Ab.Ch.all ch) (Go.Ab.Ch.tails ch) (Go.Ab.Ch.code ch)) (UInt8.ofNat (Int.toNat k)))));let y11:=I.hid (α:=Int) (Go.Ab.Ch.code (Prod.fst (chF (Go.Ab.Ch.mk (Go.Ab.Ln.mk (Go.Ab.Ln.b (Go.Ab.Ch.ln ch)) (Go.Ab.Ln.cr (Go.Ab.Ch.ln ch)) (Go.Ab.Ln.code (Go.Ab.Ch.ln ch))) (Go.Ab.Ch.pos ch) (Go.Ab.Ch.left ch) (Go.Ab.Ch.all ch) (Go.Ab.Ch.tails ch) (Go.Ab.Ch.code ch)) (UInt8.ofNat (Int.toNat k)))));let y0:=I.hid (α:=(Prop)) (zA (Go.Ab.Rq.mk (Go.Ab.Ln.mk (Go.Ab.Ln.b ln) (Go.Ab.Ln.cr ln) (Go.Ab.Ln.code ln)) p (Hd.mk m tg hm hf hl) le (Option.some (Go.Ab.Ch.mk (Go.Ab.Ln.mk y8 y7 y6) y12 y10 y13 y9 y11)) Bool.true out));let y19:=I.hid (α:=Str) (Go.Ab.Ln.b (Prod.fst (lnF (Go.Ab.Ln.mk (Go.Ab.Ln.b ln) (Go.Ab.Ln.cr ln) (Go.Ab.Ln.code ln)) (UInt8.ofNat (Int.toNat k)))));let y18:=I.hid (α:=Bool) (Go.Ab.Ln.cr (Prod.fst (lnF (Go.Ab.Ln.mk (Go.Ab.Ln.b ln) (Go.Ab.Ln.cr ln) (Go.Ab.Ln.code ln)) (UInt8.ofNat (Int.toNat k)))));let y17:=I.hid (α:=Int) (Go.Ab.Ln.code (Prod.fst (lnF (Go.Ab.Ln.mk (Go.Ab.Ln.b ln) (Go.Ab.Ln.cr ln) (Go.Ab.Ln.code ln)) (UInt8.ofNat (Int.toNat k)))));let y1:=I.hid (α:=Go.Ab.Rq) (Prod.fst (zF (Go.Ab.Rq.mk (Go.Ab.Ln.mk y19 y18 y17) p (Hd.mk m tg hm hf hl) le (Option.some (Go.Ab.Ch.mk (Go.Ab.Ln.mk (Go.Ab.Ln.b (Go.Ab.Ch.ln ch)) (Go.Ab.Ln.cr (Go.Ab.Ch.ln ch)) (Go.Ab.Ln.code (Go.Ab.Ch.ln ch))) (Go.Ab.Ch.pos ch) (Go.Ab.Ch.left ch) (Go.Ab.Ch.all ch) (Go.Ab.Ch.tails ch) (Go.Ab.Ch.code ch))) Bool.true out) (I.hid (α:=Str) (Prod.fst (Prod.snd (lnF (Go.Ab.Ln.mk (Go.Ab.Ln.b ln) (Go.Ab.Ln.cr ln) (Go.Ab.Ln.code ln)) (UInt8.ofNat (Int.toNat k))))))));let y2:=I.hid (α:=Go.Ab.Rq) (yD (Go.Ab.Rq.mk (Go.Ab.Ln.mk y19 y18 y17) p (Hd.mk m tg hm hf hl) le (Option.some (Go.Ab.Ch.mk (Go.Ab.Ln.mk (Go.Ab.Ln.b (Go.Ab.Ch.ln ch)) (Go.Ab.Ln.cr (Go.Ab.Ch.ln ch)) (Go.Ab.Ln.code (Go.Ab.Ch.ln ch))) (Go.Ab.Ch.pos ch) (Go.Ab.Ch.left ch) (Go.Ab.Ch.all ch) (Go.Ab.Ch.tails ch) (Go.Ab.Ch.code ch))) Bool.true out) (I.hid (α:=Int) (Prod.snd (Prod.snd (Prod.snd (lnF (Go.Ab.Ln.mk (Go.Ab.Ln.b ln) (Go.Ab.Ln.cr ln) (Go.Ab.Ln.code ln)) (UInt8.ofNat (Int.toNat k))))))));let y3:=I.hid (α:=Int) (Prod.snd (zF (Go.Ab.Rq.mk (Go.Ab.Ln.mk y19 y18 y17) p (Hd.mk m tg hm hf hl) le (Option.some (Go.Ab.Ch.mk (Go.Ab.Ln.mk (Go.Ab.Ln.b (Go.Ab.Ch.ln ch)) (Go.Ab.Ln.cr (Go.Ab.Ch.ln ch)) (Go.Ab.Ln.code (Go.Ab.Ch.ln ch))) (Go.Ab.Ch.pos ch) (Go.Ab.Ch.left ch) (Go.Ab.Ch.all ch) (Go.Ab.Ch.tails ch) (Go.Ab.Ch.code ch))) Bool.true out) (I.hid (α:=Str) (Prod.fst (Prod.snd (lnF (Go.Ab.Ln.mk (Go.Ab.Ln.b ln) (Go.Ab.Ln.cr ln) (Go.Ab.Ln.code ln)) (UInt8.ofNat (Int.toNat k))))))));let y4:=I.hid (α:=(Prop)) (zA (Go.Ab.Rq.mk (Go.Ab.Ln.mk y19 y18 y17) p (Hd.mk m tg hm hf hl) le (Option.some (Go.Ab.Ch.mk (Go.Ab.Ln.mk (Go.Ab.Ln.b (Go.Ab.Ch.ln ch)) (Go.Ab.Ln.cr (Go.Ab.Ch.ln ch)) (Go.Ab.Ln.code (Go.Ab.Ch.ln ch))) (Go.Ab.Ch.pos ch) (Go.Ab.Ch.left ch) (Go.Ab.Ch.all ch) (Go.Ab.Ch.tails ch) (Go.Ab.Ch.code ch))) Bool.true out));let y5:=I.hid (α:=(Prop)) (And (yM (Go.Ab.Rq.mk (Go.Ab.Ln.mk y19 y18 y17) p (Hd.mk m tg hm hf hl) le (Option.some (Go.Ab.Ch.mk (Go.Ab.Ln.mk (Go.Ab.Ln.b (Go.Ab.Ch.ln ch)) (Go.Ab.Ln.cr (Go.Ab.Ch.ln ch)) (Go.Ab.Ln.code (Go.Ab.Ch.ln ch))) (Go.Ab.Ch.pos ch) (Go.Ab.Ch.left ch) (Go.Ab.Ch.all ch) (Go.Ab.Ch.tails ch) (Go.Ab.Ch.code ch))) Bool.true out)) (And (rqFs (Go.Ab.Rq.mk (Go.Ab.Ln.mk y19 y18 y17) p (Hd.mk m tg hm hf hl) le (Option.some (Go.Ab.Ch.mk (Go.Ab.Ln.mk (Go.Ab.Ln.b (Go.Ab.Ch.ln ch)) (Go.Ab.Ln.cr (Go.Ab.Ch.ln ch)) (Go.Ab.Ln.code (Go.Ab.Ch.ln ch))) (Go.Ab.Ch.pos ch) (Go.Ab.Ch.left ch) (Go.Ab.Ch.all ch) (Go.Ab.Ch.tails ch) (Go.Ab.Ch.code ch))) Bool.true out)) (LE.le (List.length (I.hid (α:=Str) (Prod.fst (Prod.snd (lnF (Go.Ab.Ln.mk (Go.Ab.Ln.b ln) (Go.Ab.Ln.cr ln) (Go.Ab.Ln.code ln)) (UInt8.ofNat (Int.toNat k))))))) 1000000)));let y14:=I.hid (α:=(List Go.Ab.Evt)) (HAppend.hAppend out ([(Go.Ab.Evt.mk (2:Int) (Hd.mk ([]:Str) ([]:Str) (0:Int) ([]:List Fld) (0:Int)) (I.hid (α:=Str) (Prod.fst (Prod.snd (chF (Go.Ab.Ch.mk (Go.Ab.Ln.mk (Go.Ab.Ln.b (Go.Ab.Ch.ln ch)) (Go.Ab.Ln.cr (Go.Ab.Ch.ln ch)) (Go.Ab.Ln.code (Go.Ab.Ch.ln ch))) (Go.Ab.Ch.pos ch) (Go.Ab.Ch.left ch) (Go.Ab.Ch.all ch) (Go.Ab.Ch.tails ch) (Go.Ab.Ch.code ch)) (UInt8.ofNat (Int.toNat k)))))) (Go.Ab.Prt.mk ([]:Str) ([]:Str) ([]:Str) ([]:Str)) (0:Int))]:List Go.Ab.Evt));let y15:=I.ieq (I.hid (α:=Int) (Prod.snd (Prod.snd (Prod.snd (lnF (Go.Ab.Ln.mk (Go.Ab.Ln.b ln) (Go.Ab.Ln.cr ln) (Go.Ab.Ln.code ln)) (UInt8.ofNat (Int.toNat k))))))) 0;let y16:=I.hid (α:=(List Go.Ab.Evt)) (HAppend.hAppend out ([(Go.Ab.Evt.mk (2:Int) (Hd.mk ([]:Str) ([]:Str) (0:Int) ([]:List Fld) (0:Int)) ([(I.i2b k)]:Str) (Go.Ab.Prt.mk ([]:Str) ([]:Str) ([]:Str) ([]:Str)) (0:Int))]:List Go.Ab.Evt));let y20:=I.hid (α:=Bool) (Prod.fst (Prod.snd (Prod.snd (chF (Go.Ab.Ch.mk (Go.Ab.Ln.mk (Go.Ab.Ln.b (Go.Ab.Ch.ln ch)) (Go.Ab.Ln.cr (Go.Ab.Ch.ln ch)) (Go.Ab.Ln.code (Go.Ab.Ch.ln ch))) (Go.Ab.Ch.pos ch) (Go.Ab.Ch.left ch) (Go.Ab.Ch.all ch) (Go.Ab.Ch.tails ch) (Go.Ab.Ch.code ch)) (UInt8.ofNat (Int.toNat k))))));let y21:=I.hid (α:=Int) (Prod.snd (Prod.snd (Prod.snd (chF (Go.Ab.Ch.mk (Go.Ab.Ln.mk (Go.Ab.Ln.b (Go.Ab.Ch.ln ch)) (Go.Ab.Ln.cr (Go.Ab.Ch.ln ch)) (Go.Ab.Ln.code (Go.Ab.Ch.ln ch))) (Go.Ab.Ch.pos ch) (Go.Ab.Ch.left ch) (Go.Ab.Ch.all ch) (Go.Ab.Ch.tails ch) (Go.Ab.Ch.code ch)) (UInt8.ofNat (Int.toNat k))))));let y22:=I.hid (α:=Bool) (Prod.fst (Prod.snd (Prod.snd (lnF (Go.Ab.Ln.mk (Go.Ab.Ln.b ln) (Go.Ab.Ln.cr ln) (Go.Ab.Ln.code ln)) (UInt8.ofNat (Int.toNat k))))));let y23:=I.hid (α:=(Prop)) (And (LE.le (0:Int) k) (And (LE.le k (255:Int)) (LE.le (List.length (Go.Ab.Ln.b ln)) 1000000)));let y24:=I.hid (α:=Go.Ab.Rq) (yD y1 y3);.br (I.ieq p 2) (.need (I.inr Go.IntKind.u8 k) (.need (I.hid (α:=(Prop)) (zA (Go.Ab.Rq.mk (Go.Ab.Ln.mk (Go.Ab.Ln.b ln) (Go.Ab.Ln.cr ln) (Go.Ab.Ln.code ln)) p (Hd.mk m tg hm hf hl) le (Option.some (Go.Ab.Ch.mk (Go.Ab.Ln.mk (Go.Ab.Ln.b (Go.Ab.Ch.ln ch)) (Go.Ab.Ln.cr (Go.Ab.Ch.ln ch)) (Go.Ab.Ln.code (Go.Ab.Ch.ln ch))) (Go.Ab.Ch.pos ch) (Go.Ab.Ch.left ch) (Go.Ab.Ch.all ch) (Go.Ab.Ch.tails ch) (Go.Ab.Ch.code ch))) Bool.true out))) (.need (I.inr Go.IntKind.i64 (I.sub le 1)) (.br (I.ieq (I.sub le 1) 0) (.need (I.hid (α:=(Prop)) (zA (Go.Ab.Rq.mk (Go.Ab.Ln.mk (Go.Ab.Ln.b ln) (Go.Ab.Ln.cr ln) (Go.Ab.Ln.code ln)) p (Hd.mk m tg hm hf hl) (I.sub le 1) (Option.some (Go.Ab.Ch.mk (Go.Ab.Ln.mk (Go.Ab.Ln.b (Go.Ab.Ch.ln ch)) (Go.Ab.Ln.cr (Go.Ab.Ch.ln ch)) (Go.Ab.Ln.code (Go.Ab.Ch.ln ch))) (Go.Ab.Ch.pos ch) (Go.Ab.Ch.left ch) (Go.Ab.Ch.all ch) (Go.Ab.Ch.tails ch) (Go.Ab.Ch.code ch))) Bool.true y16))) (.fin (.ret (.tup [])) [(.abs (.rq (I.hid (α:=Go.Ab.Rq) (yX (Go.Ab.Rq.mk (Go.Ab.Ln.mk (Go.Ab.Ln.b ln) (Go.Ab.Ln.cr ln) (Go.Ab.Ln.code ln)) p (Hd.mk m tg hm hf hl) (I.sub le 1) (Option.some (Go.Ab.Ch.mk (Go.Ab.Ln.mk (Go.Ab.Ln.b (Go.Ab.Ch.ln ch)) (Go.Ab.Ln.cr (Go.Ab.Ch.ln ch)) (Go.Ab.Ln.code (Go.Ab.Ch.ln ch))) (Go.Ab.Ch.pos ch) (Go.Ab.Ch.left ch) (Go.Ab.Ch.all ch) (Go.Ab.Ch.tails ch) (Go.Ab.Ch.code ch))) Bool.true y16)))))])) (.fin (.ret (.tup [])) [(.abs (.rq (Go.Ab.Rq.mk (Go.Ab.Ln.mk (Go.Ab.Ln.b ln) (Go.Ab.Ln.cr ln) (Go.Ab.Ln.code ln)) p (Hd.mk m tg hm hf hl) (I.sub le 1) (Option.some (Go.Ab.Ch.mk (Go.Ab.Ln.mk (Go.Ab.Ln.b (Go.Ab.Ch.ln ch)) (Go.Ab.Ln.cr (Go.Ab.Ch.ln ch)) (Go.Ab.Ln.code (Go.Ab.Ch.ln ch))) (Go.Ab.Ch.pos ch) (Go.Ab.Ch.left ch) (Go.Ab.Ch.all ch) (Go.Ab.Ch.tails ch) (Go.Ab.Ch.code ch))) Bool.true y16)))]))))) (.br (I.ieq p 3) (.need (I.hid (α:=(Prop)) (And (And (LE.le (0:Int) k) (LE.le k (255:Int))) (And (LE.le (List.length (Go.Ab.Ln.b (Go.Ab.Ch.ln ch))) 1000000) (And (And (LE.le (Neg.neg (1000000:Int)) (Go.Ab.Ch.left ch)) (LE.le (Go.Ab.Ch.left ch) (100000000:Int))) (And (And (LE.le (0:Int) (Go.Ab.Ch.all ch)) (LE.le (Go.Ab.Ch.all ch) (1000000:Int))) (And (LE.le (0:Int) (Go.Ab.Ch.tails ch)) (LE.le (Go.Ab.Ch.tails ch) (1000000:Int)))))))) (.br (I.bnot (I.ieq y21 0)) (.need y0 (.fin (.ret (.tup [])) [(.abs (.rq (I.hid (α:=Go.Ab.Rq) (yD (Go.Ab.Rq.mk (Go.Ab.Ln.mk (Go.Ab.Ln.b ln) (Go.Ab.Ln.cr ln) (Go.Ab.Ln.code ln)) p (Hd.mk m tg hm hf hl) le (Option.some (Go.Ab.Ch.mk (Go.Ab.Ln.mk y8 y7 y6) y12 y10 y13 y9 y11)) Bool.true out) y21))))])) (.br (I.ilt 0 (I.len (α:=UInt8) (I.hid (α:=Str) (Prod.fst (Prod.snd (chF (Go.Ab.Ch.mk (Go.Ab.Ln.mk (Go.Ab.Ln.b (Go.Ab.Ch.ln ch)) (Go.Ab.Ln.cr (Go.Ab.Ch.ln ch)) (Go.Ab.Ln.code (Go.Ab.Ch.ln ch))) (Go.Ab.Ch.pos ch) (Go.Ab.Ch.left ch) (Go.Ab.Ch.all ch) (Go.Ab.Ch.tails ch) (Go.Ab.Ch.code ch)) (UInt8.ofNat (Int.toNat k)))))))) (.need y0 (.br y20 (.need (I.hid (α:=(Prop)) (zA (Go.Ab.Rq.mk (Go.Ab.Ln.mk (Go.Ab.Ln.b ln) (Go.Ab.Ln.cr ln) (Go.Ab.Ln.code ln)) p (Hd.mk m tg hm hf hl) le (Option.some (Go.Ab.Ch.mk (Go.Ab.Ln.mk y8 y7 y6) y12 y10 y13 y9 y11)) Bool.true y14))) (.fin (.ret (.tup [])) [(.abs (.rq (I.hid (α:=Go.Ab.Rq) (yX (Go.Ab.Rq.mk (Go.Ab.Ln.mk (Go.Ab.Ln.b ln) (Go.Ab.Ln.cr ln) (Go.Ab.Ln.code ln)) p (Hd.mk m tg hm hf hl) le (Option.some (Go.Ab.Ch.mk (Go.Ab.Ln.mk y8 y7 y6) y12 y10 y13 y9 y11)) Bool.true y14)))))])) (.fin (.ret (.tup [])) [(.abs (.rq (Go.Ab.Rq.mk (Go.Ab.Ln.mk (Go.Ab.Ln.b ln) (Go.Ab.Ln.cr ln) (Go.Ab.Ln.code ln)) p (Hd.mk m tg hm hf hl) le (Option.some (Go.Ab.Ch.mk (Go.Ab.Ln.mk y8 y7 y6) y12 y10 y13 y9 y11)) Bool.true y14)))]))) (.br y20 (.need y0 (.fin (.ret (.tup [])) [(.abs (.rq (I.hid (α:=Go.Ab.Rq) (yX (Go.Ab.Rq.mk (Go.Ab.Ln.mk (Go.Ab.Ln.b ln) (Go.Ab.Ln.cr ln) (Go.Ab.Ln.code ln)) p (Hd.mk m tg hm hf hl) le (Option.some (Go.Ab.Ch.mk (Go.Ab.Ln.mk y8 y7 y6) y12 y10 y13 y9 y11)) Bool.true out)))))])) (.fin (.ret (.tup [])) [(.abs (.rq (Go.Ab.Rq.mk (Go.Ab.Ln.mk (Go.Ab.Ln.b ln) (Go.Ab.Ln.cr ln) (Go.Ab.Ln.code ln)) p (Hd.mk m tg hm hf hl) le (Option.some (Go.Ab.Ch.mk (Go.Ab.Ln.mk y8 y7 y6) y12 y10 y13 y9 y11)) Bool.true out)))]))))) (.br (I.ieq p 0) (.need y23 (.br y15 (.br y22 (.need y5 (.br (I.bnot (I.ieq y3 0)) (.need (I.hid (α:=(Prop)) (zA y1)) (.fin (.ret (.tup [])) [(.abs (.rq y24))])) (.fin (.ret (.tup [])) [(.abs (.rq y1))]))) (.br (I.bnot y15) (.need y4 (.fin (.ret (.tup [])) [(.abs (.rq y2))])) (.fin (.ret (.tup [])) [(.abs (.rq (Go.Ab.Rq.mk (Go.Ab.Ln.mk y19 y18 y17) p (Hd.mk m tg hm hf hl) le (Option.some (Go.Ab.Ch.mk (Go.Ab.Ln.mk (Go.Ab.Ln.b (Go.Ab.Ch.ln ch)) (Go.Ab.Ln.cr (Go.Ab.Ch.ln ch)) (Go.Ab.Ln.code (Go.Ab.Ch.ln ch))) (Go.Ab.Ch.pos ch) (Go.Ab.Ch.left ch) (Go.Ab.Ch.all ch) (Go.Ab.Ch.tails ch) (Go.Ab.Ch.code ch))) Bool.true out)))]))) (.br (I.bnot y15) (.need y4 (.fin (.ret (.tup [])) [(.abs (.rq y2))])) (.fin (.ret (.tup [])) [(.abs (.rq (Go.Ab.Rq.mk (Go.Ab.Ln.mk y19 y18 y17) p (Hd.mk m tg hm hf hl) le (Option.some (Go.Ab.Ch.mk (Go.Ab.Ln.mk (Go.Ab.Ln.b (Go.Ab.Ch.ln ch)) (Go.Ab.Ln.cr (Go.Ab.Ch.ln ch)) (Go.Ab.Ln.code (Go.Ab.Ch.ln ch))) (Go.Ab.Ch.pos ch) (Go.Ab.Ch.left ch) (Go.Ab.Ch.all ch) (Go.Ab.Ch.tails ch) (Go.Ab.Ch.code ch))) Bool.true out)))])))) (.br (I.ieq p 1) (.need y23 (.br y15 (.br y22 (.need y5 (.br (I.bnot (I.ieq y3 0)) (.need (I.hid (α:=(Prop)) (zA y1)) (.fin (.ret (.tup [])) [(.abs (.rq y24))])) (.fin (.ret (.tup [])) [(.abs (.rq y1))]))) (.br (I.bnot y15) (.need y4 (.fin (.ret (.tup [])) [(.abs (.rq y2))])) (.fin (.ret (.tup [])) [(.abs (.rq (Go.Ab.Rq.mk (Go.Ab.Ln.mk y19 y18 y17) p (Hd.mk m tg hm hf hl) le (Option.some (Go.Ab.Ch.mk (Go.Ab.Ln.mk (Go.Ab.Ln.b (Go.Ab.Ch.ln ch)) (Go.Ab.Ln.cr (Go.Ab.Ch.ln ch)) (Go.Ab.Ln.code (Go.Ab.Ch.ln ch))) (Go.Ab.Ch.pos ch) (Go.Ab.Ch.left ch) (Go.Ab.Ch.all ch) (Go.Ab.Ch.tails ch) (Go.Ab.Ch.code ch))) Bool.true out)))]))) (.br (I.bnot y15) (.need y4 (.fin (.ret (.tup [])) [(.abs (.rq y2))])) (.fin (.ret (.tup [])) [(.abs (.rq (Go.Ab.Rq.mk (Go.Ab.Ln.mk y19 y18 y17) p (Hd.mk m tg hm hf hl) le (Option.some (Go.Ab.Ch.mk (Go.Ab.Ln.mk (Go.Ab.Ln.b (Go.Ab.Ch.ln ch)) (Go.Ab.Ln.cr (Go.Ab.Ch.ln ch)) (Go.Ab.Ln.code (Go.Ab.Ch.ln ch))) (Go.Ab.Ch.pos ch) (Go.Ab.Ch.left ch) (Go.Ab.Ch.all ch) (Go.Ab.Ch.tails ch) (Go.Ab.Ch.code ch))) Bool.true out)))])))) (.fin (.ret (.tup [])) [(.abs (.rq (Go.Ab.Rq.mk (Go.Ab.Ln.mk (Go.Ab.Ln.b ln) (Go.Ab.Ln.cr ln) (Go.Ab.Ln.code ln)) p (Hd.mk m tg hm hf hl) le (Option.some (Go.Ab.Ch.mk (Go.Ab.Ln.mk (Go.Ab.Ln.b (Go.Ab.Ch.ln ch)) (Go.Ab.Ln.cr (Go.Ab.Ch.ln ch)) (Go.Ab.Ln.code (Go.Ab.Ch.ln ch))) (Go.Ab.Ch.pos ch) (Go.Ab.Ch.left ch) (Go.Ab.Ch.all ch) (Go.Ab.Ch.tails ch) (Go.Ab.Ch.code ch))) Bool.true out)))]))))) (by kernel_rfl) ?_
  simp only [zB]
  subst hI
  unfold rqF at hr
  simp only at hr
  simp only [nrmA,nrmB,nrlB,reduceCtorEq,HO.abs.injEq,Gh.rq.injEq,Rq.mk.injEq]
  generalize UInt8.ofNat k.toNat=c at *
  have hni:=zaw (g2 ch rfl) hi
  have hz:chF ⟨⟨ch.ln.b,ch.ln.cr,ch.ln.code⟩,ch.pos,ch.left,ch.all,ch.tails,ch.code⟩ c=chF ch c:=rfl
  have hck:ckOf ⟨ln,p,⟨m,tg,hm,hf,hl⟩,le,some ch,true,out⟩=ch:=rfl
  simp only [hz]
  rw [hck] at hr
  clear hz hck
  have hz2:lnF ⟨ln.b,ln.cr,ln.code⟩ c=lnF ln c:=rfl
  simp only [hz2]
  clear hz2 g2
  by_cases q1:p=2
  · rw [if_pos q1] at hr
    have h9:=g9 q1
    by_cases q2:le - 1=0
    · rw [if_pos q2] at hr
      subst hr
      have q3:le=1:=by omega
      subst q3
      (repeat' (first|refine And.intro ?_ ?_|intro _))<;>first|omega|exact True.intro|exact False.elim ‹False›|skip
      all_goals first|omega|rfl|(unfold zA;simp;omega)|(unfold zA;simp only;omega)|trace_state
    · rw [if_neg q2] at hr
      subst hr
      (repeat' (first|refine And.intro ?_ ?_|intro _))<;>first|omega|exact True.intro|exact False.elim ‹False›|skip
      all_goals first|omega|rfl|(unfold zA;simp;omega)|(unfold zA;simp only;omega)|trace_state
  rw [if_neg q1] at hr
  by_cases q4:p=3
  · rw [if_pos q4] at hr
    generalize chF ch c=z at *
    obtain⟨⟨⟨zb,zc,zo⟩,z1,z2,z3,z4,z5⟩,d,ov,e⟩:=z
    simp only at hr ⊢
    have hd0:d.length=0↔d=[]:=List.length_eq_zero_iff
    by_cases q5:e=0
    · rw [if_neg (fun h=>h q5)] at hr
      cases ov with
      | true=>
        rw [if_pos rfl] at hr
        by_cases q6:d=[]
        · rw [if_neg (fun h=>h q6)] at hr
          have q7:=hd0.2 q6
          subst hr
          (repeat' (first|refine And.intro ?_ ?_|intro _))<;>first|omega|exact True.intro|exact False.elim ‹False›|skip
          all_goals first|omega|rfl|(unfold zA;simp;omega)|(unfold zA;simp only;omega)|contradiction|exact⟨⟨hk0,hk1⟩,hni⟩|trace_state
        · rw [if_pos q6] at hr
          have q7: ¬ d.length=0:=fun h=>q6 (hd0.1 h)
          subst hr
          (repeat' (first|refine And.intro ?_ ?_|intro _))<;>first|omega|exact True.intro|exact False.elim ‹False›|skip
          all_goals first|omega|rfl|(unfold zA;simp;omega)|(unfold zA;simp only;omega)|contradiction|exact⟨⟨hk0,hk1⟩,hni⟩|trace_state
      | false=>
        rw [if_neg Bool.false_ne_true] at hr
        by_cases q6:d=[]
        · rw [if_neg (fun h=>h q6)] at hr
          have q7:=hd0.2 q6
          subst hr
          (repeat' (first|refine And.intro ?_ ?_|intro _))<;>first|omega|exact True.intro|exact False.elim ‹False›|skip
          all_goals first|omega|rfl|(unfold zA;simp;omega)|(unfold zA;simp only;omega)|contradiction|exact⟨⟨hk0,hk1⟩,hni⟩|trace_state
        · rw [if_pos q6] at hr
          have q7: ¬ d.length=0:=fun h=>q6 (hd0.1 h)
          subst hr
          (repeat' (first|refine And.intro ?_ ?_|intro _))<;>first|omega|exact True.intro|exact False.elim ‹False›|skip
          all_goals first|omega|rfl|(unfold zA;simp;omega)|(unfold zA;simp only;omega)|contradiction|exact⟨⟨hk0,hk1⟩,hni⟩|trace_state
    · rw [if_pos q5] at hr
      subst hr
      (repeat' (first|refine And.intro ?_ ?_|intro _))<;>first|omega|exact True.intro|exact False.elim ‹False›|skip
      all_goals first|omega|rfl|(unfold zA;simp;omega)|(unfold zA;simp only;omega)|contradiction|exact⟨⟨hk0,hk1⟩,hni⟩|trace_state
  rw [if_neg q4] at hr
  by_cases q8:p=0∨p=1
  · rw [if_pos q8] at hr
    have hl: ∀ (l:Ln) (s:Str),zF ⟨⟨l.b,l.cr,l.code⟩,p,⟨m,tg,hm,hf,hl⟩,le,some ch,true,out⟩ s=zF ⟨l,p,⟨m,tg,hm,hf,hl⟩,le,some ch,true,out⟩ s:=fun l s=>rfl
    simp only [hl]
    clear hl
    generalize lnF ln c=z at *
    obtain⟨l2,s,is,e⟩:=z
    simp only at hr hll ⊢
    have hlo:(zF ⟨l2,p,⟨m,tg,hm,hf,hl⟩,le,some ch,true,out⟩ s).1.out.length≤out.length+2:=Wi _ _
    generalize zF ⟨l2,p,⟨m,tg,hm,hf,hl⟩,le,some ch,true,out⟩ s=y at *
    obtain⟨y,ye⟩:=y
    simp only at hr hlo ⊢
    by_cases q5:e=0
    · rw [if_neg (fun h=>h q5)] at hr
      cases is with
      | true=>
        rw [if_pos rfl] at hr
        by_cases q6:ye=0
        · rw [if_neg (fun h=>h q6)] at hr
          subst hr
          (repeat' (first|refine And.intro ?_ ?_|intro _))<;>first|omega|exact True.intro|exact False.elim ‹False›|skip
          all_goals first|omega|rfl|contradiction|exact⟨rfl,⟨hfs,by simp only;omega⟩,by omega⟩|(simp only [yM];done)|exact hfs.1|(exact(hfs.2 _ ‹_›).1)|(exact(hfs.2 _ ‹_›).2)|(unfold zA;omega)|(simp only;omega)|trace_state
        · rw [if_pos q6] at hr
          subst hr
          (repeat' (first|refine And.intro ?_ ?_|intro _))<;>first|omega|exact True.intro|exact False.elim ‹False›|skip
          all_goals first|omega|rfl|contradiction|exact⟨rfl,⟨hfs,by simp only;omega⟩,by omega⟩|(simp only [yM];done)|exact hfs.1|(exact(hfs.2 _ ‹_›).1)|(exact(hfs.2 _ ‹_›).2)|(unfold zA;omega)|(simp only;omega)|trace_state
      | false=>
        rw [if_neg Bool.false_ne_true] at hr
        subst hr
        (repeat' (first|refine And.intro ?_ ?_|intro _))<;>first|omega|exact True.intro|exact False.elim ‹False›|skip
        all_goals first|omega|rfl|contradiction|trace_state
    · rw [if_pos q5] at hr
      subst hr
      (repeat' (first|refine And.intro ?_ ?_|intro _))<;>first|omega|exact True.intro|exact False.elim ‹False›|skip
      all_goals first|omega|rfl|contradiction|(unfold zA;simp only;omega)|trace_state
  rw [if_neg q8] at hr
  subst hr
  (repeat' (first|refine And.intro ?_ ?_|intro _))<;>first|omega|exact True.intro|exact False.elim ‹False›|skip
  all_goals first|omega|rfl|contradiction|trace_state
theorem zca (ln:Ln) (p:Int) (m tg:Str) (hm:Int) (hf:List Fld) (hl le:Int) (ch:Ch) (out:List Evt) (k:Int) (hneed:rqN ⟨ln,p,⟨m,tg,hm,hf,hl⟩,le,some ch,false,out⟩∧0≤k∧k≤255):Spc Tryd.prog 12 [.v (.one (.ptr 0 0)),.v (.one (.p (.int .u8 k)))] [.abs (.rq ⟨ln,p,⟨m,tg,hm,hf,hl⟩,le,some ch,false,out⟩)] (.ret (.tup [])) [.abs (.rq ((rqF ⟨ln,p,⟨m,tg,hm,hf,hl⟩,le,some ch,false,out⟩ (UInt8.ofNat k.toNat))))]:=by
  obtain⟨⟨i,hi,hI0⟩,hk0,hk1⟩:=hneed
  obtain⟨g1,g2,g3,g4,g5,g6,g7,g8,g9,g10⟩:=hI0
  simp only at g1 g2 g3 g4 g5 g6 g7 g8 g9 g10
  have hfs:FsOk hf:=⟨by omega,fun f hm=>by have:=g6 f hm;omega⟩
  have hll:=ZC ln (UInt8.ofNat k.toNat)
  generalize hr:rqF ⟨ln,p,⟨m,tg,hm,hf,hl⟩,le,some ch,false,out⟩ (UInt8.ofNat k.toNat)=r
  refine spcG zx mixed Tryd.func12 (by kernel_rfl) { cfgQ with fz:=[26],keep:=some [0,1,4,5,6,7,8,9,13,62]} [uN,uM,Zc,Zb,YK,YJ,zM,zL,zS,zQ,zX,zW,yh,yg,yS,yR,qE,qC,tV,tN,qp,qm] (by kernel_rfl) ?_
  intro I X hI hX
  refine zi (let y8:=I.hid (α:=Str) (Go.Ab.Ln.b (Go.Ab.Ch.ln (Prod.fst (chF (Go.Ab.Ch.mk (Go.Ab.Ln.mk (Go.Ab.Ln.b (Go.Ab.Ch.ln ch)) (Go.Ab.Ln.cr (Go.Ab.Ch.ln ch)) (Go.Ab.Ln.code (Go.Ab.Ch.ln ch))) (Go.Ab.Ch.pos ch) (Go.Ab.Ch.left ch) (Go.Ab.Ch.all ch) (Go.Ab.Ch.tails ch) (Go.Ab.Ch.code ch)) (UInt8.ofNat (Int.toNat k))))));let y7:=I.hid (α:=Bool) (Go.Ab.Ln.cr (Go.Ab.Ch.ln (Prod.fst (chF (Go.Ab.Ch.mk (Go.Ab.Ln.mk (Go.Ab.Ln.b (Go.Ab.Ch.ln ch)) (Go.Ab.Ln.cr (Go.Ab.Ch.ln ch)) (Go.Ab.Ln.code (Go.Ab.Ch.ln ch))) (Go.Ab.Ch.pos ch) (Go.Ab.Ch.left ch) (Go.Ab.Ch.all ch) (Go.Ab.Ch.tails ch) (Go.Ab.Ch.code ch)) (UInt8.ofNat (Int.toNat k))))));let y6:=I.hid (α:=Int) (Go.Ab.Ln.code (Go.Ab.Ch.ln (Prod.fst (chF (Go.Ab.Ch.mk (Go.Ab.Ln.mk (Go.Ab.Ln.b (Go.Ab.Ch.ln ch)) (Go.Ab.Ln.cr (Go.Ab.Ch.ln ch)) (Go.Ab.Ln.code (Go.Ab.Ch.ln ch))) (Go.Ab.Ch.pos ch) (Go.Ab.Ch.left ch) (Go.Ab.Ch.all ch) (Go.Ab.Ch.tails ch) (Go.Ab.Ch.code ch)) (UInt8.ofNat (Int.toNat k))))));let y12:=I.hid (α:=Int) (Go.Ab.Ch.pos (Prod.fst (chF (Go.Ab.Ch.mk (Go.Ab.Ln.mk (Go.Ab.Ln.b (Go.Ab.Ch.ln ch)) (Go.Ab.Ln.cr (Go.Ab.Ch.ln ch)) (Go.Ab.Ln.code (Go.Ab.Ch.ln ch))) (Go.Ab.Ch.pos ch) (Go.Ab.Ch.left ch) (Go.Ab.Ch.all ch) (Go.Ab.Ch.tails ch) (Go.Ab.Ch.code ch)) (UInt8.ofNat (Int.toNat k)))));let y10:=I.hid (α:=Int) (Go.Ab.Ch.left (Prod.fst (chF (Go.Ab.Ch.mk (Go.Ab.Ln.mk (Go.Ab.Ln.b (Go.Ab.Ch.ln ch)) (Go.Ab.Ln.cr (Go.Ab.Ch.ln ch)) (Go.Ab.Ln.code (Go.Ab.Ch.ln ch))) (Go.Ab.Ch.pos ch) (Go.Ab.Ch.left ch) (Go.Ab.Ch.all ch) (Go.Ab.Ch.tails ch) (Go.Ab.Ch.code ch)) (UInt8.ofNat (Int.toNat k)))));let y13:=I.hid (α:=Int) (Go.Ab.Ch.all (Prod.fst (chF (Go.Ab.Ch.mk (Go.Ab.Ln.mk (Go.Ab.Ln.b (Go.Ab.Ch.ln ch)) (Go.Ab.Ln.cr (Go.Ab.Ch.ln ch)) (Go.Ab.Ln.code (Go.Ab.Ch.ln ch))) (Go.Ab.Ch.pos ch) (Go.Ab.Ch.left ch) (Go.Ab.Ch.all ch) (Go.Ab.Ch.tails ch) (Go.Ab.Ch.code ch)) (UInt8.ofNat (Int.toNat k)))));let y9:=I.hid (α:=Int) (Go.Ab.Ch.tails (Prod.fst (chF (Go.Ab.Ch.mk (Go.Ab.Ln.mk (Go.Ab.Ln.b (Go.Ab.Ch.ln ch)) (Go.Ab.Ln.cr (Go.Ab.Ch.ln ch)) (Go.Ab.Ln.code (Go.Ab.Ch.ln ch))) (Go.Ab.Ch.pos ch) (Go.Ab.Ch.left ch) (Go.Ab.Ch.all ch) (Go.Ab.Ch.tails ch) (Go.Ab.Ch.code ch)) (UInt8.ofNat (Int.toNat k)))));let y11:=I.hid (α:=Int) (Go.Ab.Ch.code (Prod.fst (chF (Go.Ab.Ch.mk (Go.Ab.Ln.mk (Go.Ab.Ln.b (Go.Ab.Ch.ln ch)) (Go.Ab.Ln.cr (Go.Ab.Ch.ln ch)) (Go.Ab.Ln.code (Go.Ab.Ch.ln ch))) (Go.Ab.Ch.pos ch) (Go.Ab.Ch.left ch) (Go.Ab.Ch.all ch) (Go.Ab.Ch.tails ch) (Go.Ab.Ch.code ch)) (UInt8.ofNat (Int.toNat k)))));let y0:=I.hid (α:=(Prop)) (zA (Go.Ab.Rq.mk (Go.Ab.Ln.mk (Go.Ab.Ln.b ln) (Go.Ab.Ln.cr ln) (Go.Ab.Ln.code ln)) p (Hd.mk m tg hm hf hl) le (Option.some (Go.Ab.Ch.mk (Go.Ab.Ln.mk y8 y7 y6) y12 y10 y13 y9 y11)) Bool.false out));let y19:=I.hid (α:=Str) (Go.Ab.Ln.b (Prod.fst (lnF (Go.Ab.Ln.mk (Go.Ab.Ln.b ln) (Go.Ab.Ln.cr ln) (Go.Ab.Ln.code ln)) (UInt8.ofNat (Int.toNat k)))));let y18:=I.hid (α:=Bool) (Go.Ab.Ln.cr (Prod.fst (lnF (Go.Ab.Ln.mk (Go.Ab.Ln.b ln) (Go.Ab.Ln.cr ln) (Go.Ab.Ln.code ln)) (UInt8.ofNat (Int.toNat k)))));let y17:=I.hid (α:=Int) (Go.Ab.Ln.code (Prod.fst (lnF (Go.Ab.Ln.mk (Go.Ab.Ln.b ln) (Go.Ab.Ln.cr ln) (Go.Ab.Ln.code ln)) (UInt8.ofNat (Int.toNat k)))));let y1:=I.hid (α:=Go.Ab.Rq) (Prod.fst (zF (Go.Ab.Rq.mk (Go.Ab.Ln.mk y19 y18 y17) p (Hd.mk m tg hm hf hl) le (Option.some (Go.Ab.Ch.mk (Go.Ab.Ln.mk (Go.Ab.Ln.b (Go.Ab.Ch.ln ch)) (Go.Ab.Ln.cr (Go.Ab.Ch.ln ch)) (Go.Ab.Ln.code (Go.Ab.Ch.ln ch))) (Go.Ab.Ch.pos ch) (Go.Ab.Ch.left ch) (Go.Ab.Ch.all ch) (Go.Ab.Ch.tails ch) (Go.Ab.Ch.code ch))) Bool.false out) (I.hid (α:=Str) (Prod.fst (Prod.snd (lnF (Go.Ab.Ln.mk (Go.Ab.Ln.b ln) (Go.Ab.Ln.cr ln) (Go.Ab.Ln.code ln)) (UInt8.ofNat (Int.toNat k))))))));let y2:=I.hid (α:=Go.Ab.Rq) (yD (Go.Ab.Rq.mk (Go.Ab.Ln.mk y19 y18 y17) p (Hd.mk m tg hm hf hl) le (Option.some (Go.Ab.Ch.mk (Go.Ab.Ln.mk (Go.Ab.Ln.b (Go.Ab.Ch.ln ch)) (Go.Ab.Ln.cr (Go.Ab.Ch.ln ch)) (Go.Ab.Ln.code (Go.Ab.Ch.ln ch))) (Go.Ab.Ch.pos ch) (Go.Ab.Ch.left ch) (Go.Ab.Ch.all ch) (Go.Ab.Ch.tails ch) (Go.Ab.Ch.code ch))) Bool.false out) (I.hid (α:=Int) (Prod.snd (Prod.snd (Prod.snd (lnF (Go.Ab.Ln.mk (Go.Ab.Ln.b ln) (Go.Ab.Ln.cr ln) (Go.Ab.Ln.code ln)) (UInt8.ofNat (Int.toNat k))))))));let y3:=I.hid (α:=Int) (Prod.snd (zF (Go.Ab.Rq.mk (Go.Ab.Ln.mk y19 y18 y17) p (Hd.mk m tg hm hf hl) le (Option.some (Go.Ab.Ch.mk (Go.Ab.Ln.mk (Go.Ab.Ln.b (Go.Ab.Ch.ln ch)) (Go.Ab.Ln.cr (Go.Ab.Ch.ln ch)) (Go.Ab.Ln.code (Go.Ab.Ch.ln ch))) (Go.Ab.Ch.pos ch) (Go.Ab.Ch.left ch) (Go.Ab.Ch.all ch) (Go.Ab.Ch.tails ch) (Go.Ab.Ch.code ch))) Bool.false out) (I.hid (α:=Str) (Prod.fst (Prod.snd (lnF (Go.Ab.Ln.mk (Go.Ab.Ln.b ln) (Go.Ab.Ln.cr ln) (Go.Ab.Ln.code ln)) (UInt8.ofNat (Int.toNat k))))))));let y4:=I.hid (α:=(Prop)) (zA (Go.Ab.Rq.mk (Go.Ab.Ln.mk y19 y18 y17) p (Hd.mk m tg hm hf hl) le (Option.some (Go.Ab.Ch.mk (Go.Ab.Ln.mk (Go.Ab.Ln.b (Go.Ab.Ch.ln ch)) (Go.Ab.Ln.cr (Go.Ab.Ch.ln ch)) (Go.Ab.Ln.code (Go.Ab.Ch.ln ch))) (Go.Ab.Ch.pos ch) (Go.Ab.Ch.left ch) (Go.Ab.Ch.all ch) (Go.Ab.Ch.tails ch) (Go.Ab.Ch.code ch))) Bool.false out));let y5:=I.hid (α:=(Prop)) (And (yM (Go.Ab.Rq.mk (Go.Ab.Ln.mk y19 y18 y17) p (Hd.mk m tg hm hf hl) le (Option.some (Go.Ab.Ch.mk (Go.Ab.Ln.mk (Go.Ab.Ln.b (Go.Ab.Ch.ln ch)) (Go.Ab.Ln.cr (Go.Ab.Ch.ln ch)) (Go.Ab.Ln.code (Go.Ab.Ch.ln ch))) (Go.Ab.Ch.pos ch) (Go.Ab.Ch.left ch) (Go.Ab.Ch.all ch) (Go.Ab.Ch.tails ch) (Go.Ab.Ch.code ch))) Bool.false out)) (And (rqFs (Go.Ab.Rq.mk (Go.Ab.Ln.mk y19 y18 y17) p (Hd.mk m tg hm hf hl) le (Option.some (Go.Ab.Ch.mk (Go.Ab.Ln.mk (Go.Ab.Ln.b (Go.Ab.Ch.ln ch)) (Go.Ab.Ln.cr (Go.Ab.Ch.ln ch)) (Go.Ab.Ln.code (Go.Ab.Ch.ln ch))) (Go.Ab.Ch.pos ch) (Go.Ab.Ch.left ch) (Go.Ab.Ch.all ch) (Go.Ab.Ch.tails ch) (Go.Ab.Ch.code ch))) Bool.false out)) (LE.le (List.length (I.hid (α:=Str) (Prod.fst (Prod.snd (lnF (Go.Ab.Ln.mk (Go.Ab.Ln.b ln) (Go.Ab.Ln.cr ln) (Go.Ab.Ln.code ln)) (UInt8.ofNat (Int.toNat k))))))) 1000000)));let y14:=I.hid (α:=(List Go.Ab.Evt)) (HAppend.hAppend out ([(Go.Ab.Evt.mk (2:Int) (Hd.mk ([]:Str) ([]:Str) (0:Int) ([]:List Fld) (0:Int)) (I.hid (α:=Str) (Prod.fst (Prod.snd (chF (Go.Ab.Ch.mk (Go.Ab.Ln.mk (Go.Ab.Ln.b (Go.Ab.Ch.ln ch)) (Go.Ab.Ln.cr (Go.Ab.Ch.ln ch)) (Go.Ab.Ln.code (Go.Ab.Ch.ln ch))) (Go.Ab.Ch.pos ch) (Go.Ab.Ch.left ch) (Go.Ab.Ch.all ch) (Go.Ab.Ch.tails ch) (Go.Ab.Ch.code ch)) (UInt8.ofNat (Int.toNat k)))))) (Go.Ab.Prt.mk ([]:Str) ([]:Str) ([]:Str) ([]:Str)) (0:Int))]:List Go.Ab.Evt));let y15:=I.ieq (I.hid (α:=Int) (Prod.snd (Prod.snd (Prod.snd (lnF (Go.Ab.Ln.mk (Go.Ab.Ln.b ln) (Go.Ab.Ln.cr ln) (Go.Ab.Ln.code ln)) (UInt8.ofNat (Int.toNat k))))))) 0;let y16:=I.hid (α:=(List Go.Ab.Evt)) (HAppend.hAppend out ([(Go.Ab.Evt.mk (2:Int) (Hd.mk ([]:Str) ([]:Str) (0:Int) ([]:List Fld) (0:Int)) ([(I.i2b k)]:Str) (Go.Ab.Prt.mk ([]:Str) ([]:Str) ([]:Str) ([]:Str)) (0:Int))]:List Go.Ab.Evt));let y20:=I.hid (α:=Bool) (Prod.fst (Prod.snd (Prod.snd (chF (Go.Ab.Ch.mk (Go.Ab.Ln.mk (Go.Ab.Ln.b (Go.Ab.Ch.ln ch)) (Go.Ab.Ln.cr (Go.Ab.Ch.ln ch)) (Go.Ab.Ln.code (Go.Ab.Ch.ln ch))) (Go.Ab.Ch.pos ch) (Go.Ab.Ch.left ch) (Go.Ab.Ch.all ch) (Go.Ab.Ch.tails ch) (Go.Ab.Ch.code ch)) (UInt8.ofNat (Int.toNat k))))));let y21:=I.hid (α:=Int) (Prod.snd (Prod.snd (Prod.snd (chF (Go.Ab.Ch.mk (Go.Ab.Ln.mk (Go.Ab.Ln.b (Go.Ab.Ch.ln ch)) (Go.Ab.Ln.cr (Go.Ab.Ch.ln ch)) (Go.Ab.Ln.code (Go.Ab.Ch.ln ch))) (Go.Ab.Ch.pos ch) (Go.Ab.Ch.left ch) (Go.Ab.Ch.all ch) (Go.Ab.Ch.tails ch) (Go.Ab.Ch.code ch)) (UInt8.ofNat (Int.toNat k))))));let y22:=I.hid (α:=Bool) (Prod.fst (Prod.snd (Prod.snd (lnF (Go.Ab.Ln.mk (Go.Ab.Ln.b ln) (Go.Ab.Ln.cr ln) (Go.Ab.Ln.code ln)) (UInt8.ofNat (Int.toNat k))))));let y23:=I.hid (α:=(Prop)) (And (LE.le (0:Int) k) (And (LE.le k (255:Int)) (LE.le (List.length (Go.Ab.Ln.b ln)) 1000000)));let y24:=I.hid (α:=Go.Ab.Rq) (yD y1 y3);.br (I.ieq p 2) (.need (I.inr Go.IntKind.u8 k) (.need (I.hid (α:=(Prop)) (zA (Go.Ab.Rq.mk (Go.Ab.Ln.mk (Go.Ab.Ln.b ln) (Go.Ab.Ln.cr ln) (Go.Ab.Ln.code ln)) p (Hd.mk m tg hm hf hl) le (Option.some (Go.Ab.Ch.mk (Go.Ab.Ln.mk (Go.Ab.Ln.b (Go.Ab.Ch.ln ch)) (Go.Ab.Ln.cr (Go.Ab.Ch.ln ch)) (Go.Ab.Ln.code (Go.Ab.Ch.ln ch))) (Go.Ab.Ch.pos ch) (Go.Ab.Ch.left ch) (Go.Ab.Ch.all ch) (Go.Ab.Ch.tails ch) (Go.Ab.Ch.code ch))) Bool.false out))) (.need (I.inr Go.IntKind.i64 (I.sub le 1)) (.br (I.ieq (I.sub le 1) 0) (.need (I.hid (α:=(Prop)) (zA (Go.Ab.Rq.mk (Go.Ab.Ln.mk (Go.Ab.Ln.b ln) (Go.Ab.Ln.cr ln) (Go.Ab.Ln.code ln)) p (Hd.mk m tg hm hf hl) (I.sub le 1) (Option.some (Go.Ab.Ch.mk (Go.Ab.Ln.mk (Go.Ab.Ln.b (Go.Ab.Ch.ln ch)) (Go.Ab.Ln.cr (Go.Ab.Ch.ln ch)) (Go.Ab.Ln.code (Go.Ab.Ch.ln ch))) (Go.Ab.Ch.pos ch) (Go.Ab.Ch.left ch) (Go.Ab.Ch.all ch) (Go.Ab.Ch.tails ch) (Go.Ab.Ch.code ch))) Bool.false y16))) (.fin (.ret (.tup [])) [(.abs (.rq (I.hid (α:=Go.Ab.Rq) (yX (Go.Ab.Rq.mk (Go.Ab.Ln.mk (Go.Ab.Ln.b ln) (Go.Ab.Ln.cr ln) (Go.Ab.Ln.code ln)) p (Hd.mk m tg hm hf hl) (I.sub le 1) (Option.some (Go.Ab.Ch.mk (Go.Ab.Ln.mk (Go.Ab.Ln.b (Go.Ab.Ch.ln ch)) (Go.Ab.Ln.cr (Go.Ab.Ch.ln ch)) (Go.Ab.Ln.code (Go.Ab.Ch.ln ch))) (Go.Ab.Ch.pos ch) (Go.Ab.Ch.left ch) (Go.Ab.Ch.all ch) (Go.Ab.Ch.tails ch) (Go.Ab.Ch.code ch))) Bool.false y16)))))])) (.fin (.ret (.tup [])) [(.abs (.rq (Go.Ab.Rq.mk (Go.Ab.Ln.mk (Go.Ab.Ln.b ln) (Go.Ab.Ln.cr ln) (Go.Ab.Ln.code ln)) p (Hd.mk m tg hm hf hl) (I.sub le 1) (Option.some (Go.Ab.Ch.mk (Go.Ab.Ln.mk (Go.Ab.Ln.b (Go.Ab.Ch.ln ch)) (Go.Ab.Ln.cr (Go.Ab.Ch.ln ch)) (Go.Ab.Ln.code (Go.Ab.Ch.ln ch))) (Go.Ab.Ch.pos ch) (Go.Ab.Ch.left ch) (Go.Ab.Ch.all ch) (Go.Ab.Ch.tails ch) (Go.Ab.Ch.code ch))) Bool.false y16)))]))))) (.br (I.ieq p 3) (.need (I.hid (α:=(Prop)) (And (And (LE.le (0:Int) k) (LE.le k (255:Int))) (And (LE.le (List.length (Go.Ab.Ln.b (Go.Ab.Ch.ln ch))) 1000000) (And (And (LE.le (Neg.neg (1000000:Int)) (Go.Ab.Ch.left ch)) (LE.le (Go.Ab.Ch.left ch) (100000000:Int))) (And (And (LE.le (0:Int) (Go.Ab.Ch.all ch)) (LE.le (Go.Ab.Ch.all ch) (1000000:Int))) (And (LE.le (0:Int) (Go.Ab.Ch.tails ch)) (LE.le (Go.Ab.Ch.tails ch) (1000000:Int)))))))) (.br (I.bnot (I.ieq y21 0)) (.need y0 (.fin (.ret (.tup [])) [(.abs (.rq (I.hid (α:=Go.Ab.Rq) (yD (Go.Ab.Rq.mk (Go.Ab.Ln.mk (Go.Ab.Ln.b ln) (Go.Ab.Ln.cr ln) (Go.Ab.Ln.code ln)) p (Hd.mk m tg hm hf hl) le (Option.some (Go.Ab.Ch.mk (Go.Ab.Ln.mk y8 y7 y6) y12 y10 y13 y9 y11)) Bool.false out) y21))))])) (.br (I.ilt 0 (I.len (α:=UInt8) (I.hid (α:=Str) (Prod.fst (Prod.snd (chF (Go.Ab.Ch.mk (Go.Ab.Ln.mk (Go.Ab.Ln.b (Go.Ab.Ch.ln ch)) (Go.Ab.Ln.cr (Go.Ab.Ch.ln ch)) (Go.Ab.Ln.code (Go.Ab.Ch.ln ch))) (Go.Ab.Ch.pos ch) (Go.Ab.Ch.left ch) (Go.Ab.Ch.all ch) (Go.Ab.Ch.tails ch) (Go.Ab.Ch.code ch)) (UInt8.ofNat (Int.toNat k)))))))) (.need y0 (.br y20 (.need (I.hid (α:=(Prop)) (zA (Go.Ab.Rq.mk (Go.Ab.Ln.mk (Go.Ab.Ln.b ln) (Go.Ab.Ln.cr ln) (Go.Ab.Ln.code ln)) p (Hd.mk m tg hm hf hl) le (Option.some (Go.Ab.Ch.mk (Go.Ab.Ln.mk y8 y7 y6) y12 y10 y13 y9 y11)) Bool.false y14))) (.fin (.ret (.tup [])) [(.abs (.rq (I.hid (α:=Go.Ab.Rq) (yX (Go.Ab.Rq.mk (Go.Ab.Ln.mk (Go.Ab.Ln.b ln) (Go.Ab.Ln.cr ln) (Go.Ab.Ln.code ln)) p (Hd.mk m tg hm hf hl) le (Option.some (Go.Ab.Ch.mk (Go.Ab.Ln.mk y8 y7 y6) y12 y10 y13 y9 y11)) Bool.false y14)))))])) (.fin (.ret (.tup [])) [(.abs (.rq (Go.Ab.Rq.mk (Go.Ab.Ln.mk (Go.Ab.Ln.b ln) (Go.Ab.Ln.cr ln) (Go.Ab.Ln.code ln)) p (Hd.mk m tg hm hf hl) le (Option.some (Go.Ab.Ch.mk (Go.Ab.Ln.mk y8 y7 y6) y12 y10 y13 y9 y11)) Bool.false y14)))]))) (.br y20 (.need y0 (.fin (.ret (.tup [])) [(.abs (.rq (I.hid (α:=Go.Ab.Rq) (yX (Go.Ab.Rq.mk (Go.Ab.Ln.mk (Go.Ab.Ln.b ln) (Go.Ab.Ln.cr ln) (Go.Ab.Ln.code ln)) p (Hd.mk m tg hm hf hl) le (Option.some (Go.Ab.Ch.mk (Go.Ab.Ln.mk y8 y7 y6) y12 y10 y13 y9 y11)) Bool.false out)))))])) (.fin (.ret (.tup [])) [(.abs (.rq (Go.Ab.Rq.mk (Go.Ab.Ln.mk (Go.Ab.Ln.b ln) (Go.Ab.Ln.cr ln) (Go.Ab.Ln.code ln)) p (Hd.mk m tg hm hf hl) le (Option.some (Go.Ab.Ch.mk (Go.Ab.Ln.mk y8 y7 y6) y12 y10 y13 y9 y11)) Bool.false out)))]))))) (.br (I.ieq p 0) (.need y23 (.br y15 (.br y22 (.need y5 (.br (I.bnot (I.ieq y3 0)) (.need (I.hid (α:=(Prop)) (zA y1)) (.fin (.ret (.tup [])) [(.abs (.rq y24))])) (.fin (.ret (.tup [])) [(.abs (.rq y1))]))) (.br (I.bnot y15) (.need y4 (.fin (.ret (.tup [])) [(.abs (.rq y2))])) (.fin (.ret (.tup [])) [(.abs (.rq (Go.Ab.Rq.mk (Go.Ab.Ln.mk y19 y18 y17) p (Hd.mk m tg hm hf hl) le (Option.some (Go.Ab.Ch.mk (Go.Ab.Ln.mk (Go.Ab.Ln.b (Go.Ab.Ch.ln ch)) (Go.Ab.Ln.cr (Go.Ab.Ch.ln ch)) (Go.Ab.Ln.code (Go.Ab.Ch.ln ch))) (Go.Ab.Ch.pos ch) (Go.Ab.Ch.left ch) (Go.Ab.Ch.all ch) (Go.Ab.Ch.tails ch) (Go.Ab.Ch.code ch))) Bool.false out)))]))) (.br (I.bnot y15) (.need y4 (.fin (.ret (.tup [])) [(.abs (.rq y2))])) (.fin (.ret (.tup [])) [(.abs (.rq (Go.Ab.Rq.mk (Go.Ab.Ln.mk y19 y18 y17) p (Hd.mk m tg hm hf hl) le (Option.some (Go.Ab.Ch.mk (Go.Ab.Ln.mk (Go.Ab.Ln.b (Go.Ab.Ch.ln ch)) (Go.Ab.Ln.cr (Go.Ab.Ch.ln ch)) (Go.Ab.Ln.code (Go.Ab.Ch.ln ch))) (Go.Ab.Ch.pos ch) (Go.Ab.Ch.left ch) (Go.Ab.Ch.all ch) (Go.Ab.Ch.tails ch) (Go.Ab.Ch.code ch))) Bool.false out)))])))) (.br (I.ieq p 1) (.need y23 (.br y15 (.br y22 (.need y5 (.br (I.bnot (I.ieq y3 0)) (.need (I.hid (α:=(Prop)) (zA y1)) (.fin (.ret (.tup [])) [(.abs (.rq y24))])) (.fin (.ret (.tup [])) [(.abs (.rq y1))]))) (.br (I.bnot y15) (.need y4 (.fin (.ret (.tup [])) [(.abs (.rq y2))])) (.fin (.ret (.tup [])) [(.abs (.rq (Go.Ab.Rq.mk (Go.Ab.Ln.mk y19 y18 y17) p (Hd.mk m tg hm hf hl) le (Option.some (Go.Ab.Ch.mk (Go.Ab.Ln.mk (Go.Ab.Ln.b (Go.Ab.Ch.ln ch)) (Go.Ab.Ln.cr (Go.Ab.Ch.ln ch)) (Go.Ab.Ln.code (Go.Ab.Ch.ln ch))) (Go.Ab.Ch.pos ch) (Go.Ab.Ch.left ch) (Go.Ab.Ch.all ch) (Go.Ab.Ch.tails ch) (Go.Ab.Ch.code ch))) Bool.false out)))]))) (.br (I.bnot y15) (.need y4 (.fin (.ret (.tup [])) [(.abs (.rq y2))])) (.fin (.ret (.tup [])) [(.abs (.rq (Go.Ab.Rq.mk (Go.Ab.Ln.mk y19 y18 y17) p (Hd.mk m tg hm hf hl) le (Option.some (Go.Ab.Ch.mk (Go.Ab.Ln.mk (Go.Ab.Ln.b (Go.Ab.Ch.ln ch)) (Go.Ab.Ln.cr (Go.Ab.Ch.ln ch)) (Go.Ab.Ln.code (Go.Ab.Ch.ln ch))) (Go.Ab.Ch.pos ch) (Go.Ab.Ch.left ch) (Go.Ab.Ch.all ch) (Go.Ab.Ch.tails ch) (Go.Ab.Ch.code ch))) Bool.false out)))])))) (.fin (.ret (.tup [])) [(.abs (.rq (Go.Ab.Rq.mk (Go.Ab.Ln.mk (Go.Ab.Ln.b ln) (Go.Ab.Ln.cr ln) (Go.Ab.Ln.code ln)) p (Hd.mk m tg hm hf hl) le (Option.some (Go.Ab.Ch.mk (Go.Ab.Ln.mk (Go.Ab.Ln.b (Go.Ab.Ch.ln ch)) (Go.Ab.Ln.cr (Go.Ab.Ch.ln ch)) (Go.Ab.Ln.code (Go.Ab.Ch.ln ch))) (Go.Ab.Ch.pos ch) (Go.Ab.Ch.left ch) (Go.Ab.Ch.all ch) (Go.Ab.Ch.tails ch) (Go.Ab.Ch.code ch))) Bool.false out)))]))))) (by kernel_rfl) ?_
  simp only [zB]
  subst hI
  unfold rqF at hr
  simp only at hr
  simp only [nrmA,nrmB,nrlB,reduceCtorEq,HO.abs.injEq,Gh.rq.injEq,Rq.mk.injEq]
  generalize UInt8.ofNat k.toNat=c at *
  have hni:=zaw (g2 ch rfl) hi
  have hz:chF ⟨⟨ch.ln.b,ch.ln.cr,ch.ln.code⟩,ch.pos,ch.left,ch.all,ch.tails,ch.code⟩ c=chF ch c:=rfl
  have hck:ckOf ⟨ln,p,⟨m,tg,hm,hf,hl⟩,le,some ch,false,out⟩=ch:=rfl
  simp only [hz]
  rw [hck] at hr
  clear hz hck
  have hz2:lnF ⟨ln.b,ln.cr,ln.code⟩ c=lnF ln c:=rfl
  simp only [hz2]
  clear hz2 g2
  by_cases q1:p=2
  · rw [if_pos q1] at hr
    have h9:=g9 q1
    by_cases q2:le - 1=0
    · rw [if_pos q2] at hr
      subst hr
      have q3:le=1:=by omega
      subst q3
      (repeat' (first|refine And.intro ?_ ?_|intro _))<;>first|omega|exact True.intro|exact False.elim ‹False›|skip
      all_goals first|omega|rfl|(unfold zA;simp;omega)|(unfold zA;simp only;omega)|trace_state
    · rw [if_neg q2] at hr
      subst hr
      (repeat' (first|refine And.intro ?_ ?_|intro _))<;>first|omega|exact True.intro|exact False.elim ‹False›|skip
      all_goals first|omega|rfl|(unfold zA;simp;omega)|(unfold zA;simp only;omega)|trace_state
  rw [if_neg q1] at hr
  by_cases q4:p=3
  · rw [if_pos q4] at hr
    generalize chF ch c=z at *
    obtain⟨⟨⟨zb,zc,zo⟩,z1,z2,z3,z4,z5⟩,d,ov,e⟩:=z
    simp only at hr ⊢
    have hd0:d.length=0↔d=[]:=List.length_eq_zero_iff
    by_cases q5:e=0
    · rw [if_neg (fun h=>h q5)] at hr
      cases ov with
      | true=>
        rw [if_pos rfl] at hr
        by_cases q6:d=[]
        · rw [if_neg (fun h=>h q6)] at hr
          have q7:=hd0.2 q6
          subst hr
          (repeat' (first|refine And.intro ?_ ?_|intro _))<;>first|omega|exact True.intro|exact False.elim ‹False›|skip
          all_goals first|omega|rfl|(unfold zA;simp;omega)|(unfold zA;simp only;omega)|contradiction|exact⟨⟨hk0,hk1⟩,hni⟩|trace_state
        · rw [if_pos q6] at hr
          have q7: ¬ d.length=0:=fun h=>q6 (hd0.1 h)
          subst hr
          (repeat' (first|refine And.intro ?_ ?_|intro _))<;>first|omega|exact True.intro|exact False.elim ‹False›|skip
          all_goals first|omega|rfl|(unfold zA;simp;omega)|(unfold zA;simp only;omega)|contradiction|exact⟨⟨hk0,hk1⟩,hni⟩|trace_state
      | false=>
        rw [if_neg Bool.false_ne_true] at hr
        by_cases q6:d=[]
        · rw [if_neg (fun h=>h q6)] at hr
          have q7:=hd0.2 q6
          subst hr
          (repeat' (first|refine And.intro ?_ ?_|intro _))<;>first|omega|exact True.intro|exact False.elim ‹False›|skip
          all_goals first|omega|rfl|(unfold zA;simp;omega)|(unfold zA;simp only;omega)|contradiction|exact⟨⟨hk0,hk1⟩,hni⟩|trace_state
        · rw [if_pos q6] at hr
          have q7: ¬ d.length=0:=fun h=>q6 (hd0.1 h)
          subst hr
          (repeat' (first|refine And.intro ?_ ?_|intro _))<;>first|omega|exact True.intro|exact False.elim ‹False›|skip
          all_goals first|omega|rfl|(unfold zA;simp;omega)|(unfold zA;simp only;omega)|contradiction|exact⟨⟨hk0,hk1⟩,hni⟩|trace_state
    · rw [if_pos q5] at hr
      subst hr
      (repeat' (first|refine And.intro ?_ ?_|intro _))<;>first|omega|exact True.intro|exact False.elim ‹False›|skip
      all_goals first|omega|rfl|(unfold zA;simp;omega)|(unfold zA;simp only;omega)|contradiction|exact⟨⟨hk0,hk1⟩,hni⟩|trace_state
  rw [if_neg q4] at hr
  by_cases q8:p=0∨p=1
  · exact absurd (g4 q8) (by simp)
  rw [if_neg q8] at hr
  subst hr
  (repeat' (first|refine And.intro ?_ ?_|intro _))<;>first|omega|exact True.intro|exact False.elim ‹False›|skip
  all_goals first|omega|rfl|contradiction|trace_state
theorem zfd (q:Rq) (k:Int) (hneed:rqN q∧0≤k∧k≤255):Spc Tryd.prog 12 [.v (.one (.ptr 0 0)),.v (.one (.p (.int .u8 k)))] [.abs (.rq q)] (.ret (.tup [])) [.abs (.rq ((rqF q (UInt8.ofNat k.toNat))))]:=by
  obtain⟨ln,p,⟨m,tg,hm,hf,hl⟩,le,ck,own,out⟩:=q
  cases ck with
  | none=>cases own with
    |true=>exact zcb ln p m tg hm hf hl le out k hneed
    |false=>exact zcc ln p m tg hm hf hl le out k hneed
  | some ch=>cases own with
    |true=>exact zb9 ln p m tg hm hf hl le ch out k hneed
    |false=>exact zca ln p m tg hm hf hl le ch out k hneed
def qH (I:Alg) (args:List D) (hp:List HO):Option CT:=match args,hp with
  |[.v (.one (.ptr 0 0)),.v (.one (.p (.int .u8 k)))],[.abs (.rq q)]=>(fun(q:Rq) (k:Int)=>(some (.one ⟨I.hid (rqN q∧0≤k∧k≤255),(.ret (.tup [])),[.abs (.rq (I.hid ((rqF q (UInt8.ofNat k.toNat)))))]⟩):Option CT)) q k
  |_,_=>none
theorem Ut:zG Tryd.prog 12 (qH alg):=by
  intro args hp r h
  unfold qH at h
  split at h
  · cases h;exact fun hn=>zfd _ _ hn
  · cases h
def xK:Know Tryd.prog:=⟨12,qH,Ut⟩
def xJ:Know Tryd.prog:=⟨12,fun I=>zK I (qH I),zf Ut⟩
end Go.Proofs.YtmibhbdfigpkmaaDoor
namespace Go.Proofs.YtmibhbdfigpkmaaDoor
open Go Go.Sep Go.Ab
set_option maxRecDepth 100000
def zV (l:List Evt):Nat:=(l.map fun e=>e.bytes.length).sum
theorem yI (a b:List Evt):zV (a++b)=zV a+zV b:=by simp [zV]
theorem yP (e:Evt):zV [e]=e.bytes.length:=by simp [zV]
theorem zcA (o:List Evt) (e:Evt):zV (uP o e)≤zV o+e.bytes.length:=by
  rcases List.eq_nil_or_concat o with rfl|⟨z,x,rfl⟩
  · rw [Xm,yP];omega
  · rw [List.concat_eq_append,vK]
    split
    · rw [yI,yI,yP,yP];simp only [evB,List.length_append];omega
    · rw [yI _ [e],yP e];exact Nat.le_refl _
theorem zba (l:List Evt) (e:Evt):yj (l++[e])=uP (yj l) e:=by simp [yj,List.foldl_append]
theorem zcC (l:List Evt):zV (yj l)≤zV l:=by
  suffices ∀ l o:List Evt,zV (l.foldl uP o)≤zV o+zV l by have:=this l [];simpa [yj,zV] using this
  intro l
  induction l with
  |nil=>intro o;simp [zV]
  | cons e r ih=>
    intro o
    have h1:=ih (uP o e)
    have h2:=zcA o e
    have h3:zV (e::r)=e.bytes.length+zV r:=by simp [zV]
    rw [List.foldl_cons];omega
theorem zcB (o:List Evt) (e:Evt):(uP o e).length≤o.length+1:=by
  rcases List.eq_nil_or_concat o with rfl|⟨z,x,rfl⟩
  · simp [Xm]
  · rw [List.concat_eq_append,vK]
    split<;>simp
theorem zbi (l:List Evt) (i:Nat):zV (l.take i)≤zV l:=by
  have:=yI (l.take i) (l.drop i)
  rw [List.take_append_drop] at this
  omega
theorem Ti {l:List Evt} {e:Evt} (h:e ∈ l):e.bytes.length≤zV l:=by
  obtain⟨a,b,rfl⟩:=List.append_of_mem h
  have:=yI a (e::b)
  have h3:zV (e::b)=e.bytes.length+zV b:=by simp [zV]
  omega
theorem UN (l:List Evt):(yj l).length≤l.length:=by
  suffices ∀ l o:List Evt,(l.foldl uP o).length≤o.length+l.length by have:=this l [];simpa [yj] using this
  intro l
  induction l with
  |nil=>intro o;simp
  | cons e r ih=>
    intro o
    have h1:=ih (uP o e)
    have h2:=zcB o e
    rw [List.foldl_cons,List.length_cons];omega
theorem ze8 (l:List Evt) (hneed:zV l≤1000000∧l.length≤10000000):Spc Tryd.prog 13 [.v (.one (.row 0))] [.row .evt 34 l] (.ret (.v (.one (.row 1)))) [.row .evt 34 l,.row .evt 34 ((yj l))]:=by
  obtain⟨hn1,hn2⟩:=hneed
  refine spcG zx mixed Tryd.func13 (by kernel_rfl) { nr:=[3],keep:=some [0,2,3,5,6,7,8,9,10]} [] (by kernel_rfl) ?_
  intro I X hI hX
  refine zi (.code 0 [1,1,0,1,0] ⟨[(10,(.v (.one (.p (.int .i64 0))))),(9,(.v (.one (.p (.int .i64 (I.len (α:=Go.Ab.Evt) l)))))),(8,(.v (.one (.row 0)))),(3,(.v (.one (.row 1)))),(2,(.v (.one .nilS))),(0,(.v (.one (.row 0))))],[(.row .evt 34 l),(.row .evt 34 ([]:List Go.Ab.Evt))],52,none⟩) (by kernel_rfl) ?_
  simp only [zB]
  refine zZ hI zx mixed [] hX [0,3,8,9,10] (fun(g:Nat × List Evt)=>match g with|(i,o)=>i≤l.length∧o=yj (l.take i)) (fun(g:Nat × List Evt)=>match g with|(i,o)=>⟨[(0,.v (.one (.row 0))),(3,.v (.one (.row 1))),(8,.v (.one (.row 0))),(9,.v (.one (.p (.int .i64 ((I.len (α:=Evt) l)))))),(10,.v (.one (.p (.int .i64 i))))],[.row .evt 34 l,.row .evt 34 o],52,none⟩) (fun(g:Nat × List Evt)=>match g with|(i,o)=>l.length - i) (0,[]) (by kernel_rfl) (by kernel_rfl) ?_ ?_
  · exact⟨Nat.zero_le _,rfl⟩
  rintro⟨i,o⟩ ⟨h1,h2⟩ A hA
  simp only at hA h1 h2
  refine zi (let y0:=I.get (α:=Go.Ab.Evt) l (Go.Ab.Evt.mk (0:Int) (Hd.mk ([]:Str) ([]:Str) (0:Int) ([]:List Fld) (0:Int)) ([]:Str) (Go.Ab.Prt.mk ([]:Str) ([]:Str) ([]:Str) ([]:Str)) (0:Int)) (Nat.cast i);let y1:=I.few (I.add (I.len (α:=Go.Ab.Evt) o) (I.len (α:=Go.Ab.Evt) ([(Go.Ab.Evt.mk (Go.Ab.Evt.kind y0) (Hd.mk (Hd.method (Go.Ab.Evt.head y0)) (Hd.target (Go.Ab.Evt.head y0)) (Hd.minor (Go.Ab.Evt.head y0)) (Hd.fields (Go.Ab.Evt.head y0)) (Hd.length (Go.Ab.Evt.head y0))) (Go.Ab.Evt.bytes y0) (Go.Ab.Prt.mk (Go.Ab.Prt.name (Go.Ab.Evt.part y0)) (Go.Ab.Prt.file (Go.Ab.Evt.part y0)) (Go.Ab.Prt.type (Go.Ab.Evt.part y0)) (Go.Ab.Prt.bytes (Go.Ab.Evt.part y0))) (Go.Ab.Evt.code y0))]:List Go.Ab.Evt))) 100000000;let y2:HO:=.row .evt 34 (I.app (α:=Go.Ab.Evt) o ([(Go.Ab.Evt.mk (Go.Ab.Evt.kind y0) (Hd.mk (Hd.method (Go.Ab.Evt.head y0)) (Hd.target (Go.Ab.Evt.head y0)) (Hd.minor (Go.Ab.Evt.head y0)) (Hd.fields (Go.Ab.Evt.head y0)) (Hd.length (Go.Ab.Evt.head y0))) (Go.Ab.Evt.bytes y0) (Go.Ab.Prt.mk (Go.Ab.Prt.name (Go.Ab.Evt.part y0)) (Go.Ab.Prt.file (Go.Ab.Evt.part y0)) (Go.Ab.Prt.type (Go.Ab.Evt.part y0)) (Go.Ab.Prt.bytes (Go.Ab.Evt.part y0))) (Go.Ab.Evt.code y0))]:List Go.Ab.Evt));let y6:=I.sub (I.len (α:=Go.Ab.Evt) o) 1;let y3:=I.get (α:=Go.Ab.Evt) o (Go.Ab.Evt.mk (0:Int) (Hd.mk ([]:Str) ([]:Str) (0:Int) ([]:List Fld) (0:Int)) ([]:Str) (Go.Ab.Prt.mk ([]:Str) ([]:Str) ([]:Str) ([]:Str)) (0:Int)) y6;let y4:=I.inb y6 (I.len (α:=Go.Ab.Evt) o);let y5:=I.inr Go.IntKind.i64 (I.add (Nat.cast i) 1);let y7:=I.inb (Nat.cast i) (I.len (α:=Go.Ab.Evt) l);let y8:=I.len (α:=UInt8) (Go.Ab.Evt.bytes y3);.br (I.ilt (Nat.cast i) (I.len (α:=Go.Ab.Evt) l)) (.need y7 (.need y7 (.need (I.inr Go.IntKind.i64 y6) (.br (I.ieq (Go.Ab.Evt.kind y0) 2) (.br (I.ile 0 y6) (.need y4 (.need y4 (.br (I.ieq (Go.Ab.Evt.kind y3) 2) (.need y4 (.need y4 (.need (I.few y8 140737488355328) (.need (I.few (I.add y8 (I.len (α:=UInt8) (Go.Ab.Evt.bytes y0))) 140737488355328) (.need y4 (.need y4 (.need y5 (.need (A ⟨[(0,(.v (.one (.row 0)))),(3,(.v (.one (.row 1)))),(8,(.v (.one (.row 0)))),(9,(.v (.one (.p (.int .i64 (I.len (α:=Go.Ab.Evt) l)))))),(10,(.v (.one (.p (.int .i64 (I.add (Nat.cast i) 1))))))],[(.row .evt 34 l),(.row .evt 34 (I.set (α:=Go.Ab.Evt) o y6 (Go.Ab.Evt.mk (2:Int) (Hd.mk ([]:Str) ([]:Str) (0:Int) ([]:List Fld) (0:Int)) (I.app (α:=UInt8) (Go.Ab.Evt.bytes y3) (Go.Ab.Evt.bytes y0)) (Go.Ab.Prt.mk ([]:Str) ([]:Str) ([]:Str) ([]:Str)) (0:Int))))],52,none⟩) .qed)))))))) (.need y1 (.need y5 (.need (A ⟨[(0,(.v (.one (.row 0)))),(3,(.v (.one (.row 1)))),(8,(.v (.one (.row 0)))),(9,(.v (.one (.p (.int .i64 (I.len (α:=Go.Ab.Evt) l)))))),(10,(.v (.one (.p (.int .i64 (I.add (Nat.cast i) 1))))))],[(.row .evt 34 l),y2],52,none⟩) .qed)))))) (.need y1 (.need y5 (.need (A ⟨[(0,(.v (.one (.row 0)))),(3,(.v (.one (.row 1)))),(8,(.v (.one (.row 0)))),(9,(.v (.one (.p (.int .i64 (I.len (α:=Go.Ab.Evt) l)))))),(10,(.v (.one (.p (.int .i64 (I.add (Nat.cast i) 1))))))],[(.row .evt 34 l),y2],52,none⟩) .qed)))) (.need y1 (.need y5 (.need (A ⟨[(0,(.v (.one (.row 0)))),(3,(.v (.one (.row 1)))),(8,(.v (.one (.row 0)))),(9,(.v (.one (.p (.int .i64 (I.len (α:=Go.Ab.Evt) l)))))),(10,(.v (.one (.p (.int .i64 (I.add (Nat.cast i) 1))))))],[(.row .evt 34 l),y2],52,none⟩) .qed))))))) (.fin (.ret (.v (.one (.row 1)))) [(.row .evt 34 l),(.row .evt 34 o)])) (by kernel_rfl) ?_
  simp only [zB]
  subst hI
  simp only [nrmA,nrmB,nrlB,reduceCtorEq]
  have hl1:=UN (l.take i)
  have hl2:(l.take i).length≤i:=by rw [List.length_take];omega
  have hl3:=zcC (l.take i)
  have hl4: ∀ x ∈ yj (l.take i),x.bytes.length≤1000000:=fun x h=>by
    have a:=Ti h
    have b:=zbi l i
    omega
  have hw: ¬ i<l.length→o=yj l:=fun h=>by rw [h2,List.take_of_length_le (by omega)]
  have hy:i<l.length→yj (l.take (i+1))=uP o (l.getD i ⟨0,⟨[],[],0,[],0⟩,[],⟨[],[],[],[]⟩,0⟩):=fun h=>by rw [List.take_succ_eq_append_getElem h,zba,h2];simp [h]
  have hl5:i<l.length→(l.getD i ⟨0,⟨[],[],0,[],0⟩,[],⟨[],[],[],[]⟩,0⟩).bytes.length≤1000000:=fun h=>by
    have:l.getD i ⟨0,⟨[],[],0,[],0⟩,[],⟨[],[],[],[]⟩,0⟩ ∈ l:=by simp [h]
    have:=Ti this
    omega
  rw [← h2] at hl1 hl4
  refine⟨fun c=> ?_,fun c=>hw (by omega)⟩
  have hlt:i<l.length:=by omega
  have hy:=hy hlt
  have hl5:=hl5 hlt
  generalize l.getD i ⟨0,⟨[],[],0,[],0⟩,[],⟨[],[],[],[]⟩,0⟩=e at *
  have hgo: ∀ r:List Evt,r=uP o e→(fun p:Nat × List Evt=>p.1≤l.length∧p.2=yj (l.take p.1)) (i+1,r):=fun r h=>⟨by simp only;omega,by simp only;rw [hy,h]⟩
  rcases List.eq_nil_or_concat o with he|⟨z,x,he⟩
  · subst he
    rw [Xm] at hgo
    simp only [List.length_cons,List.length_nil]
    (repeat' (first|refine And.intro ?_ ?_|intro _))<;>first|omega|exact True.intro|exact False.elim ‹False›|skip
    all_goals first
      |omega
      |exact hA (i+1,_) (hgo _ rfl) (by simp only;omega)
  · rw [List.concat_eq_append] at he
    subst he
    have hx:=hl4 x (List.mem_append_right _ (List.mem_singleton.2 rfl))
    have hz:(((z++[x]).length:Int) - 1).toNat=z.length:=by rw [List.length_append,List.length_singleton];omega
    have hg: ∀ d,(z++[x]).getD z.length d=x:=fun d=>by simp
    have hs: ∀ d,(z++[x]).set z.length d=z++[d]:=fun d=>by simp
    rw [vK] at hgo
    rw [List.length_append,List.length_singleton] at hl1
    simp only [hz,hg,hs]
    simp only [List.length_append,List.length_cons,List.length_nil]
    clear hz hg hs
    (repeat' (first|refine And.intro ?_ ?_|intro _))<;>first|omega|exact True.intro|exact False.elim ‹False›|skip
    all_goals first
      |omega
      |(rw [if_pos ⟨‹e.kind=2›,‹x.kind=2›⟩] at hgo;exact hA (i+1,_) (hgo _ rfl) (by simp only;omega))
      |(rw [if_neg (fun h=>‹¬ e.kind=2› h.1)] at hgo;exact hA (i+1,_) (hgo _ rfl) (by simp only;omega))
      |(rw [if_neg (fun h=>‹¬ x.kind=2› h.2)] at hgo;exact hA (i+1,_) (hgo _ rfl) (by simp only;omega))
def qx (I:Alg) (args:List D) (hp:List HO):Option CT:=match args,hp with
  |[.v (.one (.row 0))],[.row .evt 34 l]=>(fun(l:List Evt)=>(some (.one ⟨I.hid (zV l≤1000000∧l.length≤10000000),(.ret (.v (.one (.row 1)))),[.row .evt 34 l,.row .evt 34 (I.hid ((yj l)))]⟩):Option CT)) l
  |_,_=>none
theorem Ul:zG Tryd.prog 13 (qx alg):=by
  intro args hp r h
  unfold qx at h
  split at h
  · cases h;exact fun hn=>ze8 _ hn
  · cases h
def xI:Know Tryd.prog:=⟨13,qx,Ul⟩
def xH:Know Tryd.prog:=⟨13,fun I=>zK I (qx I),zf Ul⟩
end Go.Proofs.YtmibhbdfigpkmaaDoor
namespace Go.Proofs.YtmibhbdfigpkmaaDoor
open Go Go.Sep Go.Ab
set_option maxRecDepth 100000
def hdOk (h:Hd):Prop:=¬ (valsF h.fields rO≠[]∧(valsF h.fields wH≠[]∨h.length≠ -1∨1<(valsF h.fields rO).length))∧h.length≤4000∧∀ v ∈ valsF h.fields wH,numA v 10 9=(h.length,true)
theorem zbI (a:Str): ∀ (l:List Str) (n:Int),(sizM a n l).2=0→∀ v ∈ l,numA v 10 9=((sizM a n l).1,true)
  |[],_,_=>fun v h=>by cases h
  | s ::r,n,h=>by
    unfold sizM at h ⊢
    split at h
    · cases h
    split at h
    · cases h
    rename_i h1 h2
    rw [if_neg h1,if_neg h2]
    have h3:s=a:=Decidable.byContradiction h2
    have ih:=zbI a r _ h
    intro v hv
    rcases List.mem_cons.1 hv with rfl|hv
    · cases r with
      |nil=>simp only [sizM];cases hq:numA v 10 9;rw [hq] at h1;simp_all
      | cons x y=>
        have hx:=ih x (by simp)
        unfold sizM at h
        split at h
        · cases h
        split at h
        · cases h
        rename_i h4 h5
        have h6:x=a:=Decidable.byContradiction h5
        rw [show numA v 10 9=numA x 10 9 by rw [h3,h6]] at hx ⊢
        exact hx
    · exact ih v hv
theorem zfs {h:Hd} (k:(lenM h.minor h.fields).2=0):hdOk { h with length:=(lenM h.minor h.fields).1}:=by
  unfold hdOk
  simp only
  unfold lenM at k ⊢
  split at k
  · rename_i h1
    rw [if_pos h1]
    split at k
    · cases k
    rename_i h2
    split at k
    · cases k
    rename_i h3
    rw [if_neg h2,if_neg h3]
    have h4:valsF h.fields wH=[]:=Decidable.byContradiction fun hc=>h2 (Or.inl hc)
    refine⟨fun hc=> ?_,by decide,fun v hv=>by rw [h4] at hv;cases hv⟩
    rcases hc.2 with hc|hc|hc
    · exact hc h4
    · exact hc rfl
    · exact h3 (Or.inl hc)
  · rename_i h1
    rw [if_neg h1]
    split at k
    · rename_i h2;exact absurd k h2
    rename_i h2
    split at k
    · cases k
    rename_i h3
    rw [if_neg h2,if_neg h3]
    exact⟨fun hc=>h1 hc.1,by simp only;omega,zbI _ _ _ (Decidable.byContradiction h2)⟩
def auE (s:Option (Int × Nat)) (e:Evt) (t:Option (Int × Nat)):Prop:=
  if e.kind=1 then hdOk e.head∧t=some (e.head.length,0)
  else if e.kind=2 then match s with
    |none=>t=none
    |some (n,k)=>k+e.bytes.length≤4000∧(0≤n→((k+e.bytes.length:Nat):Int)≤n)∧t=some (n,k+e.bytes.length)
  else if e.kind=3 then(∀ n k,s=some (n,k)→0≤n→(k:Int)=n)∧t=none
  else t=none
def auL:Option (Int × Nat)→List Evt→Option (Int × Nat)→Prop
  |s,[],t=>s=t
  |s,e::l,t=>∃ u,auE s e u∧auL u l t
theorem xA: ∀ (a b:List Evt) (s t),auL s (a++b) t↔∃ u,auL s a u∧auL u b t
  |[],b,s,t=>⟨fun h=>⟨s,rfl,h⟩,fun⟨u,h1,h2⟩=>by cases h1;exact h2⟩
  | e ::a,b,s,t=>by
    constructor
    · rintro⟨u,h1,h2⟩
      obtain⟨v,h3,h4⟩:=(xA a b u t).1 h2
      exact⟨v,⟨u,h1,h3⟩,h4⟩
    · rintro⟨v,⟨u,h1,h3⟩,h4⟩
      exact⟨u,h1,(xA a b u t).2 ⟨v,h3,h4⟩⟩
theorem uV {s t:Option (Int × Nat)} {e:Evt}:auL s [e] t↔auE s e t:=⟨fun⟨u,h1,h2⟩=>by cases h2;exact h1,fun h=>⟨t,h,rfl⟩⟩
theorem zfO {s u t:Option (Int × Nat)} {x e:Evt} (hx:x.kind=2) (he:e.kind=2) (h1:auE s x u) (h2:auE u e t):auE s (evB (x.bytes++e.bytes)) t:=by
  unfold auE at *
  rw [if_neg (by rw [hx];decide),if_pos hx] at h1
  rw [if_neg (by rw [he];decide),if_pos he] at h2
  rw [if_neg (by show ¬ (2:Int)=1;decide),if_pos (by rfl)]
  cases s with
  | none=>
    simp only at h1 ⊢
    subst h1
    exact h2
  | some p=>
    obtain⟨n,k⟩:=p
    obtain⟨a,b,rfl⟩:=h1
    obtain⟨c,d,rfl⟩:=h2
    simp only [evB,List.length_append]
    refine⟨by omega,fun h=> ?_,by rw [Nat.add_assoc]⟩
    have:=d h
    omega
theorem zdn {o:List Evt} {e:Evt} {s t:Option (Int × Nat)} (h:auL s (o++[e]) t):auL s (uP o e) t:=by
  rcases List.eq_nil_or_concat o with rfl|⟨z,x,rfl⟩
  · exact h
  · rw [List.concat_eq_append] at h ⊢
    rw [vK]
    split
    · rename_i hk
      rw [List.append_assoc] at h
      obtain⟨u,h1,v,h2,w,h3,rfl⟩:=(xA z _ s t).1 h
      exact(xA z _ s _).2 ⟨u,h1,uV.2 (zfO hk.2 hk.1 h2 h3)⟩
    · exact h
theorem zaA: ∀ (l o:List Evt) (s t:Option (Int × Nat)),auL s (o++l) t→auL s (l.foldl uP o) t
  |[],o,s,t,h=>by rw [List.append_nil] at h;exact h
  | e::l,o,s,t,h=>by
    rw [List.foldl_cons]
    refine zaA l _ s t ?_
    rw [show o++e::l=(o++[e])++l by simp] at h
    obtain⟨u,h1,h2⟩:=(xA _ _ s t).1 h
    exact(xA _ _ s t).2 ⟨u,zdn h1,h2⟩
def ChB (c:Ch):Prop:=0≤c.all∧c.all≤4000∧(c.pos=1→1≤c.left∧c.all+c.left≤4000)
theorem zgT:ChB ch0:=by unfold ChB;decide
theorem zgQ {s:Ch} (h:ChB s) (hp:s.pos≠1) (t:Str):(chL s t).1.all=s.all∧((chL s t).2=0→ChB (chL s t).1):=by
  obtain⟨h1,h2,h3⟩:=h
  have hn:=uD t
  unfold chL
  repeat' split
  all_goals first
    |exact⟨rfl,fun k=>absurd k (by decide)⟩
    |exact⟨rfl,fun _=>⟨h1,h2,fun k=>absurd k (by decide)⟩⟩
    |exact⟨rfl,fun _=>⟨h1,h2,fun k=>absurd k hp⟩⟩
    |exact⟨rfl,fun _=>⟨h1,h2,fun k=>by simp only at k ⊢;omega⟩⟩
theorem zgS {s:Ch} (h:ChB s) (c:UInt8):((chF s c).1.all=s.all+((chF s c).2.1.length:Nat))∧((chF s c).2.1.length:Int)+s.all≤4000∧((chF s c).2.2.2=0→ChB (chF s c).1):=by
  have h0:=h
  obtain⟨h1,h2,h3⟩:=h
  unfold chF
  split
  · rename_i hc;exact⟨by simp,by simp;omega,fun k=>absurd k hc⟩
  split
  · exact⟨by simp,by simp;omega,fun k=>by simp at k⟩
  split
  · rename_i hp
    have h3:=h3 hp
    refine⟨by simp,by simp;omega,fun _=>⟨by simp only;omega,by simp only;omega,fun k=> ?_⟩⟩
    simp only at k ⊢
    split at k
    · cases k
    · omega
  rename_i hp
  split
  · rename_i hz;exact⟨by simp,by simp;omega,fun k=>absurd k hz⟩
  split
  · have hb:ChB { s with ln:=(lnF s.ln c).1}:=h0
    have hl:=zgQ hb hp (lnF s.ln c).2.1
    split
    · rename_i hz;exact⟨by simp;exact hl.1,by simp;omega,fun k=>absurd k hz⟩
    · rename_i hz;exact⟨by simp;exact hl.1,by simp;omega,fun _=>hl.2 (Decidable.byContradiction hz)⟩
  · exact⟨by simp,by simp;omega,fun _=>h0⟩
def RqK (q:Rq) (s:Option (Int × Nat)):Prop:=
  (q.pos=2→∃ n k,s=some (n,k)∧0≤n∧n≤4000∧(k:Int)+q.left=n∧1≤q.left)∧
  (q.pos=3→∃ ch k,q.ck=some ch∧ChB ch∧s=some (-1,k)∧(k:Int)=ch.all)
theorem wZ {q:Rq} (h:q.pos=0∨q.pos=1∨q.pos=4) (s:Option (Int × Nat)):RqK q s:=⟨fun k=>by omega,fun k=>by omega⟩
theorem zd4 {q:Rq} {s:Option (Int × Nat)} (h:auL none q.out s): ∃ t,auL none (zO q).1.out t∧((zO q).2=0→RqK (zO q).1 t):=by
  unfold zO
  split
  · exact⟨s,h,fun k=>by simp at k⟩
  split
  · rename_i hz;exact⟨s,h,fun k=>absurd k hz⟩
  rename_i hz
  have hz:(lenM q.h.minor q.h.fields).2=0:=Decidable.byContradiction hz
  have hk:=zfs hz
  have hl:=Vw q.h.minor q.h.fields
  generalize(lenM q.h.minor q.h.fields).1=n at *
  have hH:auE s (evH { q.h with length:=n}) (some (n,0)):=by
    unfold auE
    rw [if_pos (by rfl)]
    exact⟨hk,rfl⟩
  split
  · rename_i h0
    subst h0
    refine⟨none,?_,fun _=>wZ (Or.inl rfl) _⟩
    refine(xA _ _ _ _).2 ⟨some (0,0),(xA _ _ _ _).2 ⟨s,h,uV.2 hH⟩,uV.2 ?_⟩
    unfold auE
    rw [if_neg (by show ¬ (3:Int)=1;decide),if_neg (by show ¬ (3:Int)=2;decide),if_pos (by rfl)]
    exact⟨fun n k e _=>by cases e;rfl,rfl⟩
  split
  · rename_i h0 h1
    exact⟨some (n,0),(xA _ _ _ _).2 ⟨s,h,uV.2 hH⟩,fun _=>⟨fun _=>⟨n,0,rfl,by omega,by omega,by simp,by simp only;omega⟩,fun k=>by simp at k⟩⟩
  · rename_i h0 h1
    have hn:n= -1:=by omega
    subst hn
    exact⟨some (-1,0),(xA _ _ _ _).2 ⟨s,h,uV.2 hH⟩,fun _=>⟨fun k=>by simp at k,fun _=>⟨ch0,0,rfl,zgT,rfl,rfl⟩⟩⟩
theorem zdS {q:Rq} {s:Option (Int × Nat)} (hp:q.pos=0∨q.pos=1) (h:auL none q.out s) (x:Str): ∃ t,auL none (zF q x).1.out t∧((zF q x).2=0→RqK (zF q x).1 t):=by
  have hd:=zd4 h
  have hp3:q.pos=0∨q.pos=1∨q.pos=4:=by omega
  unfold zF
  repeat' split
  all_goals first
    |exact hd
    |exact⟨s,h,fun _=>wZ hp3 _⟩
    |exact⟨s,h,fun _=>wZ (Or.inr (Or.inl rfl)) _⟩
theorem zgJ {q:Rq} {s:Option (Int × Nat)} (h:auL none q.out s) (k:RqK q s) (c:UInt8): ∃ t,auL none (rqF q c).out t∧RqK (rqF q c) t:=by
  have hF: ∀ (o:List Evt) (u:Option (Int × Nat)) (e:Int),auL none o u→auL none (o++[evF e]) none:=fun o u e hu=>(xA _ _ _ _).2 ⟨u,hu,uV.2 (by unfold auE;rw [if_neg (by show ¬ (4:Int)=1;decide),if_neg (by show ¬ (4:Int)=2;decide),if_neg (by show ¬ (4:Int)=3;decide)])⟩
  have hE: ∀ (o:List Evt) (n:Int) (j:Nat),auL none o (some (n,j))→(0≤n→(j:Int)=n)→auL none (o++[evE]) none:=fun o n j hu hj=>(xA _ _ _ _).2 ⟨_,hu,uV.2 (by unfold auE;rw [if_neg (by show ¬ (3:Int)=1;decide),if_neg (by show ¬ (3:Int)=2;decide),if_pos (by rfl)];exact⟨fun n' k' e=>by cases e;exact hj,rfl⟩)⟩
  have hB: ∀ (o:List Evt) (n:Int) (j:Nat) (b:Str),auL none o (some (n,j))→j+b.length≤4000→(0≤n→((j+b.length:Nat):Int)≤n)→auL none (o++[evB b]) (some (n,j+b.length)):=fun o n j b hu h1 h2=>(xA _ _ _ _).2 ⟨_,hu,uV.2 (by unfold auE;rw [if_neg (by show ¬ (2:Int)=1;decide),if_pos (by rfl)];exact⟨h1,h2,rfl⟩)⟩
  unfold rqF
  split
  · rename_i hp
    obtain⟨n,j,rfl,h1,h2,h3,h4⟩:=k.1 hp
    have hb:=hB q.out n j [c] h (by simp;omega) (fun _=>by simp;omega)
    split
    · rename_i h5
      exact⟨none,hE _ _ _ hb (fun _=>by simp;omega),wZ (Or.inl rfl) _⟩
    · rename_i h5
      exact⟨_,hb,fun _=>⟨n,j+1,rfl,h1,h2,by simp only;omega,by simp only;omega⟩,fun k=>by simp only at k;omega⟩
  split
  · rename_i hp2 hp
    obtain⟨ch,j,hc,hcb,rfl,hj⟩:=k.2 hp
    have hck:ckOf q=ch:=by unfold ckOf;rw [hc]
    rw [hck]
    have hf:=zgS hcb c
    generalize chF ch c=z at *
    obtain⟨z,d,ov,e⟩:=z
    simp only at hf ⊢
    obtain⟨f1,f2,f3⟩:=hf
    have hd:auL none (if d≠[] then q.out++[evB d] else q.out) (some (-1,j+d.length)):=by
      split
      · exact hB q.out (-1) j d h (by omega) (fun h=>absurd h (by decide))
      · rename_i hx
        have hx:d=[]:=Decidable.byContradiction hx
        subst hx
        exact h
    split
    · exact⟨none,hF _ _ _ h,wZ (Or.inr (Or.inr rfl)) _⟩
    rename_i he
    have he:e=0:=Decidable.byContradiction he
    split
    · exact⟨none,hE _ _ _ hd (fun h=>absurd h (by decide)),wZ (Or.inl rfl) _⟩
    · exact⟨_,hd,fun k=>absurd k hp2,fun _=>⟨z,j+d.length,rfl,f3 he,rfl,by rw [f1];omega⟩⟩
  split
  · rename_i hp
    have hl:=zdS (q:= { q with ln:=(lnF q.ln c).1}) hp h (lnF q.ln c).2.1
    obtain⟨t,ht,hk⟩:=hl
    split
    · exact⟨none,hF _ _ _ h,wZ (Or.inr (Or.inr rfl)) _⟩
    split
    · split
      · exact⟨none,hF _ _ _ ht,wZ (Or.inr (Or.inr rfl)) _⟩
      · rename_i hz
        exact⟨t,ht,hk (Decidable.byContradiction hz)⟩
    · exact⟨s,h,wZ (by simp only;omega) _⟩
  · exact⟨s,h,k⟩
theorem zbS: ∀ (b:Str) (q:Rq) (s:Option (Int × Nat)),auL none q.out s→RqK q s→∃ t,auL none (sW q b).out t∧RqK (sW q b) t
  |[],q,s,h,k=>⟨s,h,k⟩
  | c::b,q,s,h,k=>by
    obtain⟨t,h1,h2⟩:=zgJ h k c
    exact zbS b _ t h1 h2
theorem zdY (b:Str): ∃ t,auL none (yj (yc rq0 b).out) t:=by
  obtain⟨t,h,-⟩:=zbS b { rq0 with out:=[]} none rfl (wZ (Or.inl rfl) _)
  exact⟨t,zaA _ _ _ _ h⟩
def behind (h:Hd) (l:List Evt):Prop:=
  match l with
  |[]=>True
  | x::r=>if x.kind=2 then x.bytes.length≤4000∧(0≤h.length→(x.bytes.length:Int)≤h.length)∧(match r with|[]=>True|y::_=>y.kind=3→0≤h.length→(x.bytes.length:Int)=h.length)
    else if x.kind=3 then 0≤h.length→h.length=0 else True
theorem zeV: ∀ (l:List Evt) (s t:Option (Int × Nat)),auL s l t→∀ i e,l[i]? =some e→e.kind=1→hdOk e.head∧behind e.head (l.drop (i+1))
  |[],_,_,_=>fun i e he=>by simp at he
  | x :: l, s,t,⟨u,h1,h2⟩=>by
    intro i e he hk
    cases i with
    |succ i=>exact zeV l u t h2 i e (by simpa using he) hk
    | zero=>
      simp only [List.getElem?_cons_zero,Option.some.injEq] at he
      subst he
      unfold auE at h1
      rw [if_pos hk] at h1
      obtain⟨a,rfl⟩:=h1
      refine⟨a,?_⟩
      simp only [List.drop_succ_cons,List.drop_zero]
      cases l with
      |nil=>trivial
      | cons y r=>
        obtain⟨v,h3,h4⟩:=h2
        unfold auE at h3
        unfold behind
        dsimp only
        by_cases hy1:y.kind=1
        · rw [if_neg (by omega),if_neg (by omega)];trivial
        rw [if_neg hy1] at h3
        by_cases hy2:y.kind=2
        · rw [if_pos hy2] at h3 ⊢
          obtain⟨b1,b2,rfl⟩:=h3
          refine⟨by omega,fun h=>by have:=b2 h;omega,?_⟩
          cases r with
          |nil=>trivial
          | cons z r=>
            obtain⟨w,h5,-⟩:=h4
            intro hz hh
            unfold auE at h5
            rw [if_neg (by omega),if_neg (by omega),if_pos hz] at h5
            have:=h5.1 _ _ rfl hh
            omega
        · rw [if_neg hy2] at h3 ⊢
          by_cases hy3:y.kind=3
          · rw [if_pos hy3] at h3 ⊢
            intro hh
            have:=h3.1 _ _ rfl hh
            omega
          · rw [if_neg hy3];trivial
end Go.Proofs.YtmibhbdfigpkmaaDoor
namespace Go.Proofs.YtmibhbdfigpkmaaDoor
open Go Go.Sep Go.Ab
set_option maxRecDepth 100000
theorem zaU (q:Rq):zV (zO q).1.out≤zV q.out:=by
  unfold zO yX
  repeat' split
  all_goals simp [zV,evH,evE]
theorem zaS (q:Rq) (s:Str):zV (zF q s).1.out≤zV q.out:=by
  have hd:=zaU q
  unfold zF
  repeat' split
  all_goals first|exact hd|exact Nat.le_refl _
theorem Vl (q:Rq) (c:UInt8):zV (rqF q c).out≤zV q.out+1:=by
  have hl:=zaS { q with ln:=(lnF q.ln c).1} (lnF q.ln c).2.1
  have hd:=(zeu (s:=ckOf q) (c:=c)).1
  unfold rqF
  split
  · split
    · simp only [yX,yI,yP,evB,evE,List.length_cons,List.length_nil];omega
    · simp only [yI,yP,evB,List.length_cons,List.length_nil];omega
  split
  · split
    · simp only [yD,yI,yP,evF,List.length_nil];omega
    split
    · simp only [yX,yI,yP,evE,List.length_nil]
      split
      · simp only [yI,yP,evB];omega
      · omega
    · show zV (if(chF (ckOf q) c).2.1≠[] then q.out++[evB (chF (ckOf q) c).2.1] else q.out)≤_
      split
      · simp only [yI,yP,evB];omega
      · omega
  split
  · split
    · simp only [yD,yI,yP,evF,List.length_nil];omega
    split
    · split
      · simp only [yD,yI,yP,evF,List.length_nil];simp only at hl;omega
      · simp only at hl;omega
    · exact Nat.le_succ _
  · exact Nat.le_succ _
def rqAt (q:Rq) (b:Str) (n i:Nat):Prop:=RqI (sW { q with out:=[]} (b.take i)) (n+i)∧zV (sW { q with out:=[]} (b.take i)).out≤i
theorem Qv {q:Rq} {n:Nat} (h:RqI { q with out:=[]} n) (b:Str):rqAt q b n 0:=⟨h,by simp [sW,zV]⟩
theorem Vk (q:Rq) (b:Str) {i:Nat} (h:i<b.length):sW q (b.take (i+1))=rqF (sW q (b.take i)) (b.getD i 0):=by
  rw [show b.getD i 0=b[i] by simp [h],List.take_succ_eq_append_getElem h]
  unfold sW
  rw [List.foldl_append]
  rfl
def rqN0 (q:Rq) (b:Str):Prop:=∃ n,RqI { q with out:=[]} n∧n+b.length≤1000000
theorem zbZ (ln:Ln) (p:Int) (m tg:Str) (hm:Int) (hf:List Fld) (hl le:Int) (out:List Evt) (b:Str) (hneed:rqN0 ⟨ln,p,⟨m,tg,hm,hf,hl⟩,le,none,true,out⟩ b):Spc Tryd.prog 6 [.v (.one (.ptr 0 0)),.v (.one (.p (.list .byte b)))] [.abs (.rq ⟨ln,p,⟨m,tg,hm,hf,hl⟩,le,none,true,out⟩)] (.ret (.v (.one (.row 1)))) [.abs (.rq ((yc ⟨ln,p,⟨m,tg,hm,hf,hl⟩,le,none,true,out⟩ b))),.row .evt 34 ((yj (yc ⟨ln,p,⟨m,tg,hm,hf,hl⟩,le,none,true,out⟩ b).out))]:=by
  obtain⟨n,hI0,hnb⟩:=hneed
  have hat:=Qv hI0 b
  refine spcG zx mixed Tryd.func6 (by kernel_rfl) { cfgQ with fz:=[],keep:=some [0,1,4,6,10,11,12]} [xK,xJ,xI,xH] (by kernel_rfl) ?_
  intro I X hI hX
  refine zi (.code 0 [1,1,0,1,0] ⟨[(12,(.v (.one (.p (.int .i64 0))))),(11,(.v (.one (.p (.int .i64 (I.len (α:=UInt8) b)))))),(10,(.v (.one (.p (.list .byte b))))),(4,(.v (.one .nilS))),(0,(.v (.one (.ptr 0 0)))),(1,(.v (.one (.p (.list .byte b)))))],[(.obj 48 [(.ptr 1 0),(.p (.int .i64 p)),(.p (.str m)),(.p (.str tg)),(.p (.int .i64 hm)),(.row 2),(.p (.int .i64 hl)),(.p (.int .i64 le)),(.p (.val (.pointer .none))),.nilS]),(.pack [(.obj 61 [(.row 1),(.p (.bool (Go.Ab.Ln.cr ln))),(.p (.int .i64 (Go.Ab.Ln.code ln)))]),(.row .byte 5 (Go.Ab.Ln.b ln))]),(.row .fld 43 hf),(.row .evt 34 out)],25,none⟩) (by kernel_rfl) ?_
  simp only [zB]
  have hr:({ (⟨ln,p,⟨m,tg,hm,hf,hl⟩,le,none,true,out⟩:Rq) with out:=[]}:Rq)=(⟨ln,p,⟨m,tg,hm,hf,hl⟩,le,none,true,[]⟩:Rq):=rfl
  unfold rqAt at hat
  unfold yc
  rw [hr] at hat ⊢
  refine zZ hI zx mixed [xK,xJ,xI,xH] hX [0,1,10,11,12] (fun(g:Nat × Rq)=>match g with|(i,r)=>i≤b.length∧r=sW (⟨ln,p,⟨m,tg,hm,hf,hl⟩,le,none,true,[]⟩:Rq) (b.take i)∧RqI r (n+i)∧zV r.out≤i) (fun(g:Nat × Rq)=>match g with|(i,r)=>⟨[(0,.v (.one (.ptr 0 0))),(1,.v (.one (.p (.list .byte b)))),(10,.v (.one (.p (.list .byte b)))),(11,.v (.one (.p (.int .i64 ((I.len (α:=UInt8) b)))))),(12,.v (.one (.p (.int .i64 i))))],[.abs (.rq r)],25,none⟩) (fun(g:Nat × Rq)=>match g with|(i,r)=>b.length - i) (0,(⟨ln,p,⟨m,tg,hm,hf,hl⟩,le,none,true,[]⟩:Rq)) (by kernel_rfl) (by kernel_rfl) ?_ ?_
  · exact⟨Nat.zero_le _,rfl,hat.1,hat.2⟩
  rintro⟨i,⟨ln2,p2,⟨m2,t2,hm2,hf2,hl2⟩,le2,ck2,own2,out2⟩⟩ ⟨h1,h2,h3,h4⟩ A hA
  simp only at hA h1 h2 h3 h4
  have hrn:i<b.length→rqN _:=fun h=>⟨n+i,by omega,h3⟩
  have hgo:i<b.length→_:=fun h=>hA (i+1,rqF ⟨ln2,p2,⟨m2,t2,hm2,hf2,hl2⟩,le2,ck2,own2,out2⟩ (b.getD i 0)) ⟨by simp only;omega,by simp only;rw [Vk _ _ h,← h2],by simp only;exact zaT h3 _,by simp only;have:=Vl ⟨ln2,p2,⟨m2,t2,hm2,hf2,hl2⟩,le2,ck2,own2,out2⟩ (b.getD i 0);simp only at this;omega⟩ (by simp only;omega)
  have hend: ¬ i<b.length→_:=fun h=>h2.trans (by rw [List.take_of_length_le (by omega)])
  rcases ck2 with _|ch2<;>rcases own2 with _|_
  · have h0:=h1
    refine zi (let y0:=I.b2i (I.get (α:=UInt8) b 0 (Nat.cast i));let y1:=I.inb (Nat.cast i) (I.len (α:=UInt8) b);.br (I.ilt (Nat.cast i) (I.len (α:=UInt8) b)) (.need y1 (.need y1 (.need (I.hid (α:=(Prop)) (And (rqN (Go.Ab.Rq.mk ln2 p2 (Hd.mk m2 t2 hm2 hf2 hl2) le2 (Option.none) Bool.false out2)) (And (LE.le (0:Int) y0) (LE.le y0 (255:Int))))) (.need (I.inr Go.IntKind.i64 (I.add (Nat.cast i) 1)) (.need (A ⟨[(0,(.v (.one (.ptr 0 0)))),(1,(.v (.one (.p (.list .byte b))))),(10,(.v (.one (.p (.list .byte b))))),(11,(.v (.one (.p (.int .i64 (I.len (α:=UInt8) b)))))),(12,(.v (.one (.p (.int .i64 (I.add (Nat.cast i) 1))))))],[(.abs (.rq (I.hid (α:=Go.Ab.Rq) (rqF (Go.Ab.Rq.mk ln2 p2 (Hd.mk m2 t2 hm2 hf2 hl2) le2 (Option.none) Bool.false out2) (UInt8.ofNat (Int.toNat y0))))))],25,none⟩) .qed))))) (.need (I.hid (α:=(Prop)) (And (LE.le (zV out2) 1000000) (LE.le (List.length out2) 10000000))) (.fin (.ret (.v (.one (.row 1)))) [(.abs (.rq (Go.Ab.Rq.mk (Go.Ab.Ln.mk (Go.Ab.Ln.b ln2) (Go.Ab.Ln.cr ln2) (Go.Ab.Ln.code ln2)) p2 (Hd.mk m2 t2 hm2 hf2 hl2) le2 (Option.none) Bool.false out2))),(.row .evt 34 (I.hid (α:=(List Go.Ab.Evt)) (yj out2)))]))) (by kernel_rfl) ?_
    simp only [zB]
    subst hI
    simp only [nrmA,nrmB,nrlB,reduceCtorEq,HO.abs.injEq,Gh.rq.injEq,Rq.mk.injEq]
    by_cases hi:i<b.length
    · have hg:=hgo hi
      have hn:=hrn hi
      (repeat' (first|refine And.intro ?_ ?_|intro _))<;>first|omega|exact True.intro|exact False.elim ‹False›|skip
      all_goals first|omega|exact hg|exact hn|contradiction|(have:=(b.getD i 0).toNat_lt;omega)|trace_state
    · have hg:=hend hi
      rw [← hg]
      have hon:=h3.on
      simp only at hon
      (repeat' (first|refine And.intro ?_ ?_|intro _))<;>first|omega|exact True.intro|exact False.elim ‹False›|skip
      all_goals first|omega|rfl|contradiction|exact⟨by omega,by omega⟩|trace_state
  · have h0:=h1
    refine zi (let y0:=I.b2i (I.get (α:=UInt8) b 0 (Nat.cast i));let y1:=I.inb (Nat.cast i) (I.len (α:=UInt8) b);.br (I.ilt (Nat.cast i) (I.len (α:=UInt8) b)) (.need y1 (.need y1 (.need (I.hid (α:=(Prop)) (And (rqN (Go.Ab.Rq.mk ln2 p2 (Hd.mk m2 t2 hm2 hf2 hl2) le2 (Option.none) Bool.true out2)) (And (LE.le (0:Int) y0) (LE.le y0 (255:Int))))) (.need (I.inr Go.IntKind.i64 (I.add (Nat.cast i) 1)) (.need (A ⟨[(0,(.v (.one (.ptr 0 0)))),(1,(.v (.one (.p (.list .byte b))))),(10,(.v (.one (.p (.list .byte b))))),(11,(.v (.one (.p (.int .i64 (I.len (α:=UInt8) b)))))),(12,(.v (.one (.p (.int .i64 (I.add (Nat.cast i) 1))))))],[(.abs (.rq (I.hid (α:=Go.Ab.Rq) (rqF (Go.Ab.Rq.mk ln2 p2 (Hd.mk m2 t2 hm2 hf2 hl2) le2 (Option.none) Bool.true out2) (UInt8.ofNat (Int.toNat y0))))))],25,none⟩) .qed))))) (.need (I.hid (α:=(Prop)) (And (LE.le (zV out2) 1000000) (LE.le (List.length out2) 10000000))) (.fin (.ret (.v (.one (.row 1)))) [(.abs (.rq (Go.Ab.Rq.mk (Go.Ab.Ln.mk (Go.Ab.Ln.b ln2) (Go.Ab.Ln.cr ln2) (Go.Ab.Ln.code ln2)) p2 (Hd.mk m2 t2 hm2 hf2 hl2) le2 (Option.none) Bool.true out2))),(.row .evt 34 (I.hid (α:=(List Go.Ab.Evt)) (yj out2)))]))) (by kernel_rfl) ?_
    simp only [zB]
    subst hI
    simp only [nrmA,nrmB,nrlB,reduceCtorEq,HO.abs.injEq,Gh.rq.injEq,Rq.mk.injEq]
    by_cases hi:i<b.length
    · have hg:=hgo hi
      have hn:=hrn hi
      (repeat' (first|refine And.intro ?_ ?_|intro _))<;>first|omega|exact True.intro|exact False.elim ‹False›|skip
      all_goals first|omega|exact hg|exact hn|contradiction|(have:=(b.getD i 0).toNat_lt;omega)|trace_state
    · have hg:=hend hi
      rw [← hg]
      have hon:=h3.on
      simp only at hon
      (repeat' (first|refine And.intro ?_ ?_|intro _))<;>first|omega|exact True.intro|exact False.elim ‹False›|skip
      all_goals first|omega|rfl|contradiction|exact⟨by omega,by omega⟩|trace_state
  · have h0:=h1
    refine zi (let y0:=I.b2i (I.get (α:=UInt8) b 0 (Nat.cast i));let y1:=I.inb (Nat.cast i) (I.len (α:=UInt8) b);.br (I.ilt (Nat.cast i) (I.len (α:=UInt8) b)) (.need y1 (.need y1 (.need (I.hid (α:=(Prop)) (And (rqN (Go.Ab.Rq.mk ln2 p2 (Hd.mk m2 t2 hm2 hf2 hl2) le2 (Option.some ch2) Bool.false out2)) (And (LE.le (0:Int) y0) (LE.le y0 (255:Int))))) (.need (I.inr Go.IntKind.i64 (I.add (Nat.cast i) 1)) (.need (A ⟨[(0,(.v (.one (.ptr 0 0)))),(1,(.v (.one (.p (.list .byte b))))),(10,(.v (.one (.p (.list .byte b))))),(11,(.v (.one (.p (.int .i64 (I.len (α:=UInt8) b)))))),(12,(.v (.one (.p (.int .i64 (I.add (Nat.cast i) 1))))))],[(.abs (.rq (I.hid (α:=Go.Ab.Rq) (rqF (Go.Ab.Rq.mk ln2 p2 (Hd.mk m2 t2 hm2 hf2 hl2) le2 (Option.some ch2) Bool.false out2) (UInt8.ofNat (Int.toNat y0))))))],25,none⟩) .qed))))) (.need (I.hid (α:=(Prop)) (And (LE.le (zV out2) 1000000) (LE.le (List.length out2) 10000000))) (.fin (.ret (.v (.one (.row 1)))) [(.abs (.rq (Go.Ab.Rq.mk (Go.Ab.Ln.mk (Go.Ab.Ln.b ln2) (Go.Ab.Ln.cr ln2) (Go.Ab.Ln.code ln2)) p2 (Hd.mk m2 t2 hm2 hf2 hl2) le2 (Option.some (Go.Ab.Ch.mk (Go.Ab.Ln.mk (Go.Ab.Ln.b (Go.Ab.Ch.ln ch2)) (Go.Ab.Ln.cr (Go.Ab.Ch.ln ch2)) (Go.Ab.Ln.code (Go.Ab.Ch.ln ch2))) (Go.Ab.Ch.pos ch2) (Go.Ab.Ch.left ch2) (Go.Ab.Ch.all ch2) (Go.Ab.Ch.tails ch2) (Go.Ab.Ch.code ch2))) Bool.false out2))),(.row .evt 34 (I.hid (α:=(List Go.Ab.Evt)) (yj out2)))]))) (by kernel_rfl) ?_
    simp only [zB]
    subst hI
    simp only [nrmA,nrmB,nrlB,reduceCtorEq,HO.abs.injEq,Gh.rq.injEq,Rq.mk.injEq]
    by_cases hi:i<b.length
    · have hg:=hgo hi
      have hn:=hrn hi
      (repeat' (first|refine And.intro ?_ ?_|intro _))<;>first|omega|exact True.intro|exact False.elim ‹False›|skip
      all_goals first|omega|exact hg|exact hn|contradiction|(have:=(b.getD i 0).toNat_lt;omega)|trace_state
    · have hg:=hend hi
      rw [← hg]
      have hon:=h3.on
      simp only at hon
      (repeat' (first|refine And.intro ?_ ?_|intro _))<;>first|omega|exact True.intro|exact False.elim ‹False›|skip
      all_goals first|omega|rfl|contradiction|exact⟨by omega,by omega⟩|trace_state
  · have h0:=h1
    refine zi (let y0:=I.b2i (I.get (α:=UInt8) b 0 (Nat.cast i));let y1:=I.inb (Nat.cast i) (I.len (α:=UInt8) b);.br (I.ilt (Nat.cast i) (I.len (α:=UInt8) b)) (.need y1 (.need y1 (.need (I.hid (α:=(Prop)) (And (rqN (Go.Ab.Rq.mk ln2 p2 (Hd.mk m2 t2 hm2 hf2 hl2) le2 (Option.some ch2) Bool.true out2)) (And (LE.le (0:Int) y0) (LE.le y0 (255:Int))))) (.need (I.inr Go.IntKind.i64 (I.add (Nat.cast i) 1)) (.need (A ⟨[(0,(.v (.one (.ptr 0 0)))),(1,(.v (.one (.p (.list .byte b))))),(10,(.v (.one (.p (.list .byte b))))),(11,(.v (.one (.p (.int .i64 (I.len (α:=UInt8) b)))))),(12,(.v (.one (.p (.int .i64 (I.add (Nat.cast i) 1))))))],[(.abs (.rq (I.hid (α:=Go.Ab.Rq) (rqF (Go.Ab.Rq.mk ln2 p2 (Hd.mk m2 t2 hm2 hf2 hl2) le2 (Option.some ch2) Bool.true out2) (UInt8.ofNat (Int.toNat y0))))))],25,none⟩) .qed))))) (.need (I.hid (α:=(Prop)) (And (LE.le (zV out2) 1000000) (LE.le (List.length out2) 10000000))) (.fin (.ret (.v (.one (.row 1)))) [(.abs (.rq (Go.Ab.Rq.mk (Go.Ab.Ln.mk (Go.Ab.Ln.b ln2) (Go.Ab.Ln.cr ln2) (Go.Ab.Ln.code ln2)) p2 (Hd.mk m2 t2 hm2 hf2 hl2) le2 (Option.some (Go.Ab.Ch.mk (Go.Ab.Ln.mk (Go.Ab.Ln.b (Go.Ab.Ch.ln ch2)) (Go.Ab.Ln.cr (Go.Ab.Ch.ln ch2)) (Go.Ab.Ln.code (Go.Ab.Ch.ln ch2))) (Go.Ab.Ch.pos ch2) (Go.Ab.Ch.left ch2) (Go.Ab.Ch.all ch2) (Go.Ab.Ch.tails ch2) (Go.Ab.Ch.code ch2))) Bool.true out2))),(.row .evt 34 (I.hid (α:=(List Go.Ab.Evt)) (yj out2)))]))) (by kernel_rfl) ?_
    simp only [zB]
    subst hI
    simp only [nrmA,nrmB,nrlB,reduceCtorEq,HO.abs.injEq,Gh.rq.injEq,Rq.mk.injEq]
    by_cases hi:i<b.length
    · have hg:=hgo hi
      have hn:=hrn hi
      (repeat' (first|refine And.intro ?_ ?_|intro _))<;>first|omega|exact True.intro|exact False.elim ‹False›|skip
      all_goals first|omega|exact hg|exact hn|contradiction|(have:=(b.getD i 0).toNat_lt;omega)|trace_state
    · have hg:=hend hi
      rw [← hg]
      have hon:=h3.on
      simp only at hon
      (repeat' (first|refine And.intro ?_ ?_|intro _))<;>first|omega|exact True.intro|exact False.elim ‹False›|skip
      all_goals first|omega|rfl|contradiction|exact⟨by omega,by omega⟩|trace_state
theorem zb0 (ln:Ln) (p:Int) (m tg:Str) (hm:Int) (hf:List Fld) (hl le:Int) (out:List Evt) (b:Str) (hneed:rqN0 ⟨ln,p,⟨m,tg,hm,hf,hl⟩,le,none,false,out⟩ b):Spc Tryd.prog 6 [.v (.one (.ptr 0 0)),.v (.one (.p (.list .byte b)))] [.abs (.rq ⟨ln,p,⟨m,tg,hm,hf,hl⟩,le,none,false,out⟩)] (.ret (.v (.one (.row 1)))) [.abs (.rq ((yc ⟨ln,p,⟨m,tg,hm,hf,hl⟩,le,none,false,out⟩ b))),.row .evt 34 ((yj (yc ⟨ln,p,⟨m,tg,hm,hf,hl⟩,le,none,false,out⟩ b).out))]:=by
  obtain⟨n,hI0,hnb⟩:=hneed
  have hat:=Qv hI0 b
  refine spcG zx mixed Tryd.func6 (by kernel_rfl) { cfgQ with fz:=[],keep:=some [0,1,4,6,10,11,12]} [xK,xJ,xI,xH] (by kernel_rfl) ?_
  intro I X hI hX
  refine zi (.code 0 [1,1,0,1,0] ⟨[(12,(.v (.one (.p (.int .i64 0))))),(11,(.v (.one (.p (.int .i64 (I.len (α:=UInt8) b)))))),(10,(.v (.one (.p (.list .byte b))))),(4,(.v (.one .nilS))),(0,(.v (.one (.ptr 0 0)))),(1,(.v (.one (.p (.list .byte b)))))],[(.obj 48 [(.ptr 1 0),(.p (.int .i64 p)),(.p (.str m)),(.p (.str tg)),(.p (.int .i64 hm)),(.p (.list .fld hf)),(.p (.int .i64 hl)),(.p (.int .i64 le)),(.p (.val (.pointer .none))),.nilS]),(.pack [(.obj 61 [(.row 1),(.p (.bool (Go.Ab.Ln.cr ln))),(.p (.int .i64 (Go.Ab.Ln.code ln)))]),(.row .byte 5 (Go.Ab.Ln.b ln))]),(.row .evt 34 out)],25,none⟩) (by kernel_rfl) ?_
  simp only [zB]
  have hr:({ (⟨ln,p,⟨m,tg,hm,hf,hl⟩,le,none,false,out⟩:Rq) with out:=[]}:Rq)=(⟨ln,p,⟨m,tg,hm,hf,hl⟩,le,none,false,[]⟩:Rq):=rfl
  unfold rqAt at hat
  unfold yc
  rw [hr] at hat ⊢
  refine zZ hI zx mixed [xK,xJ,xI,xH] hX [0,1,10,11,12] (fun(g:Nat × Rq)=>match g with|(i,r)=>i≤b.length∧r=sW (⟨ln,p,⟨m,tg,hm,hf,hl⟩,le,none,false,[]⟩:Rq) (b.take i)∧RqI r (n+i)∧zV r.out≤i) (fun(g:Nat × Rq)=>match g with|(i,r)=>⟨[(0,.v (.one (.ptr 0 0))),(1,.v (.one (.p (.list .byte b)))),(10,.v (.one (.p (.list .byte b)))),(11,.v (.one (.p (.int .i64 ((I.len (α:=UInt8) b)))))),(12,.v (.one (.p (.int .i64 i))))],[.abs (.rq r)],25,none⟩) (fun(g:Nat × Rq)=>match g with|(i,r)=>b.length - i) (0,(⟨ln,p,⟨m,tg,hm,hf,hl⟩,le,none,false,[]⟩:Rq)) (by kernel_rfl) (by kernel_rfl) ?_ ?_
  · exact⟨Nat.zero_le _,rfl,hat.1,hat.2⟩
  rintro⟨i,⟨ln2,p2,⟨m2,t2,hm2,hf2,hl2⟩,le2,ck2,own2,out2⟩⟩ ⟨h1,h2,h3,h4⟩ A hA
  simp only at hA h1 h2 h3 h4
  have hrn:i<b.length→rqN _:=fun h=>⟨n+i,by omega,h3⟩
  have hgo:i<b.length→_:=fun h=>hA (i+1,rqF ⟨ln2,p2,⟨m2,t2,hm2,hf2,hl2⟩,le2,ck2,own2,out2⟩ (b.getD i 0)) ⟨by simp only;omega,by simp only;rw [Vk _ _ h,← h2],by simp only;exact zaT h3 _,by simp only;have:=Vl ⟨ln2,p2,⟨m2,t2,hm2,hf2,hl2⟩,le2,ck2,own2,out2⟩ (b.getD i 0);simp only at this;omega⟩ (by simp only;omega)
  have hend: ¬ i<b.length→_:=fun h=>h2.trans (by rw [List.take_of_length_le (by omega)])
  rcases ck2 with _|ch2<;>rcases own2 with _|_
  · have h0:=h1
    refine zi (let y0:=I.b2i (I.get (α:=UInt8) b 0 (Nat.cast i));let y1:=I.inb (Nat.cast i) (I.len (α:=UInt8) b);.br (I.ilt (Nat.cast i) (I.len (α:=UInt8) b)) (.need y1 (.need y1 (.need (I.hid (α:=(Prop)) (And (rqN (Go.Ab.Rq.mk ln2 p2 (Hd.mk m2 t2 hm2 hf2 hl2) le2 (Option.none) Bool.false out2)) (And (LE.le (0:Int) y0) (LE.le y0 (255:Int))))) (.need (I.inr Go.IntKind.i64 (I.add (Nat.cast i) 1)) (.need (A ⟨[(0,(.v (.one (.ptr 0 0)))),(1,(.v (.one (.p (.list .byte b))))),(10,(.v (.one (.p (.list .byte b))))),(11,(.v (.one (.p (.int .i64 (I.len (α:=UInt8) b)))))),(12,(.v (.one (.p (.int .i64 (I.add (Nat.cast i) 1))))))],[(.abs (.rq (I.hid (α:=Go.Ab.Rq) (rqF (Go.Ab.Rq.mk ln2 p2 (Hd.mk m2 t2 hm2 hf2 hl2) le2 (Option.none) Bool.false out2) (UInt8.ofNat (Int.toNat y0))))))],25,none⟩) .qed))))) (.need (I.hid (α:=(Prop)) (And (LE.le (zV out2) 1000000) (LE.le (List.length out2) 10000000))) (.fin (.ret (.v (.one (.row 1)))) [(.abs (.rq (Go.Ab.Rq.mk (Go.Ab.Ln.mk (Go.Ab.Ln.b ln2) (Go.Ab.Ln.cr ln2) (Go.Ab.Ln.code ln2)) p2 (Hd.mk m2 t2 hm2 hf2 hl2) le2 (Option.none) Bool.false out2))),(.row .evt 34 (I.hid (α:=(List Go.Ab.Evt)) (yj out2)))]))) (by kernel_rfl) ?_
    simp only [zB]
    subst hI
    simp only [nrmA,nrmB,nrlB,reduceCtorEq,HO.abs.injEq,Gh.rq.injEq,Rq.mk.injEq]
    by_cases hi:i<b.length
    · have hg:=hgo hi
      have hn:=hrn hi
      (repeat' (first|refine And.intro ?_ ?_|intro _))<;>first|omega|exact True.intro|exact False.elim ‹False›|skip
      all_goals first|omega|exact hg|exact hn|contradiction|(have:=(b.getD i 0).toNat_lt;omega)|trace_state
    · have hg:=hend hi
      rw [← hg]
      have hon:=h3.on
      simp only at hon
      (repeat' (first|refine And.intro ?_ ?_|intro _))<;>first|omega|exact True.intro|exact False.elim ‹False›|skip
      all_goals first|omega|rfl|contradiction|exact⟨by omega,by omega⟩|trace_state
  · have h0:=h1
    refine zi (let y0:=I.b2i (I.get (α:=UInt8) b 0 (Nat.cast i));let y1:=I.inb (Nat.cast i) (I.len (α:=UInt8) b);.br (I.ilt (Nat.cast i) (I.len (α:=UInt8) b)) (.need y1 (.need y1 (.need (I.hid (α:=(Prop)) (And (rqN (Go.Ab.Rq.mk ln2 p2 (Hd.mk m2 t2 hm2 hf2 hl2) le2 (Option.none) Bool.true out2)) (And (LE.le (0:Int) y0) (LE.le y0 (255:Int))))) (.need (I.inr Go.IntKind.i64 (I.add (Nat.cast i) 1)) (.need (A ⟨[(0,(.v (.one (.ptr 0 0)))),(1,(.v (.one (.p (.list .byte b))))),(10,(.v (.one (.p (.list .byte b))))),(11,(.v (.one (.p (.int .i64 (I.len (α:=UInt8) b)))))),(12,(.v (.one (.p (.int .i64 (I.add (Nat.cast i) 1))))))],[(.abs (.rq (I.hid (α:=Go.Ab.Rq) (rqF (Go.Ab.Rq.mk ln2 p2 (Hd.mk m2 t2 hm2 hf2 hl2) le2 (Option.none) Bool.true out2) (UInt8.ofNat (Int.toNat y0))))))],25,none⟩) .qed))))) (.need (I.hid (α:=(Prop)) (And (LE.le (zV out2) 1000000) (LE.le (List.length out2) 10000000))) (.fin (.ret (.v (.one (.row 1)))) [(.abs (.rq (Go.Ab.Rq.mk (Go.Ab.Ln.mk (Go.Ab.Ln.b ln2) (Go.Ab.Ln.cr ln2) (Go.Ab.Ln.code ln2)) p2 (Hd.mk m2 t2 hm2 hf2 hl2) le2 (Option.none) Bool.true out2))),(.row .evt 34 (I.hid (α:=(List Go.Ab.Evt)) (yj out2)))]))) (by kernel_rfl) ?_
    simp only [zB]
    subst hI
    simp only [nrmA,nrmB,nrlB,reduceCtorEq,HO.abs.injEq,Gh.rq.injEq,Rq.mk.injEq]
    by_cases hi:i<b.length
    · have hg:=hgo hi
      have hn:=hrn hi
      (repeat' (first|refine And.intro ?_ ?_|intro _))<;>first|omega|exact True.intro|exact False.elim ‹False›|skip
      all_goals first|omega|exact hg|exact hn|contradiction|(have:=(b.getD i 0).toNat_lt;omega)|trace_state
    · have hg:=hend hi
      rw [← hg]
      have hon:=h3.on
      simp only at hon
      (repeat' (first|refine And.intro ?_ ?_|intro _))<;>first|omega|exact True.intro|exact False.elim ‹False›|skip
      all_goals first|omega|rfl|contradiction|exact⟨by omega,by omega⟩|trace_state
  · have h0:=h1
    refine zi (let y0:=I.b2i (I.get (α:=UInt8) b 0 (Nat.cast i));let y1:=I.inb (Nat.cast i) (I.len (α:=UInt8) b);.br (I.ilt (Nat.cast i) (I.len (α:=UInt8) b)) (.need y1 (.need y1 (.need (I.hid (α:=(Prop)) (And (rqN (Go.Ab.Rq.mk ln2 p2 (Hd.mk m2 t2 hm2 hf2 hl2) le2 (Option.some ch2) Bool.false out2)) (And (LE.le (0:Int) y0) (LE.le y0 (255:Int))))) (.need (I.inr Go.IntKind.i64 (I.add (Nat.cast i) 1)) (.need (A ⟨[(0,(.v (.one (.ptr 0 0)))),(1,(.v (.one (.p (.list .byte b))))),(10,(.v (.one (.p (.list .byte b))))),(11,(.v (.one (.p (.int .i64 (I.len (α:=UInt8) b)))))),(12,(.v (.one (.p (.int .i64 (I.add (Nat.cast i) 1))))))],[(.abs (.rq (I.hid (α:=Go.Ab.Rq) (rqF (Go.Ab.Rq.mk ln2 p2 (Hd.mk m2 t2 hm2 hf2 hl2) le2 (Option.some ch2) Bool.false out2) (UInt8.ofNat (Int.toNat y0))))))],25,none⟩) .qed))))) (.need (I.hid (α:=(Prop)) (And (LE.le (zV out2) 1000000) (LE.le (List.length out2) 10000000))) (.fin (.ret (.v (.one (.row 1)))) [(.abs (.rq (Go.Ab.Rq.mk (Go.Ab.Ln.mk (Go.Ab.Ln.b ln2) (Go.Ab.Ln.cr ln2) (Go.Ab.Ln.code ln2)) p2 (Hd.mk m2 t2 hm2 hf2 hl2) le2 (Option.some (Go.Ab.Ch.mk (Go.Ab.Ln.mk (Go.Ab.Ln.b (Go.Ab.Ch.ln ch2)) (Go.Ab.Ln.cr (Go.Ab.Ch.ln ch2)) (Go.Ab.Ln.code (Go.Ab.Ch.ln ch2))) (Go.Ab.Ch.pos ch2) (Go.Ab.Ch.left ch2) (Go.Ab.Ch.all ch2) (Go.Ab.Ch.tails ch2) (Go.Ab.Ch.code ch2))) Bool.false out2))),(.row .evt 34 (I.hid (α:=(List Go.Ab.Evt)) (yj out2)))]))) (by kernel_rfl) ?_
    simp only [zB]
    subst hI
    simp only [nrmA,nrmB,nrlB,reduceCtorEq,HO.abs.injEq,Gh.rq.injEq,Rq.mk.injEq]
    by_cases hi:i<b.length
    · have hg:=hgo hi
      have hn:=hrn hi
      (repeat' (first|refine And.intro ?_ ?_|intro _))<;>first|omega|exact True.intro|exact False.elim ‹False›|skip
      all_goals first|omega|exact hg|exact hn|contradiction|(have:=(b.getD i 0).toNat_lt;omega)|trace_state
    · have hg:=hend hi
      rw [← hg]
      have hon:=h3.on
      simp only at hon
      (repeat' (first|refine And.intro ?_ ?_|intro _))<;>first|omega|exact True.intro|exact False.elim ‹False›|skip
      all_goals first|omega|rfl|contradiction|exact⟨by omega,by omega⟩|trace_state
  · have h0:=h1
    refine zi (let y0:=I.b2i (I.get (α:=UInt8) b 0 (Nat.cast i));let y1:=I.inb (Nat.cast i) (I.len (α:=UInt8) b);.br (I.ilt (Nat.cast i) (I.len (α:=UInt8) b)) (.need y1 (.need y1 (.need (I.hid (α:=(Prop)) (And (rqN (Go.Ab.Rq.mk ln2 p2 (Hd.mk m2 t2 hm2 hf2 hl2) le2 (Option.some ch2) Bool.true out2)) (And (LE.le (0:Int) y0) (LE.le y0 (255:Int))))) (.need (I.inr Go.IntKind.i64 (I.add (Nat.cast i) 1)) (.need (A ⟨[(0,(.v (.one (.ptr 0 0)))),(1,(.v (.one (.p (.list .byte b))))),(10,(.v (.one (.p (.list .byte b))))),(11,(.v (.one (.p (.int .i64 (I.len (α:=UInt8) b)))))),(12,(.v (.one (.p (.int .i64 (I.add (Nat.cast i) 1))))))],[(.abs (.rq (I.hid (α:=Go.Ab.Rq) (rqF (Go.Ab.Rq.mk ln2 p2 (Hd.mk m2 t2 hm2 hf2 hl2) le2 (Option.some ch2) Bool.true out2) (UInt8.ofNat (Int.toNat y0))))))],25,none⟩) .qed))))) (.need (I.hid (α:=(Prop)) (And (LE.le (zV out2) 1000000) (LE.le (List.length out2) 10000000))) (.fin (.ret (.v (.one (.row 1)))) [(.abs (.rq (Go.Ab.Rq.mk (Go.Ab.Ln.mk (Go.Ab.Ln.b ln2) (Go.Ab.Ln.cr ln2) (Go.Ab.Ln.code ln2)) p2 (Hd.mk m2 t2 hm2 hf2 hl2) le2 (Option.some (Go.Ab.Ch.mk (Go.Ab.Ln.mk (Go.Ab.Ln.b (Go.Ab.Ch.ln ch2)) (Go.Ab.Ln.cr (Go.Ab.Ch.ln ch2)) (Go.Ab.Ln.code (Go.Ab.Ch.ln ch2))) (Go.Ab.Ch.pos ch2) (Go.Ab.Ch.left ch2) (Go.Ab.Ch.all ch2) (Go.Ab.Ch.tails ch2) (Go.Ab.Ch.code ch2))) Bool.true out2))),(.row .evt 34 (I.hid (α:=(List Go.Ab.Evt)) (yj out2)))]))) (by kernel_rfl) ?_
    simp only [zB]
    subst hI
    simp only [nrmA,nrmB,nrlB,reduceCtorEq,HO.abs.injEq,Gh.rq.injEq,Rq.mk.injEq]
    by_cases hi:i<b.length
    · have hg:=hgo hi
      have hn:=hrn hi
      (repeat' (first|refine And.intro ?_ ?_|intro _))<;>first|omega|exact True.intro|exact False.elim ‹False›|skip
      all_goals first|omega|exact hg|exact hn|contradiction|(have:=(b.getD i 0).toNat_lt;omega)|trace_state
    · have hg:=hend hi
      rw [← hg]
      have hon:=h3.on
      simp only at hon
      (repeat' (first|refine And.intro ?_ ?_|intro _))<;>first|omega|exact True.intro|exact False.elim ‹False›|skip
      all_goals first|omega|rfl|contradiction|exact⟨by omega,by omega⟩|trace_state
theorem zbX (ln:Ln) (p:Int) (m tg:Str) (hm:Int) (hf:List Fld) (hl le:Int) (ch:Ch) (out:List Evt) (b:Str) (hneed:rqN0 ⟨ln,p,⟨m,tg,hm,hf,hl⟩,le,some ch,true,out⟩ b):Spc Tryd.prog 6 [.v (.one (.ptr 0 0)),.v (.one (.p (.list .byte b)))] [.abs (.rq ⟨ln,p,⟨m,tg,hm,hf,hl⟩,le,some ch,true,out⟩)] (.ret (.v (.one (.row 1)))) [.abs (.rq ((yc ⟨ln,p,⟨m,tg,hm,hf,hl⟩,le,some ch,true,out⟩ b))),.row .evt 34 ((yj (yc ⟨ln,p,⟨m,tg,hm,hf,hl⟩,le,some ch,true,out⟩ b).out))]:=by
  obtain⟨n,hI0,hnb⟩:=hneed
  have hat:=Qv hI0 b
  refine spcG zx mixed Tryd.func6 (by kernel_rfl) { cfgQ with fz:=[],keep:=some [0,1,4,6,10,11,12]} [xK,xJ,xI,xH] (by kernel_rfl) ?_
  intro I X hI hX
  refine zi (.code 0 [1,1,0,1,0] ⟨[(12,(.v (.one (.p (.int .i64 0))))),(11,(.v (.one (.p (.int .i64 (I.len (α:=UInt8) b)))))),(10,(.v (.one (.p (.list .byte b))))),(4,(.v (.one .nilS))),(0,(.v (.one (.ptr 0 0)))),(1,(.v (.one (.p (.list .byte b)))))],[(.obj 48 [(.ptr 1 0),(.p (.int .i64 p)),(.p (.str m)),(.p (.str tg)),(.p (.int .i64 hm)),(.row 2),(.p (.int .i64 hl)),(.p (.int .i64 le)),(.ptr 3 0),.nilS]),(.pack [(.obj 61 [(.row 1),(.p (.bool (Go.Ab.Ln.cr ln))),(.p (.int .i64 (Go.Ab.Ln.code ln)))]),(.row .byte 5 (Go.Ab.Ln.b ln))]),(.row .fld 43 hf),(.pack [(.obj 73 [(.ptr 1 0),(.p (.int .i64 (Go.Ab.Ch.pos ch))),(.p (.int .i64 (Go.Ab.Ch.left ch))),(.p (.int .i64 (Go.Ab.Ch.all ch))),(.p (.int .i64 (Go.Ab.Ch.tails ch))),(.p (.int .i64 (Go.Ab.Ch.code ch)))]),(.pack [(.obj 61 [(.row 1),(.p (.bool (Go.Ab.Ln.cr (Go.Ab.Ch.ln ch)))),(.p (.int .i64 (Go.Ab.Ln.code (Go.Ab.Ch.ln ch))))]),(.row .byte 5 (Go.Ab.Ln.b (Go.Ab.Ch.ln ch)))])]),(.row .evt 34 out)],25,none⟩) (by kernel_rfl) ?_
  simp only [zB]
  have hr:({ (⟨ln,p,⟨m,tg,hm,hf,hl⟩,le,some ch,true,out⟩:Rq) with out:=[]}:Rq)=(⟨ln,p,⟨m,tg,hm,hf,hl⟩,le,some ch,true,[]⟩:Rq):=rfl
  unfold rqAt at hat
  unfold yc
  rw [hr] at hat ⊢
  refine zZ hI zx mixed [xK,xJ,xI,xH] hX [0,1,10,11,12] (fun(g:Nat × Rq)=>match g with|(i,r)=>i≤b.length∧r=sW (⟨ln,p,⟨m,tg,hm,hf,hl⟩,le,some ch,true,[]⟩:Rq) (b.take i)∧RqI r (n+i)∧zV r.out≤i) (fun(g:Nat × Rq)=>match g with|(i,r)=>⟨[(0,.v (.one (.ptr 0 0))),(1,.v (.one (.p (.list .byte b)))),(10,.v (.one (.p (.list .byte b)))),(11,.v (.one (.p (.int .i64 ((I.len (α:=UInt8) b)))))),(12,.v (.one (.p (.int .i64 i))))],[.abs (.rq r)],25,none⟩) (fun(g:Nat × Rq)=>match g with|(i,r)=>b.length - i) (0,(⟨ln,p,⟨m,tg,hm,hf,hl⟩,le,some ch,true,[]⟩:Rq)) (by kernel_rfl) (by kernel_rfl) ?_ ?_
  · exact⟨Nat.zero_le _,rfl,hat.1,hat.2⟩
  rintro⟨i,⟨ln2,p2,⟨m2,t2,hm2,hf2,hl2⟩,le2,ck2,own2,out2⟩⟩ ⟨h1,h2,h3,h4⟩ A hA
  simp only at hA h1 h2 h3 h4
  have hrn:i<b.length→rqN _:=fun h=>⟨n+i,by omega,h3⟩
  have hgo:i<b.length→_:=fun h=>hA (i+1,rqF ⟨ln2,p2,⟨m2,t2,hm2,hf2,hl2⟩,le2,ck2,own2,out2⟩ (b.getD i 0)) ⟨by simp only;omega,by simp only;rw [Vk _ _ h,← h2],by simp only;exact zaT h3 _,by simp only;have:=Vl ⟨ln2,p2,⟨m2,t2,hm2,hf2,hl2⟩,le2,ck2,own2,out2⟩ (b.getD i 0);simp only at this;omega⟩ (by simp only;omega)
  have hend: ¬ i<b.length→_:=fun h=>h2.trans (by rw [List.take_of_length_le (by omega)])
  rcases ck2 with _|ch2<;>rcases own2 with _|_
  · have h0:=h1
    refine zi (let y0:=I.b2i (I.get (α:=UInt8) b 0 (Nat.cast i));let y1:=I.inb (Nat.cast i) (I.len (α:=UInt8) b);.br (I.ilt (Nat.cast i) (I.len (α:=UInt8) b)) (.need y1 (.need y1 (.need (I.hid (α:=(Prop)) (And (rqN (Go.Ab.Rq.mk ln2 p2 (Hd.mk m2 t2 hm2 hf2 hl2) le2 (Option.none) Bool.false out2)) (And (LE.le (0:Int) y0) (LE.le y0 (255:Int))))) (.need (I.inr Go.IntKind.i64 (I.add (Nat.cast i) 1)) (.need (A ⟨[(0,(.v (.one (.ptr 0 0)))),(1,(.v (.one (.p (.list .byte b))))),(10,(.v (.one (.p (.list .byte b))))),(11,(.v (.one (.p (.int .i64 (I.len (α:=UInt8) b)))))),(12,(.v (.one (.p (.int .i64 (I.add (Nat.cast i) 1))))))],[(.abs (.rq (I.hid (α:=Go.Ab.Rq) (rqF (Go.Ab.Rq.mk ln2 p2 (Hd.mk m2 t2 hm2 hf2 hl2) le2 (Option.none) Bool.false out2) (UInt8.ofNat (Int.toNat y0))))))],25,none⟩) .qed))))) (.need (I.hid (α:=(Prop)) (And (LE.le (zV out2) 1000000) (LE.le (List.length out2) 10000000))) (.fin (.ret (.v (.one (.row 1)))) [(.abs (.rq (Go.Ab.Rq.mk (Go.Ab.Ln.mk (Go.Ab.Ln.b ln2) (Go.Ab.Ln.cr ln2) (Go.Ab.Ln.code ln2)) p2 (Hd.mk m2 t2 hm2 hf2 hl2) le2 (Option.none) Bool.false out2))),(.row .evt 34 (I.hid (α:=(List Go.Ab.Evt)) (yj out2)))]))) (by kernel_rfl) ?_
    simp only [zB]
    subst hI
    simp only [nrmA,nrmB,nrlB,reduceCtorEq,HO.abs.injEq,Gh.rq.injEq,Rq.mk.injEq]
    by_cases hi:i<b.length
    · have hg:=hgo hi
      have hn:=hrn hi
      (repeat' (first|refine And.intro ?_ ?_|intro _))<;>first|omega|exact True.intro|exact False.elim ‹False›|skip
      all_goals first|omega|exact hg|exact hn|contradiction|(have:=(b.getD i 0).toNat_lt;omega)|trace_state
    · have hg:=hend hi
      rw [← hg]
      have hon:=h3.on
      simp only at hon
      (repeat' (first|refine And.intro ?_ ?_|intro _))<;>first|omega|exact True.intro|exact False.elim ‹False›|skip
      all_goals first|omega|rfl|contradiction|exact⟨by omega,by omega⟩|trace_state
  · have h0:=h1
    refine zi (let y0:=I.b2i (I.get (α:=UInt8) b 0 (Nat.cast i));let y1:=I.inb (Nat.cast i) (I.len (α:=UInt8) b);.br (I.ilt (Nat.cast i) (I.len (α:=UInt8) b)) (.need y1 (.need y1 (.need (I.hid (α:=(Prop)) (And (rqN (Go.Ab.Rq.mk ln2 p2 (Hd.mk m2 t2 hm2 hf2 hl2) le2 (Option.none) Bool.true out2)) (And (LE.le (0:Int) y0) (LE.le y0 (255:Int))))) (.need (I.inr Go.IntKind.i64 (I.add (Nat.cast i) 1)) (.need (A ⟨[(0,(.v (.one (.ptr 0 0)))),(1,(.v (.one (.p (.list .byte b))))),(10,(.v (.one (.p (.list .byte b))))),(11,(.v (.one (.p (.int .i64 (I.len (α:=UInt8) b)))))),(12,(.v (.one (.p (.int .i64 (I.add (Nat.cast i) 1))))))],[(.abs (.rq (I.hid (α:=Go.Ab.Rq) (rqF (Go.Ab.Rq.mk ln2 p2 (Hd.mk m2 t2 hm2 hf2 hl2) le2 (Option.none) Bool.true out2) (UInt8.ofNat (Int.toNat y0))))))],25,none⟩) .qed))))) (.need (I.hid (α:=(Prop)) (And (LE.le (zV out2) 1000000) (LE.le (List.length out2) 10000000))) (.fin (.ret (.v (.one (.row 1)))) [(.abs (.rq (Go.Ab.Rq.mk (Go.Ab.Ln.mk (Go.Ab.Ln.b ln2) (Go.Ab.Ln.cr ln2) (Go.Ab.Ln.code ln2)) p2 (Hd.mk m2 t2 hm2 hf2 hl2) le2 (Option.none) Bool.true out2))),(.row .evt 34 (I.hid (α:=(List Go.Ab.Evt)) (yj out2)))]))) (by kernel_rfl) ?_
    simp only [zB]
    subst hI
    simp only [nrmA,nrmB,nrlB,reduceCtorEq,HO.abs.injEq,Gh.rq.injEq,Rq.mk.injEq]
    by_cases hi:i<b.length
    · have hg:=hgo hi
      have hn:=hrn hi
      (repeat' (first|refine And.intro ?_ ?_|intro _))<;>first|omega|exact True.intro|exact False.elim ‹False›|skip
      all_goals first|omega|exact hg|exact hn|contradiction|(have:=(b.getD i 0).toNat_lt;omega)|trace_state
    · have hg:=hend hi
      rw [← hg]
      have hon:=h3.on
      simp only at hon
      (repeat' (first|refine And.intro ?_ ?_|intro _))<;>first|omega|exact True.intro|exact False.elim ‹False›|skip
      all_goals first|omega|rfl|contradiction|exact⟨by omega,by omega⟩|trace_state
  · have h0:=h1
    refine zi (let y0:=I.b2i (I.get (α:=UInt8) b 0 (Nat.cast i));let y1:=I.inb (Nat.cast i) (I.len (α:=UInt8) b);.br (I.ilt (Nat.cast i) (I.len (α:=UInt8) b)) (.need y1 (.need y1 (.need (I.hid (α:=(Prop)) (And (rqN (Go.Ab.Rq.mk ln2 p2 (Hd.mk m2 t2 hm2 hf2 hl2) le2 (Option.some ch2) Bool.false out2)) (And (LE.le (0:Int) y0) (LE.le y0 (255:Int))))) (.need (I.inr Go.IntKind.i64 (I.add (Nat.cast i) 1)) (.need (A ⟨[(0,(.v (.one (.ptr 0 0)))),(1,(.v (.one (.p (.list .byte b))))),(10,(.v (.one (.p (.list .byte b))))),(11,(.v (.one (.p (.int .i64 (I.len (α:=UInt8) b)))))),(12,(.v (.one (.p (.int .i64 (I.add (Nat.cast i) 1))))))],[(.abs (.rq (I.hid (α:=Go.Ab.Rq) (rqF (Go.Ab.Rq.mk ln2 p2 (Hd.mk m2 t2 hm2 hf2 hl2) le2 (Option.some ch2) Bool.false out2) (UInt8.ofNat (Int.toNat y0))))))],25,none⟩) .qed))))) (.need (I.hid (α:=(Prop)) (And (LE.le (zV out2) 1000000) (LE.le (List.length out2) 10000000))) (.fin (.ret (.v (.one (.row 1)))) [(.abs (.rq (Go.Ab.Rq.mk (Go.Ab.Ln.mk (Go.Ab.Ln.b ln2) (Go.Ab.Ln.cr ln2) (Go.Ab.Ln.code ln2)) p2 (Hd.mk m2 t2 hm2 hf2 hl2) le2 (Option.some (Go.Ab.Ch.mk (Go.Ab.Ln.mk (Go.Ab.Ln.b (Go.Ab.Ch.ln ch2)) (Go.Ab.Ln.cr (Go.Ab.Ch.ln ch2)) (Go.Ab.Ln.code (Go.Ab.Ch.ln ch2))) (Go.Ab.Ch.pos ch2) (Go.Ab.Ch.left ch2) (Go.Ab.Ch.all ch2) (Go.Ab.Ch.tails ch2) (Go.Ab.Ch.code ch2))) Bool.false out2))),(.row .evt 34 (I.hid (α:=(List Go.Ab.Evt)) (yj out2)))]))) (by kernel_rfl) ?_
    simp only [zB]
    subst hI
    simp only [nrmA,nrmB,nrlB,reduceCtorEq,HO.abs.injEq,Gh.rq.injEq,Rq.mk.injEq]
    by_cases hi:i<b.length
    · have hg:=hgo hi
      have hn:=hrn hi
      (repeat' (first|refine And.intro ?_ ?_|intro _))<;>first|omega|exact True.intro|exact False.elim ‹False›|skip
      all_goals first|omega|exact hg|exact hn|contradiction|(have:=(b.getD i 0).toNat_lt;omega)|trace_state
    · have hg:=hend hi
      rw [← hg]
      have hon:=h3.on
      simp only at hon
      (repeat' (first|refine And.intro ?_ ?_|intro _))<;>first|omega|exact True.intro|exact False.elim ‹False›|skip
      all_goals first|omega|rfl|contradiction|exact⟨by omega,by omega⟩|trace_state
  · have h0:=h1
    refine zi (let y0:=I.b2i (I.get (α:=UInt8) b 0 (Nat.cast i));let y1:=I.inb (Nat.cast i) (I.len (α:=UInt8) b);.br (I.ilt (Nat.cast i) (I.len (α:=UInt8) b)) (.need y1 (.need y1 (.need (I.hid (α:=(Prop)) (And (rqN (Go.Ab.Rq.mk ln2 p2 (Hd.mk m2 t2 hm2 hf2 hl2) le2 (Option.some ch2) Bool.true out2)) (And (LE.le (0:Int) y0) (LE.le y0 (255:Int))))) (.need (I.inr Go.IntKind.i64 (I.add (Nat.cast i) 1)) (.need (A ⟨[(0,(.v (.one (.ptr 0 0)))),(1,(.v (.one (.p (.list .byte b))))),(10,(.v (.one (.p (.list .byte b))))),(11,(.v (.one (.p (.int .i64 (I.len (α:=UInt8) b)))))),(12,(.v (.one (.p (.int .i64 (I.add (Nat.cast i) 1))))))],[(.abs (.rq (I.hid (α:=Go.Ab.Rq) (rqF (Go.Ab.Rq.mk ln2 p2 (Hd.mk m2 t2 hm2 hf2 hl2) le2 (Option.some ch2) Bool.true out2) (UInt8.ofNat (Int.toNat y0))))))],25,none⟩) .qed))))) (.need (I.hid (α:=(Prop)) (And (LE.le (zV out2) 1000000) (LE.le (List.length out2) 10000000))) (.fin (.ret (.v (.one (.row 1)))) [(.abs (.rq (Go.Ab.Rq.mk (Go.Ab.Ln.mk (Go.Ab.Ln.b ln2) (Go.Ab.Ln.cr ln2) (Go.Ab.Ln.code ln2)) p2 (Hd.mk m2 t2 hm2 hf2 hl2) le2 (Option.some (Go.Ab.Ch.mk (Go.Ab.Ln.mk (Go.Ab.Ln.b (Go.Ab.Ch.ln ch2)) (Go.Ab.Ln.cr (Go.Ab.Ch.ln ch2)) (Go.Ab.Ln.code (Go.Ab.Ch.ln ch2))) (Go.Ab.Ch.pos ch2) (Go.Ab.Ch.left ch2) (Go.Ab.Ch.all ch2) (Go.Ab.Ch.tails ch2) (Go.Ab.Ch.code ch2))) Bool.true out2))),(.row .evt 34 (I.hid (α:=(List Go.Ab.Evt)) (yj out2)))]))) (by kernel_rfl) ?_
    simp only [zB]
    subst hI
    simp only [nrmA,nrmB,nrlB,reduceCtorEq,HO.abs.injEq,Gh.rq.injEq,Rq.mk.injEq]
    by_cases hi:i<b.length
    · have hg:=hgo hi
      have hn:=hrn hi
      (repeat' (first|refine And.intro ?_ ?_|intro _))<;>first|omega|exact True.intro|exact False.elim ‹False›|skip
      all_goals first|omega|exact hg|exact hn|contradiction|(have:=(b.getD i 0).toNat_lt;omega)|trace_state
    · have hg:=hend hi
      rw [← hg]
      have hon:=h3.on
      simp only at hon
      (repeat' (first|refine And.intro ?_ ?_|intro _))<;>first|omega|exact True.intro|exact False.elim ‹False›|skip
      all_goals first|omega|rfl|contradiction|exact⟨by omega,by omega⟩|trace_state
theorem zbY (ln:Ln) (p:Int) (m tg:Str) (hm:Int) (hf:List Fld) (hl le:Int) (ch:Ch) (out:List Evt) (b:Str) (hneed:rqN0 ⟨ln,p,⟨m,tg,hm,hf,hl⟩,le,some ch,false,out⟩ b):Spc Tryd.prog 6 [.v (.one (.ptr 0 0)),.v (.one (.p (.list .byte b)))] [.abs (.rq ⟨ln,p,⟨m,tg,hm,hf,hl⟩,le,some ch,false,out⟩)] (.ret (.v (.one (.row 1)))) [.abs (.rq ((yc ⟨ln,p,⟨m,tg,hm,hf,hl⟩,le,some ch,false,out⟩ b))),.row .evt 34 ((yj (yc ⟨ln,p,⟨m,tg,hm,hf,hl⟩,le,some ch,false,out⟩ b).out))]:=by
  obtain⟨n,hI0,hnb⟩:=hneed
  have hat:=Qv hI0 b
  refine spcG zx mixed Tryd.func6 (by kernel_rfl) { cfgQ with fz:=[],keep:=some [0,1,4,6,10,11,12]} [xK,xJ,xI,xH] (by kernel_rfl) ?_
  intro I X hI hX
  refine zi (.code 0 [1,1,0,1,0] ⟨[(12,(.v (.one (.p (.int .i64 0))))),(11,(.v (.one (.p (.int .i64 (I.len (α:=UInt8) b)))))),(10,(.v (.one (.p (.list .byte b))))),(4,(.v (.one .nilS))),(0,(.v (.one (.ptr 0 0)))),(1,(.v (.one (.p (.list .byte b)))))],[(.obj 48 [(.ptr 1 0),(.p (.int .i64 p)),(.p (.str m)),(.p (.str tg)),(.p (.int .i64 hm)),(.p (.list .fld hf)),(.p (.int .i64 hl)),(.p (.int .i64 le)),(.ptr 2 0),.nilS]),(.pack [(.obj 61 [(.row 1),(.p (.bool (Go.Ab.Ln.cr ln))),(.p (.int .i64 (Go.Ab.Ln.code ln)))]),(.row .byte 5 (Go.Ab.Ln.b ln))]),(.pack [(.obj 73 [(.ptr 1 0),(.p (.int .i64 (Go.Ab.Ch.pos ch))),(.p (.int .i64 (Go.Ab.Ch.left ch))),(.p (.int .i64 (Go.Ab.Ch.all ch))),(.p (.int .i64 (Go.Ab.Ch.tails ch))),(.p (.int .i64 (Go.Ab.Ch.code ch)))]),(.pack [(.obj 61 [(.row 1),(.p (.bool (Go.Ab.Ln.cr (Go.Ab.Ch.ln ch)))),(.p (.int .i64 (Go.Ab.Ln.code (Go.Ab.Ch.ln ch))))]),(.row .byte 5 (Go.Ab.Ln.b (Go.Ab.Ch.ln ch)))])]),(.row .evt 34 out)],25,none⟩) (by kernel_rfl) ?_
  simp only [zB]
  have hr:({ (⟨ln,p,⟨m,tg,hm,hf,hl⟩,le,some ch,false,out⟩:Rq) with out:=[]}:Rq)=(⟨ln,p,⟨m,tg,hm,hf,hl⟩,le,some ch,false,[]⟩:Rq):=rfl
  unfold rqAt at hat
  unfold yc
  rw [hr] at hat ⊢
  refine zZ hI zx mixed [xK,xJ,xI,xH] hX [0,1,10,11,12] (fun(g:Nat × Rq)=>match g with|(i,r)=>i≤b.length∧r=sW (⟨ln,p,⟨m,tg,hm,hf,hl⟩,le,some ch,false,[]⟩:Rq) (b.take i)∧RqI r (n+i)∧zV r.out≤i) (fun(g:Nat × Rq)=>match g with|(i,r)=>⟨[(0,.v (.one (.ptr 0 0))),(1,.v (.one (.p (.list .byte b)))),(10,.v (.one (.p (.list .byte b)))),(11,.v (.one (.p (.int .i64 ((I.len (α:=UInt8) b)))))),(12,.v (.one (.p (.int .i64 i))))],[.abs (.rq r)],25,none⟩) (fun(g:Nat × Rq)=>match g with|(i,r)=>b.length - i) (0,(⟨ln,p,⟨m,tg,hm,hf,hl⟩,le,some ch,false,[]⟩:Rq)) (by kernel_rfl) (by kernel_rfl) ?_ ?_
  · exact⟨Nat.zero_le _,rfl,hat.1,hat.2⟩
  rintro⟨i,⟨ln2,p2,⟨m2,t2,hm2,hf2,hl2⟩,le2,ck2,own2,out2⟩⟩ ⟨h1,h2,h3,h4⟩ A hA
  simp only at hA h1 h2 h3 h4
  have hrn:i<b.length→rqN _:=fun h=>⟨n+i,by omega,h3⟩
  have hgo:i<b.length→_:=fun h=>hA (i+1,rqF ⟨ln2,p2,⟨m2,t2,hm2,hf2,hl2⟩,le2,ck2,own2,out2⟩ (b.getD i 0)) ⟨by simp only;omega,by simp only;rw [Vk _ _ h,← h2],by simp only;exact zaT h3 _,by simp only;have:=Vl ⟨ln2,p2,⟨m2,t2,hm2,hf2,hl2⟩,le2,ck2,own2,out2⟩ (b.getD i 0);simp only at this;omega⟩ (by simp only;omega)
  have hend: ¬ i<b.length→_:=fun h=>h2.trans (by rw [List.take_of_length_le (by omega)])
  rcases ck2 with _|ch2<;>rcases own2 with _|_
  · have h0:=h1
    refine zi (let y0:=I.b2i (I.get (α:=UInt8) b 0 (Nat.cast i));let y1:=I.inb (Nat.cast i) (I.len (α:=UInt8) b);.br (I.ilt (Nat.cast i) (I.len (α:=UInt8) b)) (.need y1 (.need y1 (.need (I.hid (α:=(Prop)) (And (rqN (Go.Ab.Rq.mk ln2 p2 (Hd.mk m2 t2 hm2 hf2 hl2) le2 (Option.none) Bool.false out2)) (And (LE.le (0:Int) y0) (LE.le y0 (255:Int))))) (.need (I.inr Go.IntKind.i64 (I.add (Nat.cast i) 1)) (.need (A ⟨[(0,(.v (.one (.ptr 0 0)))),(1,(.v (.one (.p (.list .byte b))))),(10,(.v (.one (.p (.list .byte b))))),(11,(.v (.one (.p (.int .i64 (I.len (α:=UInt8) b)))))),(12,(.v (.one (.p (.int .i64 (I.add (Nat.cast i) 1))))))],[(.abs (.rq (I.hid (α:=Go.Ab.Rq) (rqF (Go.Ab.Rq.mk ln2 p2 (Hd.mk m2 t2 hm2 hf2 hl2) le2 (Option.none) Bool.false out2) (UInt8.ofNat (Int.toNat y0))))))],25,none⟩) .qed))))) (.need (I.hid (α:=(Prop)) (And (LE.le (zV out2) 1000000) (LE.le (List.length out2) 10000000))) (.fin (.ret (.v (.one (.row 1)))) [(.abs (.rq (Go.Ab.Rq.mk (Go.Ab.Ln.mk (Go.Ab.Ln.b ln2) (Go.Ab.Ln.cr ln2) (Go.Ab.Ln.code ln2)) p2 (Hd.mk m2 t2 hm2 hf2 hl2) le2 (Option.none) Bool.false out2))),(.row .evt 34 (I.hid (α:=(List Go.Ab.Evt)) (yj out2)))]))) (by kernel_rfl) ?_
    simp only [zB]
    subst hI
    simp only [nrmA,nrmB,nrlB,reduceCtorEq,HO.abs.injEq,Gh.rq.injEq,Rq.mk.injEq]
    by_cases hi:i<b.length
    · have hg:=hgo hi
      have hn:=hrn hi
      (repeat' (first|refine And.intro ?_ ?_|intro _))<;>first|omega|exact True.intro|exact False.elim ‹False›|skip
      all_goals first|omega|exact hg|exact hn|contradiction|(have:=(b.getD i 0).toNat_lt;omega)|trace_state
    · have hg:=hend hi
      rw [← hg]
      have hon:=h3.on
      simp only at hon
      (repeat' (first|refine And.intro ?_ ?_|intro _))<;>first|omega|exact True.intro|exact False.elim ‹False›|skip
      all_goals first|omega|rfl|contradiction|exact⟨by omega,by omega⟩|trace_state
  · have h0:=h1
    refine zi (let y0:=I.b2i (I.get (α:=UInt8) b 0 (Nat.cast i));let y1:=I.inb (Nat.cast i) (I.len (α:=UInt8) b);.br (I.ilt (Nat.cast i) (I.len (α:=UInt8) b)) (.need y1 (.need y1 (.need (I.hid (α:=(Prop)) (And (rqN (Go.Ab.Rq.mk ln2 p2 (Hd.mk m2 t2 hm2 hf2 hl2) le2 (Option.none) Bool.true out2)) (And (LE.le (0:Int) y0) (LE.le y0 (255:Int))))) (.need (I.inr Go.IntKind.i64 (I.add (Nat.cast i) 1)) (.need (A ⟨[(0,(.v (.one (.ptr 0 0)))),(1,(.v (.one (.p (.list .byte b))))),(10,(.v (.one (.p (.list .byte b))))),(11,(.v (.one (.p (.int .i64 (I.len (α:=UInt8) b)))))),(12,(.v (.one (.p (.int .i64 (I.add (Nat.cast i) 1))))))],[(.abs (.rq (I.hid (α:=Go.Ab.Rq) (rqF (Go.Ab.Rq.mk ln2 p2 (Hd.mk m2 t2 hm2 hf2 hl2) le2 (Option.none) Bool.true out2) (UInt8.ofNat (Int.toNat y0))))))],25,none⟩) .qed))))) (.need (I.hid (α:=(Prop)) (And (LE.le (zV out2) 1000000) (LE.le (List.length out2) 10000000))) (.fin (.ret (.v (.one (.row 1)))) [(.abs (.rq (Go.Ab.Rq.mk (Go.Ab.Ln.mk (Go.Ab.Ln.b ln2) (Go.Ab.Ln.cr ln2) (Go.Ab.Ln.code ln2)) p2 (Hd.mk m2 t2 hm2 hf2 hl2) le2 (Option.none) Bool.true out2))),(.row .evt 34 (I.hid (α:=(List Go.Ab.Evt)) (yj out2)))]))) (by kernel_rfl) ?_
    simp only [zB]
    subst hI
    simp only [nrmA,nrmB,nrlB,reduceCtorEq,HO.abs.injEq,Gh.rq.injEq,Rq.mk.injEq]
    by_cases hi:i<b.length
    · have hg:=hgo hi
      have hn:=hrn hi
      (repeat' (first|refine And.intro ?_ ?_|intro _))<;>first|omega|exact True.intro|exact False.elim ‹False›|skip
      all_goals first|omega|exact hg|exact hn|contradiction|(have:=(b.getD i 0).toNat_lt;omega)|trace_state
    · have hg:=hend hi
      rw [← hg]
      have hon:=h3.on
      simp only at hon
      (repeat' (first|refine And.intro ?_ ?_|intro _))<;>first|omega|exact True.intro|exact False.elim ‹False›|skip
      all_goals first|omega|rfl|contradiction|exact⟨by omega,by omega⟩|trace_state
  · have h0:=h1
    refine zi (let y0:=I.b2i (I.get (α:=UInt8) b 0 (Nat.cast i));let y1:=I.inb (Nat.cast i) (I.len (α:=UInt8) b);.br (I.ilt (Nat.cast i) (I.len (α:=UInt8) b)) (.need y1 (.need y1 (.need (I.hid (α:=(Prop)) (And (rqN (Go.Ab.Rq.mk ln2 p2 (Hd.mk m2 t2 hm2 hf2 hl2) le2 (Option.some ch2) Bool.false out2)) (And (LE.le (0:Int) y0) (LE.le y0 (255:Int))))) (.need (I.inr Go.IntKind.i64 (I.add (Nat.cast i) 1)) (.need (A ⟨[(0,(.v (.one (.ptr 0 0)))),(1,(.v (.one (.p (.list .byte b))))),(10,(.v (.one (.p (.list .byte b))))),(11,(.v (.one (.p (.int .i64 (I.len (α:=UInt8) b)))))),(12,(.v (.one (.p (.int .i64 (I.add (Nat.cast i) 1))))))],[(.abs (.rq (I.hid (α:=Go.Ab.Rq) (rqF (Go.Ab.Rq.mk ln2 p2 (Hd.mk m2 t2 hm2 hf2 hl2) le2 (Option.some ch2) Bool.false out2) (UInt8.ofNat (Int.toNat y0))))))],25,none⟩) .qed))))) (.need (I.hid (α:=(Prop)) (And (LE.le (zV out2) 1000000) (LE.le (List.length out2) 10000000))) (.fin (.ret (.v (.one (.row 1)))) [(.abs (.rq (Go.Ab.Rq.mk (Go.Ab.Ln.mk (Go.Ab.Ln.b ln2) (Go.Ab.Ln.cr ln2) (Go.Ab.Ln.code ln2)) p2 (Hd.mk m2 t2 hm2 hf2 hl2) le2 (Option.some (Go.Ab.Ch.mk (Go.Ab.Ln.mk (Go.Ab.Ln.b (Go.Ab.Ch.ln ch2)) (Go.Ab.Ln.cr (Go.Ab.Ch.ln ch2)) (Go.Ab.Ln.code (Go.Ab.Ch.ln ch2))) (Go.Ab.Ch.pos ch2) (Go.Ab.Ch.left ch2) (Go.Ab.Ch.all ch2) (Go.Ab.Ch.tails ch2) (Go.Ab.Ch.code ch2))) Bool.false out2))),(.row .evt 34 (I.hid (α:=(List Go.Ab.Evt)) (yj out2)))]))) (by kernel_rfl) ?_
    simp only [zB]
    subst hI
    simp only [nrmA,nrmB,nrlB,reduceCtorEq,HO.abs.injEq,Gh.rq.injEq,Rq.mk.injEq]
    by_cases hi:i<b.length
    · have hg:=hgo hi
      have hn:=hrn hi
      (repeat' (first|refine And.intro ?_ ?_|intro _))<;>first|omega|exact True.intro|exact False.elim ‹False›|skip
      all_goals first|omega|exact hg|exact hn|contradiction|(have:=(b.getD i 0).toNat_lt;omega)|trace_state
    · have hg:=hend hi
      rw [← hg]
      have hon:=h3.on
      simp only at hon
      (repeat' (first|refine And.intro ?_ ?_|intro _))<;>first|omega|exact True.intro|exact False.elim ‹False›|skip
      all_goals first|omega|rfl|contradiction|exact⟨by omega,by omega⟩|trace_state
  · have h0:=h1
    refine zi (let y0:=I.b2i (I.get (α:=UInt8) b 0 (Nat.cast i));let y1:=I.inb (Nat.cast i) (I.len (α:=UInt8) b);.br (I.ilt (Nat.cast i) (I.len (α:=UInt8) b)) (.need y1 (.need y1 (.need (I.hid (α:=(Prop)) (And (rqN (Go.Ab.Rq.mk ln2 p2 (Hd.mk m2 t2 hm2 hf2 hl2) le2 (Option.some ch2) Bool.true out2)) (And (LE.le (0:Int) y0) (LE.le y0 (255:Int))))) (.need (I.inr Go.IntKind.i64 (I.add (Nat.cast i) 1)) (.need (A ⟨[(0,(.v (.one (.ptr 0 0)))),(1,(.v (.one (.p (.list .byte b))))),(10,(.v (.one (.p (.list .byte b))))),(11,(.v (.one (.p (.int .i64 (I.len (α:=UInt8) b)))))),(12,(.v (.one (.p (.int .i64 (I.add (Nat.cast i) 1))))))],[(.abs (.rq (I.hid (α:=Go.Ab.Rq) (rqF (Go.Ab.Rq.mk ln2 p2 (Hd.mk m2 t2 hm2 hf2 hl2) le2 (Option.some ch2) Bool.true out2) (UInt8.ofNat (Int.toNat y0))))))],25,none⟩) .qed))))) (.need (I.hid (α:=(Prop)) (And (LE.le (zV out2) 1000000) (LE.le (List.length out2) 10000000))) (.fin (.ret (.v (.one (.row 1)))) [(.abs (.rq (Go.Ab.Rq.mk (Go.Ab.Ln.mk (Go.Ab.Ln.b ln2) (Go.Ab.Ln.cr ln2) (Go.Ab.Ln.code ln2)) p2 (Hd.mk m2 t2 hm2 hf2 hl2) le2 (Option.some (Go.Ab.Ch.mk (Go.Ab.Ln.mk (Go.Ab.Ln.b (Go.Ab.Ch.ln ch2)) (Go.Ab.Ln.cr (Go.Ab.Ch.ln ch2)) (Go.Ab.Ln.code (Go.Ab.Ch.ln ch2))) (Go.Ab.Ch.pos ch2) (Go.Ab.Ch.left ch2) (Go.Ab.Ch.all ch2) (Go.Ab.Ch.tails ch2) (Go.Ab.Ch.code ch2))) Bool.true out2))),(.row .evt 34 (I.hid (α:=(List Go.Ab.Evt)) (yj out2)))]))) (by kernel_rfl) ?_
    simp only [zB]
    subst hI
    simp only [nrmA,nrmB,nrlB,reduceCtorEq,HO.abs.injEq,Gh.rq.injEq,Rq.mk.injEq]
    by_cases hi:i<b.length
    · have hg:=hgo hi
      have hn:=hrn hi
      (repeat' (first|refine And.intro ?_ ?_|intro _))<;>first|omega|exact True.intro|exact False.elim ‹False›|skip
      all_goals first|omega|exact hg|exact hn|contradiction|(have:=(b.getD i 0).toNat_lt;omega)|trace_state
    · have hg:=hend hi
      rw [← hg]
      have hon:=h3.on
      simp only at hon
      (repeat' (first|refine And.intro ?_ ?_|intro _))<;>first|omega|exact True.intro|exact False.elim ‹False›|skip
      all_goals first|omega|rfl|contradiction|exact⟨by omega,by omega⟩|trace_state
theorem zfa (q:Rq) (b:Str) (hneed:rqN0 q b):Spc Tryd.prog 6 [.v (.one (.ptr 0 0)),.v (.one (.p (.list .byte b)))] [.abs (.rq q)] (.ret (.v (.one (.row 1)))) [.abs (.rq ((yc q b))),.row .evt 34 ((yj (yc q b).out))]:=by
  obtain⟨ln,p,⟨m,tg,hm,hf,hl⟩,le,ck,own,out⟩:=q
  cases ck with
  | none=>cases own with
    |true=>exact zbZ ln p m tg hm hf hl le out b hneed
    |false=>exact zb0 ln p m tg hm hf hl le out b hneed
  | some ch=>cases own with
    |true=>exact zbX ln p m tg hm hf hl le ch out b hneed
    |false=>exact zbY ln p m tg hm hf hl le ch out b hneed
def qB (I:Alg) (args:List D) (hp:List HO):Option CT:=match args,hp with
  |[.v (.one (.ptr 0 0)),.v (.one (.p (.list .byte b)))],[.abs (.rq q)]=>(fun(q:Rq) (b:Str)=>(some (.one ⟨I.hid (rqN0 q b),(.ret (.v (.one (.row 1)))),[.abs (.rq (I.hid ((yc q b)))),.row .evt 34 (I.hid ((yj (yc q b).out)))]⟩):Option CT)) q b
  |_,_=>none
theorem Um:zG Tryd.prog 6 (qB alg):=by
  intro args hp r h
  unfold qB at h
  split at h
  · cases h;exact fun hn=>zfa _ _ hn
  · cases h
def qA:Know Tryd.prog:=⟨6,qB,Um⟩
def qy:Know Tryd.prog:=⟨6,fun I=>zK I (qB I),zf Um⟩
end Go.Proofs.YtmibhbdfigpkmaaDoor
namespace Go.Proofs.YtmibhbdfigpkmaaDoor
open Go Go.Sep Go.Ab
def badF:List Fld→Int
  |[]=>0
  |f::l=>if(textF f).2=0 then badF l else(textF f).2
def uw:List Fld→Str
  |[]=>[]
  |f::l=>(textF f).1++[13,10]++uw l
theorem zcV (a b:List Fld):uw (a++b)=uw a++uw b:=by
  induction a with
  |nil=>rfl
  |cons f l ih=>simp only [List.cons_append,uw,ih,List.append_assoc]
def ze3 (n:Int):Str:=[67,111,110,116,101,110,116,45,76,101,110,103,116,104,58,32]++decS n++[13,10,13,10]
theorem Ud (f:Fld):(textF f).1.length≤200:=by
  unfold textF
  split
  · simp
  split
  · simp
  split
  · simp
  · simp only [List.length_append,List.length_cons,List.length_nil];omega
theorem U9: ∀ l:List Fld,(uw l).length≤202 * l.length
  |[]=>by simp [uw]
  | f::l=>by
    have:=Ud f
    have:=U9 l
    simp only [uw,List.length_append,List.length_cons,List.length_nil];omega
end Go.Proofs.YtmibhbdfigpkmaaDoor
namespace Go.Proofs.YtmibhbdfigpkmaaDoor
open Go Go.Sep Go.Ab
set_option maxRecDepth 100000
theorem zdl {fs:List Fld} {i:Nat} (h:i<fs.length):badF (fs.drop i)=if(textF (fs.getD i ⟨[],[]⟩)).2=0 then badF (fs.drop (i+1)) else(textF (fs.getD i ⟨[],[]⟩)).2:=by
  rw [List.drop_eq_getElem_cons h,badF];simp [h]
theorem zbg {fs:List Fld} {i:Nat} (h:i<fs.length):uw (fs.take (i+1))=uw (fs.take i)++(textF (fs.getD i ⟨[],[]⟩)).1++[13,10]:=by
  rw [List.take_succ_eq_append_getElem h,zcV];simp [uw,h]
end Go.Proofs.YtmibhbdfigpkmaaDoor
namespace Go.Proofs.YtmibhbdfigpkmaaDoor
open Go Go.Sep Go.Ab
set_option maxRecDepth 100000
theorem zeX (w:World):(zeroValue 82).run Tryd.prog w=.ok (.agg (Array.replicate 256 (.bool false))) w:=by
  kernel_rfl
def ascii (s:Str):Prop:=∀ c ∈ s,c.toNat<128
theorem zaC {s:Str} (h:ascii s): ∀ (j:Nat) b,s[j]? =some b→b.toNat<128:=fun j b e=>h b (List.mem_of_getElem? e)
theorem Tm (s p:Str) (hneed:(ascii s∧s.length≤1000000)∧ascii p∧p.length≤1000000):Spc Tryd.prog 19 [.v (.one (.p (.str s))),.v (.one (.p (.str p)))] [] (.ret (.v (.one (.p (.bool (Lib.containsAny s p)))))) []:=by
  refine Spc.of_below ⟨_,Tryd.func19,by kernel_rfl,by kernel_rfl⟩ fun S bs w vs _ hM=> ?_
  obtain⟨v,r,rfl⟩: ∃ v r,vs=v::r:=by cases vs with|nil=>exact hM.elim|cons v r=>exact⟨v,r,rfl⟩
  obtain⟨h1,hM⟩:=hM
  obtain⟨v2,r2,rfl⟩: ∃ v r2,r=v::r2:=by cases r with|nil=>exact hM.elim|cons v r=>exact⟨v,r,rfl⟩
  obtain⟨h2,hM⟩:=hM
  obtain rfl:r2=[]:=by cases r2 with|nil=>rfl|cons v r=>exact hM.elim
  obtain⟨⟨g1,g2⟩,g3,g4⟩:=hneed
  cases h1 with
  | str _ hl1=>
    cases h2 with
    | str _ hl2=>
      refine⟨.bool (Lib.containsAny s p),.bool _,(Tryd.strings_ContainsAny zeX (Sep.S s) (Sep.S p) w (by show s.length<_;omega) (by show p.length<_;omega) (zaC g1) (zaC g3)).mono fun e w' h=> ?_⟩
      exact⟨h.1,h.2⟩
def xG (I:Alg) (args:List D) (hp:List HO):Option CT:=match args,hp with
  |[.v (.one (.p (.str s))),.v (.one (.p (.str p)))],[]=>(fun(s p:Str)=>(some (.one ⟨I.hid ((ascii s∧s.length≤1000000)∧ascii p∧p.length≤1000000),(.ret (.v (.one (.p (.bool (I.hid (Lib.containsAny s p))))))),[]⟩):Option CT)) s p
  |_,_=>none
theorem rH:zG Tryd.prog 19 (xG alg):=by
  intro args hp r h
  unfold xG at h
  split at h
  · cases h;exact fun hn=>Tm _ _ hn
  · cases h
def rG:Know Tryd.prog:=⟨19,xG,rH⟩
def rF:Know Tryd.prog:=⟨19,fun I=>zK I (xG I),zf rH⟩
def rqHd (m t:Str):Str:=m++[32]++t++[32,72,84,84,80,47,49,46,49]
def rqwC (m t:Str) (fs:List Fld) (b:Str):Int:=
  if xQ m=false then 6
  else if Lib.hasPrefix t [47]=false then 5
  else if Lib.containsAny t [32,9]=true then 5
  else if uF t=false then 5
  else if 200<(rqHd m t).length then 4
  else if 4000<b.length then 4
  else if 15<fs.length then 8
  else if 0<(valsF fs wH).length+(valsF fs rO).length then 12
  else if(oneF (valsF fs Ye)).2≠0 then 13
  else badF fs
def rqwT (m t:Str) (fs:List Fld) (b:Str):Str:=
  if rqwC m t fs b=0 then rqHd m t++[13,10]++uw fs++ze3 b.length++b else []
theorem zdQ (m t:Str) (mi:Int) (fs:List Fld) (le:Int) (b:Str) (hneed:(m.length≤1000000∧t.length≤1000000∧ascii t)∧(fs.length≤1000∧∀ f ∈ fs,f.name.length≤1000000∧f.value.length≤1000000)∧b.length≤1000000):Spc Tryd.prog 9 [.v (.agg [(.p (.str m)),(.p (.str t)),(.p (.int .i64 mi)),(.p (.list .fld fs)),(.p (.int .i64 le))]),.v (.one (.p (.list .byte b)))] [] (.ret (.tup [(.one (.p (.list .byte ((rqwT m t fs b))))),(.one (.p (.int .i64 ((rqwC m t fs b)))))])) []:=by
  obtain⟨⟨hm1,ht1,ht2⟩,⟨hfl,hf⟩,hb⟩:=hneed
  generalize hc:rqwC m t fs b=c
  generalize ht:rqwT m t fs b=T
  have hbl:=zaq (b.length:Int)
  have ha:ascii [32,9]:=by unfold ascii;decide
  have hx0:=uz fs wH
  have hx1:=uz fs rO
  refine spcG zx mixed Tryd.func9 (by kernel_rfl) { rl:=[0],keep:=some [0,1,2,4,5,6,8,9,11,12,13,79,80,81]} [x9,xZ,wP,wO,zbA,zbz,XB,XA,VG,VF,zcE,zcD,wV,wU,rG,rF] (by kernel_rfl) ?_
  intro I X hI hX
  refine zi (let y4:=([99,111,110,116,101,110,116,45,108,101,110,103,116,104]:Str);let y3:=([116,114,97,110,115,102,101,114,45,101,110,99,111,100,105,110,103]:Str);let y0:=I.add (I.len (α:=Str) (I.hid (α:=(List (Str))) (valsF fs y4))) (I.len (α:=Str) (I.hid (α:=(List (Str))) (valsF fs y3)));let y1:=([32,72,84,84,80,47,49,46,49]:Str);let y2:=I.len (α:=UInt8) (I.app (α:=UInt8) (I.app (α:=UInt8) (I.app (α:=UInt8) m ([32]:Str)) t) y1);let y5:=I.hid (α:=Int) (Prod.snd (oneF (valsF fs ([104,111,115,116]:Str))));.need (I.few (I.add (I.len (α:=UInt8) m) (I.len (α:=UInt8) ([32]:Str))) 1000000000) (.need (I.few (I.add (I.len (α:=UInt8) (I.app (α:=UInt8) m ([32]:Str))) (I.len (α:=UInt8) t)) 1000000000) (.need (I.few (I.add (I.len (α:=UInt8) (I.app (α:=UInt8) (I.app (α:=UInt8) m ([32]:Str)) t)) (I.len (α:=UInt8) y1)) 1000000000) (.need (I.hid (α:=(Prop)) (LE.le (List.length m) 1000000)) (.br (I.bnot (I.hid (α:=Bool) (xQ m))) (.fin (.ret (.tup [(.one (.p (.list .byte ([]:Str)))),(.one (.p (.int .i64 6)))])) []) (.need (I.hid (α:=(Prop)) True) (.br (I.bnot (I.hid (α:=Bool) (Go.Lib.hasPrefix t ([47]:Str)))) (.fin (.ret (.tup [(.one (.p (.list .byte ([]:Str)))),(.one (.p (.int .i64 5)))])) []) (.need (I.hid (α:=(Prop)) (And (And (ascii t) (LE.le (List.length t) 1000000)) (And (ascii ([32,9]:Str)) (LE.le (List.length ([32,9]:Str)) 1000000)))) (.br (I.hid (α:=Bool) (Go.Lib.containsAny t ([32,9]:Str))) (.fin (.ret (.tup [(.one (.p (.list .byte ([]:Str)))),(.one (.p (.int .i64 5)))])) []) (.need (I.hid (α:=(Prop)) (LE.le (List.length t) 1000000)) (.br (I.bnot (I.hid (α:=Bool) (uF t))) (.fin (.ret (.tup [(.one (.p (.list .byte ([]:Str)))),(.one (.p (.int .i64 5)))])) []) (.br (I.ilt 200 y2) (.fin (.ret (.tup [(.one (.p (.list .byte ([]:Str)))),(.one (.p (.int .i64 4)))])) []) (.br (I.ilt 4000 (I.len (α:=UInt8) b)) (.fin (.ret (.tup [(.one (.p (.list .byte ([]:Str)))),(.one (.p (.int .i64 4)))])) []) (.br (I.ilt 15 (I.len (α:=Fld) fs)) (.fin (.ret (.tup [(.one (.p (.list .byte ([]:Str)))),(.one (.p (.int .i64 8)))])) []) (.need (I.hid (α:=(Prop)) (And (LE.le (List.length fs) 1000) (And (LE.le (List.length y4) 1000000) (∀ (f:Fld),f ∈ fs→List.length f.name≤1000000∧List.length f.value≤1000000)))) (.need (I.hid (α:=(Prop)) (And (LE.le (List.length fs) 1000) (And (LE.le (List.length y3) 1000000) (∀ (f:Fld),f ∈ fs→List.length f.name≤1000000∧List.length f.value≤1000000)))) (.need (I.inr Go.IntKind.i64 y0) (.br (I.ilt 0 y0) (.fin (.ret (.tup [(.one (.p (.list .byte ([]:Str)))),(.one (.p (.int .i64 12)))])) []) (.need (I.hid (α:=(Prop)) (And (LE.le (List.length fs) 1000) (And (LE.le (List.length ([104,111,115,116]:Str)) 1000000) (∀ (f:Fld),f ∈ fs→List.length f.name≤1000000∧List.length f.value≤1000000)))) (.br (I.bnot (I.ieq y5 0)) (.fin (.ret (.tup [(.one (.p (.list .byte ([]:Str)))),(.one (.p (.int .i64 13)))])) []) (.need (I.few (I.add y2 (I.len (α:=UInt8) ([13,10]:Str))) 1000000000) (.code 0 [1,1,1,1,1,0,1,0] ⟨[(81,(.v (.one (.p (.int .i64 0))))),(80,(.v (.one (.p (.int .i64 (I.len (α:=Fld) fs)))))),(79,(.v (.one (.p (.list .fld fs))))),(9,(.v (.one (.row 3)))),(8,(.v (.one (.p (.int .i64 y5))))),(6,(.v (.one (.p (.str (I.app (α:=UInt8) (I.app (α:=UInt8) (I.app (α:=UInt8) m ([32]:Str)) t) y1)))))),(5,(.v (.one (.p (.int .i64 0))))),(4,(.v (.one .nilS))),(2,(.v (.one (.ptr 0 0)))),(0,(.v (.agg [(.p (.str m)),(.p (.str t)),(.p (.int .i64 mi)),(.p (.list .fld fs)),(.p (.int .i64 le))]))),(1,(.v (.one (.p (.list .byte b)))))],[(.obj 30 [(.p (.str m)),(.p (.str t)),(.p (.int .i64 mi)),(.p (.list .fld fs)),(.p (.int .i64 le))]),(.row .str 9 (I.hid (α:=(List (Str))) (valsF fs y4))),(.row .str 9 (I.hid (α:=(List (Str))) (valsF fs y3))),(.row .byte 5 (I.app (α:=UInt8) (I.app (α:=UInt8) (I.app (α:=UInt8) (I.app (α:=UInt8) m ([32]:Str)) t) y1) ([13,10]:Str)))],108,none⟩)))))))))))))))))))))) (by kernel_rfl) ?_
  simp only [zB]
  rw [show([99,111,110,116,101,110,116,45,108,101,110,103,116,104]:Str)=wH from rfl,show([116,114,97,110,115,102,101,114,45,101,110,99,111,100,105,110,103]:Str)=rO from rfl,show([104,111,115,116]:Str)=Ye from rfl]
  have hk1:wH.length≤1000000:=by decide
  have hk2:rO.length≤1000000:=by decide
  have hk3:Ye.length≤1000000:=by decide
  (repeat' (first|refine And.intro ?_ ?_|intro _))
  all_goals try(subst hI;(simp only [nrmA,nrmB,nrlB,reduceCtorEq] at *);first|done|trivial|omega|exact⟨ht1,ht2⟩|exact⟨⟨ht2,ht1⟩,ha,by decide⟩|exact⟨hfl,by assumption,hf⟩|(simp only [List.length_append,List.length_cons,List.length_nil];omega)|(unfold rqwT at ht;unfold rqwC rqHd at ht hc;((repeat(first|rewrite [if_pos (by first|omega|assumption|(simp only [*,or_self,or_true,true_or,or_false,false_or,not_true_eq_false,not_false_eq_true,Bool.false_eq_true,Bool.true_eq_false,and_self,and_true,true_and];done)|(simp only [*];omega)|(simp [*];done)|(simp [*];omega))] at hc|rewrite [if_neg (by first|omega|assumption|(simp only [*,or_self,or_true,true_or,or_false,false_or,not_true_eq_false,not_false_eq_true,Bool.false_eq_true,Bool.true_eq_false,and_self,and_true,true_and];done)|(simp only [*];omega)|(simp [*];done)|(simp [*];omega))] at hc)));subst hc;((repeat(first|rewrite [if_pos (by first|omega|assumption|(simp only [*,or_self,or_true,true_or,or_false,false_or,not_true_eq_false,not_false_eq_true,Bool.false_eq_true,Bool.true_eq_false,and_self,and_true,true_and];done)|(simp only [*];omega)|(simp [*];done)|(simp [*];omega))] at ht|rewrite [if_neg (by first|omega|assumption|(simp only [*,or_self,or_true,true_or,or_false,false_or,not_true_eq_false,not_false_eq_true,Bool.false_eq_true,Bool.true_eq_false,and_self,and_true,true_and];done)|(simp only [*];omega)|(simp [*];done)|(simp [*];omega))] at ht)));subst ht;exact⟨rfl,rfl⟩))
  have hok:xQ m=true∧Lib.hasPrefix t [47]=true∧Lib.containsAny t [32,9]=false∧uF t=true∧(rqHd m t).length≤200∧b.length≤4000∧fs.length≤15∧(valsF fs wH).length+(valsF fs rO).length=0∧(oneF (valsF fs Ye)).2=0:=by
    subst hI
    unfold rqHd
    simp only [nrmA,nrmB,nrlB,reduceCtorEq] at *
    exact⟨by simpa using ‹xQ m=_›,by simpa using ‹Lib.hasPrefix t [47]=_›,by simpa using ‹Lib.containsAny t [32,9]=_›,by simpa using ‹uF t=_›,by omega,by omega,by omega,by omega,by assumption⟩
  obtain⟨k1,k2,k3,k4,k5,k6,k7,k8,k9⟩:=hok
  have hc2:c=badF fs:=by
    rw [← hc,rqwC,if_neg (by rw [k1];simp),if_neg (by rw [k2];simp),if_neg (by rw [k3];simp),if_neg (by rw [k4];simp),if_neg (by omega),if_neg (by omega),if_neg (by omega),if_neg (by omega),if_neg (fun h=>h k9)]
  have ht2:badF fs=0→T=rqHd m t++[13,10]++uw fs++ze3 b.length++b:=fun h=>by
    rw [← ht,rqwT,hc,hc2,if_pos h]
  have ht3:badF fs≠0→T=[]:=fun h=>by rw [← ht,rqwT,hc,hc2,if_neg h]
  refine zZ hI zx mixed [x9,xZ,wP,wO,zbA,zbz,XB,XA,VG,VF,zcE,zcD,wV,wU,rG,rF] hX [1,2,5,9,79,80,81] (fun(g:Nat × Str)=>match g with|(i,o)=>i≤fs.length∧o=rqHd m t++[13,10]++uw (fs.take i)∧badF fs=badF (fs.drop i)) (fun(g:Nat × Str)=>match g with|(i,o)=>⟨[(1,.v (.one (.p (.list .byte b)))),(2,.v (.one (.ptr 0 0))),(5,.v (.one (.p (.int .i64 0)))),(9,.v (.one (.row 1))),(79,.v (.one (.p (.list .fld fs)))),(80,.v (.one (.p (.int .i64 ((I.len (α:=Fld) fs)))))),(81,.v (.one (.p (.int .i64 i))))],[.pack [.obj 30 [(.p (.str m)),(.p (.str t)),(.p (.int .i64 mi)),(.p (.list .fld fs)),(.p (.int .i64 le))]],.row .byte 5 o],108,none⟩) (fun(g:Nat × Str)=>match g with|(i,o)=>fs.length - i) (0,I.app (I.app (I.app (I.app m [32]) t) [32,72,84,84,80,47,49,46,49]) [13,10]) (by kernel_rfl) (by kernel_rfl) ?_ ?_
  · refine⟨Nat.zero_le _,?_,rfl⟩
    subst hI
    simp only [qg,V9,rqHd,List.take_zero,uw,List.append_nil]
  rintro⟨i,o⟩ ⟨h1,h2,h3⟩ A hA
  simp only at hA h1 h2 h3
  refine zi (let y0:=I.get (α:=Fld) fs (Fld.mk ([]:Str) ([]:Str)) (Nat.cast i);let y1:=([67,111,110,116,101,110,116,45,76,101,110,103,116,104,58,32]:Str);let y2:=I.hid (α:=Str) (decS (I.len (α:=UInt8) b));let y3:=I.hid (α:=Str) (Prod.fst (textF (Fld.mk (Fld.name y0) (Fld.value y0))));let y4:=I.hid (α:=Int) (Prod.snd (textF (Fld.mk (Fld.name y0) (Fld.value y0))));let y5:=I.inb (Nat.cast i) (I.len (α:=Fld) fs);.br (I.ilt (Nat.cast i) (I.len (α:=Fld) fs)) (.need y5 (.need y5 (.need (I.hid (α:=(Prop)) (And (LE.le (List.length (Fld.name y0)) 1000000) (LE.le (List.length (Fld.value y0)) 1000000))) (.br (I.bnot (I.ieq y4 0)) (.fin (.ret (.tup [(.one (.p (.list .byte ([]:Str)))),(.one (.p (.int .i64 y4)))])) []) (.need (I.few (I.add (I.len (α:=UInt8) y3) (I.len (α:=UInt8) ([13,10]:Str))) 1000000000) (.need (I.few (I.add (I.len (α:=UInt8) o) (I.len (α:=UInt8) (I.app (α:=UInt8) y3 ([13,10]:Str)))) 140737488355328) (.need (I.inr Go.IntKind.i64 (I.add (Nat.cast i) 1)) (.need (A ⟨[(1,(.v (.one (.p (.list .byte b))))),(2,(.v (.one (.ptr 0 0)))),(5,(.v (.one (.p (.int .i64 0))))),(9,(.v (.one (.row 1)))),(79,(.v (.one (.p (.list .fld fs))))),(80,(.v (.one (.p (.int .i64 (I.len (α:=Fld) fs)))))),(81,(.v (.one (.p (.int .i64 (I.add (Nat.cast i) 1))))))],[(.pack [(.obj 30 [(.p (.str m)),(.p (.str t)),(.p (.int .i64 mi)),(.p (.list .fld fs)),(.p (.int .i64 le))])]),(.row .byte 5 (I.app (α:=UInt8) o (I.app (α:=UInt8) y3 ([13,10]:Str))))],108,none⟩) .qed)))))))) (.need (I.hid (α:=(Prop)) (And (LE.le (0:Int) (I.len (α:=UInt8) b)) (LT.lt (I.len (α:=UInt8) b) (1000000000:Int)))) (.need (I.few (I.add (I.len (α:=UInt8) y1) (I.len (α:=UInt8) y2)) 1000000000) (.need (I.few (I.add (I.len (α:=UInt8) (I.app (α:=UInt8) y1 y2)) (I.len (α:=UInt8) ([13,10,13,10]:Str))) 1000000000) (.need (I.few (I.add (I.len (α:=UInt8) o) (I.len (α:=UInt8) (I.app (α:=UInt8) (I.app (α:=UInt8) y1 y2) ([13,10,13,10]:Str)))) 140737488355328) (.need (I.few (I.add (I.len (α:=UInt8) (I.app (α:=UInt8) o (I.app (α:=UInt8) (I.app (α:=UInt8) y1 y2) ([13,10,13,10]:Str)))) (I.len (α:=UInt8) b)) 140737488355328) (.fin (.ret (.tup [(.one (.p (.list .byte (I.app (α:=UInt8) (I.app (α:=UInt8) o (I.app (α:=UInt8) (I.app (α:=UInt8) y1 y2) ([13,10,13,10]:Str))) b)))),(.one (.p (.int .i64 0)))])) []))))))) (by kernel_rfl) ?_
  simp only [zB]
  subst hI
  simp only [nrmA,nrmB,nrlB,reduceCtorEq]
  have hx:i<fs.length→(fs.getD i ⟨[],[]⟩) ∈ fs:=fun h=>by rw [show fs.getD i ⟨[],[]⟩=fs[i] by simp [h]];exact List.getElem_mem h
  have hd:i<fs.length→_:=fun h=>zdl (fs:=fs) (i:=i) h
  have hk:i<fs.length→_:=fun h=>zbg (fs:=fs) (i:=i) h
  have hol:(uw (fs.take i)).length≤202 * 16:=by
    have:=U9 (fs.take i)
    rw [List.length_take] at this
    omega
  have hol2:o.length≤4000:=by rw [h2,List.length_append,List.length_append,List.length_cons,List.length_cons,List.length_nil];omega
  have hend: ¬ i<fs.length→badF fs=0∧uw (fs.take i)=uw fs:=fun h=>by
    rw [h3,List.drop_of_length_le (by omega),List.take_of_length_le (by omega)];exact⟨rfl,rfl⟩
  have hfi:=fun h=>hf _ (hx h)
  have htl:=fun f=>Ud f
  generalize fs.getD i ⟨[],[]⟩=x at *
  have e0:(⟨x.name,x.value⟩:Fld)=x:=rfl
  rw [e0]
  have htl:=htl x
  refine⟨fun c1=>⟨⟨by omega,by omega⟩,⟨by omega,by omega⟩,hfi (by omega),fun c2=> ?_,fun c2=>⟨?_,?_,by omega,?_⟩⟩,fun c1=> ?_⟩
  · have hd:=hd (by omega)
    rw [if_neg c2] at hd
    exact⟨(ht3 (by rw [h3,hd];exact c2)).symm,by rw [hc2,h3,hd]⟩
  · simp only [List.length_cons,List.length_nil];omega
  · simp only [List.length_append,List.length_cons,List.length_nil];omega
  · have hd:=hd (by omega)
    rw [if_pos c2] at hd
    exact hA (i+1,o++((textF x).1++[13,10])) ⟨by simp only;omega,by simp only;rw [hk (by omega),h2];simp only [List.append_assoc],by simp only;rw [h3,hd]⟩ (by simp only;omega)
  · obtain⟨e1,e2⟩:=hend (by omega)
    simp only [List.length_append,List.length_cons,List.length_nil]
    refine⟨by omega,by omega,by omega,by omega,by omega,?_,by rw [hc2,e1]⟩
    rw [ht2 e1,h2,e2]
    unfold ze3
    simp only [List.append_assoc]
def tu (I:Alg) (args:List D) (hp:List HO):Option CT:=match args,hp with
  |[.v (.agg [(.p (.str m)),(.p (.str t)),(.p (.int .i64 mi)),(.p (.list .fld fs)),(.p (.int .i64 le))]),.v (.one (.p (.list .byte b)))],[]=>(fun(m t:Str) (mi:Int) (fs:List Fld) (le:Int) (b:Str)=>(some (.one ⟨I.hid ((m.length≤1000000∧t.length≤1000000∧ascii t)∧(fs.length≤1000∧∀ f ∈ fs,f.name.length≤1000000∧f.value.length≤1000000)∧b.length≤1000000),(.ret (.tup [(.one (.p (.list .byte (I.hid ((rqwT m t fs b)))))),(.one (.p (.int .i64 (I.hid ((rqwC m t fs b))))))])),[]⟩):Option CT)) m t mi fs le b
  |_,_=>none
theorem X6:zG Tryd.prog 9 (tu alg):=by
  intro args hp r h
  unfold tu at h
  split at h
  · cases h;exact fun hn=>zdQ _ _ _ _ _ _ hn
  · cases h
def zaR:Know Tryd.prog:=⟨9,tu,X6⟩
def zaQ:Know Tryd.prog:=⟨9,fun I=>zK I (tu I),zf X6⟩
end Go.Proofs.YtmibhbdfigpkmaaDoor
namespace Go.Proofs.YtmibhbdfigpkmaaDoor
open Go Go.Sep Go.Ab
set_option maxRecDepth 100000
theorem zd6:Spc Tryd.prog 4 [] [] (.ret (.v (.one (.p (.bool true))))) []:=by
  refine spcG zx mixed Tryd.func4 (by kernel_rfl) { cfgQ with fz:=[9,6],keep:=some [0,1,2,3,4]} [Yu,Yt,zci,zch,qA,qy,zaR,zaQ] (by kernel_rfl) ?_
  intro I X hI hX
  refine zi (.need (I.hid (α:=(Prop)) True) (.need (I.inr Go.IntKind.u8 71) (.need (I.inr Go.IntKind.u8 69) (.need (I.inr Go.IntKind.u8 84) (.need (I.inr Go.IntKind.u8 32) (.need (I.inr Go.IntKind.u8 47) (.need (I.inr Go.IntKind.u8 120) (.need (I.inr Go.IntKind.u8 32) (.need (I.inr Go.IntKind.u8 72) (.need (I.inr Go.IntKind.u8 84) (.need (I.inr Go.IntKind.u8 84) (.need (I.inr Go.IntKind.u8 80) (.need (I.inr Go.IntKind.u8 47) (.need (I.inr Go.IntKind.u8 49) (.need (I.inr Go.IntKind.u8 46) (.need (I.inr Go.IntKind.u8 49) (.need (I.inr Go.IntKind.u8 13) (.need (I.inr Go.IntKind.u8 10) (.need (I.inr Go.IntKind.u8 72) (.need (I.inr Go.IntKind.u8 111) (.need (I.inr Go.IntKind.u8 115) (.need (I.inr Go.IntKind.u8 116) (.need (I.inr Go.IntKind.u8 58) (.need (I.inr Go.IntKind.u8 32) (.need (I.inr Go.IntKind.u8 97) (.need (I.inr Go.IntKind.u8 13) (.need (I.inr Go.IntKind.u8 10) (.need (I.inr Go.IntKind.u8 13) (.need (I.inr Go.IntKind.u8 10) (.need (I.inb 0 (I.len (α:=UInt8) ([(I.i2b 71),(I.i2b 69),(I.i2b 84),(I.i2b 32),(I.i2b 47),(I.i2b 120),(I.i2b 32),(I.i2b 72),(I.i2b 84),(I.i2b 84),(I.i2b 80),(I.i2b 47),(I.i2b 49),(I.i2b 46),(I.i2b 49),(I.i2b 13),(I.i2b 10),(I.i2b 72),(I.i2b 111),(I.i2b 115),(I.i2b 116),(I.i2b 58),(I.i2b 32),(I.i2b 97),(I.i2b 13),(I.i2b 10),(I.i2b 13),(I.i2b 10)]:List UInt8))) (.need (I.hid (α:=(Prop)) (Go.Proofs.YtmibhbdfigpkmaaDoor.rqN0 Go.Proofs.YtmibhbdfigpkmaaDoor.rq0 ([(I.i2b 71),(I.i2b 69),(I.i2b 84),(I.i2b 32),(I.i2b 47),(I.i2b 120),(I.i2b 32),(I.i2b 72),(I.i2b 84),(I.i2b 84),(I.i2b 80),(I.i2b 47),(I.i2b 49),(I.i2b 46),(I.i2b 49),(I.i2b 13),(I.i2b 10),(I.i2b 72),(I.i2b 111),(I.i2b 115),(I.i2b 116),(I.i2b 58),(I.i2b 32),(I.i2b 97),(I.i2b 13),(I.i2b 10),(I.i2b 13),(I.i2b 10)]:List UInt8))) (.need (I.inr Go.IntKind.u8 121) (.need (I.inb 0 (I.len (α:=UInt8) ([(I.i2b 121)]:List UInt8))) (.need (I.hid (α:=(Prop)) (And (And (LE.le (List.length (Array.toList (List.toArray ([71,69,84]:List UInt8)))) 1000000) (And (LE.le (List.length (Array.toList (List.toArray ([47,120]:List UInt8)))) 1000000) (Go.Proofs.YtmibhbdfigpkmaaDoor.ascii (Array.toList (List.toArray ([47,120]:List UInt8)))))) (And (And (LE.le (List.length ([(Go.Ab.Fld.mk (Array.toList (List.toArray ([72,111,115,116]:List UInt8))) (Array.toList (List.toArray ([97]:List UInt8))))]:List Go.Ab.Fld)) 1000) (∀ (f:Fld),
    f ∈ [Fld.mk (ByteArray.mk #[72,111,115,116]).data.toList (ByteArray.mk #[97]).data.toList]→
      List.length f.name≤1000000∧List.length f.value≤1000000)) (LE.le (List.length ([(I.i2b 121)]:List UInt8)) 1000000)))) (.br (I.ieq (I.len (α:=Go.Ab.Evt) (I.hid (α:=(List Go.Ab.Evt)) (Go.Proofs.YtmibhbdfigpkmaaDoor.yj (Go.Ab.Rq.out (Go.Proofs.YtmibhbdfigpkmaaDoor.yc Go.Proofs.YtmibhbdfigpkmaaDoor.rq0 ([(I.i2b 71),(I.i2b 69),(I.i2b 84),(I.i2b 32),(I.i2b 47),(I.i2b 120),(I.i2b 32),(I.i2b 72),(I.i2b 84),(I.i2b 84),(I.i2b 80),(I.i2b 47),(I.i2b 49),(I.i2b 46),(I.i2b 49),(I.i2b 13),(I.i2b 10),(I.i2b 72),(I.i2b 111),(I.i2b 115),(I.i2b 116),(I.i2b 58),(I.i2b 32),(I.i2b 97),(I.i2b 13),(I.i2b 10),(I.i2b 13),(I.i2b 10)]:List UInt8)))))) 2) (.need (I.inb 0 (I.len (α:=Go.Ab.Evt) (I.hid (α:=(List Go.Ab.Evt)) (Go.Proofs.YtmibhbdfigpkmaaDoor.yj (Go.Ab.Rq.out (Go.Proofs.YtmibhbdfigpkmaaDoor.yc Go.Proofs.YtmibhbdfigpkmaaDoor.rq0 ([(I.i2b 71),(I.i2b 69),(I.i2b 84),(I.i2b 32),(I.i2b 47),(I.i2b 120),(I.i2b 32),(I.i2b 72),(I.i2b 84),(I.i2b 84),(I.i2b 80),(I.i2b 47),(I.i2b 49),(I.i2b 46),(I.i2b 49),(I.i2b 13),(I.i2b 10),(I.i2b 72),(I.i2b 111),(I.i2b 115),(I.i2b 116),(I.i2b 58),(I.i2b 32),(I.i2b 97),(I.i2b 13),(I.i2b 10),(I.i2b 13),(I.i2b 10)]:List UInt8))))))) (.need (I.inb 0 (I.len (α:=Go.Ab.Evt) (I.hid (α:=(List Go.Ab.Evt)) (Go.Proofs.YtmibhbdfigpkmaaDoor.yj (Go.Ab.Rq.out (Go.Proofs.YtmibhbdfigpkmaaDoor.yc Go.Proofs.YtmibhbdfigpkmaaDoor.rq0 ([(I.i2b 71),(I.i2b 69),(I.i2b 84),(I.i2b 32),(I.i2b 47),(I.i2b 120),(I.i2b 32),(I.i2b 72),(I.i2b 84),(I.i2b 84),(I.i2b 80),(I.i2b 47),(I.i2b 49),(I.i2b 46),(I.i2b 49),(I.i2b 13),(I.i2b 10),(I.i2b 72),(I.i2b 111),(I.i2b 115),(I.i2b 116),(I.i2b 58),(I.i2b 32),(I.i2b 97),(I.i2b 13),(I.i2b 10),(I.i2b 13),(I.i2b 10)]:List UInt8))))))) (.br (I.ieq (Go.Ab.Evt.kind (I.get (α:=Go.Ab.Evt) (I.hid (α:=(List Go.Ab.Evt)) (Go.Proofs.YtmibhbdfigpkmaaDoor.yj (Go.Ab.Rq.out (Go.Proofs.YtmibhbdfigpkmaaDoor.yc Go.Proofs.YtmibhbdfigpkmaaDoor.rq0 ([(I.i2b 71),(I.i2b 69),(I.i2b 84),(I.i2b 32),(I.i2b 47),(I.i2b 120),(I.i2b 32),(I.i2b 72),(I.i2b 84),(I.i2b 84),(I.i2b 80),(I.i2b 47),(I.i2b 49),(I.i2b 46),(I.i2b 49),(I.i2b 13),(I.i2b 10),(I.i2b 72),(I.i2b 111),(I.i2b 115),(I.i2b 116),(I.i2b 58),(I.i2b 32),(I.i2b 97),(I.i2b 13),(I.i2b 10),(I.i2b 13),(I.i2b 10)]:List UInt8))))) (Go.Ab.Evt.mk (0:Int) (Go.Ab.Hd.mk ([]:List UInt8) ([]:List UInt8) (0:Int) ([]:List Go.Ab.Fld) (0:Int)) ([]:List UInt8) (Go.Ab.Prt.mk ([]:List UInt8) ([]:List UInt8) ([]:List UInt8) ([]:List UInt8)) (0:Int)) 0)) 1) (.need (I.inb 0 (I.len (α:=Go.Ab.Evt) (I.hid (α:=(List Go.Ab.Evt)) (Go.Proofs.YtmibhbdfigpkmaaDoor.yj (Go.Ab.Rq.out (Go.Proofs.YtmibhbdfigpkmaaDoor.yc Go.Proofs.YtmibhbdfigpkmaaDoor.rq0 ([(I.i2b 71),(I.i2b 69),(I.i2b 84),(I.i2b 32),(I.i2b 47),(I.i2b 120),(I.i2b 32),(I.i2b 72),(I.i2b 84),(I.i2b 84),(I.i2b 80),(I.i2b 47),(I.i2b 49),(I.i2b 46),(I.i2b 49),(I.i2b 13),(I.i2b 10),(I.i2b 72),(I.i2b 111),(I.i2b 115),(I.i2b 116),(I.i2b 58),(I.i2b 32),(I.i2b 97),(I.i2b 13),(I.i2b 10),(I.i2b 13),(I.i2b 10)]:List UInt8))))))) (.need (I.inb 0 (I.len (α:=Go.Ab.Evt) (I.hid (α:=(List Go.Ab.Evt)) (Go.Proofs.YtmibhbdfigpkmaaDoor.yj (Go.Ab.Rq.out (Go.Proofs.YtmibhbdfigpkmaaDoor.yc Go.Proofs.YtmibhbdfigpkmaaDoor.rq0 ([(I.i2b 71),(I.i2b 69),(I.i2b 84),(I.i2b 32),(I.i2b 47),(I.i2b 120),(I.i2b 32),(I.i2b 72),(I.i2b 84),(I.i2b 84),(I.i2b 80),(I.i2b 47),(I.i2b 49),(I.i2b 46),(I.i2b 49),(I.i2b 13),(I.i2b 10),(I.i2b 72),(I.i2b 111),(I.i2b 115),(I.i2b 116),(I.i2b 58),(I.i2b 32),(I.i2b 97),(I.i2b 13),(I.i2b 10),(I.i2b 13),(I.i2b 10)]:List UInt8))))))) (.br (I.seq (Go.Ab.Hd.target (Go.Ab.Evt.head (I.get (α:=Go.Ab.Evt) (I.hid (α:=(List Go.Ab.Evt)) (Go.Proofs.YtmibhbdfigpkmaaDoor.yj (Go.Ab.Rq.out (Go.Proofs.YtmibhbdfigpkmaaDoor.yc Go.Proofs.YtmibhbdfigpkmaaDoor.rq0 ([(I.i2b 71),(I.i2b 69),(I.i2b 84),(I.i2b 32),(I.i2b 47),(I.i2b 120),(I.i2b 32),(I.i2b 72),(I.i2b 84),(I.i2b 84),(I.i2b 80),(I.i2b 47),(I.i2b 49),(I.i2b 46),(I.i2b 49),(I.i2b 13),(I.i2b 10),(I.i2b 72),(I.i2b 111),(I.i2b 115),(I.i2b 116),(I.i2b 58),(I.i2b 32),(I.i2b 97),(I.i2b 13),(I.i2b 10),(I.i2b 13),(I.i2b 10)]:List UInt8))))) (Go.Ab.Evt.mk (0:Int) (Go.Ab.Hd.mk ([]:List UInt8) ([]:List UInt8) (0:Int) ([]:List Go.Ab.Fld) (0:Int)) ([]:List UInt8) (Go.Ab.Prt.mk ([]:List UInt8) ([]:List UInt8) ([]:List UInt8) ([]:List UInt8)) (0:Int)) 0))) (Array.toList (List.toArray ([47,120]:List UInt8)))) (.need (I.inb 1 (I.len (α:=Go.Ab.Evt) (I.hid (α:=(List Go.Ab.Evt)) (Go.Proofs.YtmibhbdfigpkmaaDoor.yj (Go.Ab.Rq.out (Go.Proofs.YtmibhbdfigpkmaaDoor.yc Go.Proofs.YtmibhbdfigpkmaaDoor.rq0 ([(I.i2b 71),(I.i2b 69),(I.i2b 84),(I.i2b 32),(I.i2b 47),(I.i2b 120),(I.i2b 32),(I.i2b 72),(I.i2b 84),(I.i2b 84),(I.i2b 80),(I.i2b 47),(I.i2b 49),(I.i2b 46),(I.i2b 49),(I.i2b 13),(I.i2b 10),(I.i2b 72),(I.i2b 111),(I.i2b 115),(I.i2b 116),(I.i2b 58),(I.i2b 32),(I.i2b 97),(I.i2b 13),(I.i2b 10),(I.i2b 13),(I.i2b 10)]:List UInt8))))))) (.need (I.inb 1 (I.len (α:=Go.Ab.Evt) (I.hid (α:=(List Go.Ab.Evt)) (Go.Proofs.YtmibhbdfigpkmaaDoor.yj (Go.Ab.Rq.out (Go.Proofs.YtmibhbdfigpkmaaDoor.yc Go.Proofs.YtmibhbdfigpkmaaDoor.rq0 ([(I.i2b 71),(I.i2b 69),(I.i2b 84),(I.i2b 32),(I.i2b 47),(I.i2b 120),(I.i2b 32),(I.i2b 72),(I.i2b 84),(I.i2b 84),(I.i2b 80),(I.i2b 47),(I.i2b 49),(I.i2b 46),(I.i2b 49),(I.i2b 13),(I.i2b 10),(I.i2b 72),(I.i2b 111),(I.i2b 115),(I.i2b 116),(I.i2b 58),(I.i2b 32),(I.i2b 97),(I.i2b 13),(I.i2b 10),(I.i2b 13),(I.i2b 10)]:List UInt8))))))) (.br (I.ieq (Go.Ab.Evt.kind (I.get (α:=Go.Ab.Evt) (I.hid (α:=(List Go.Ab.Evt)) (Go.Proofs.YtmibhbdfigpkmaaDoor.yj (Go.Ab.Rq.out (Go.Proofs.YtmibhbdfigpkmaaDoor.yc Go.Proofs.YtmibhbdfigpkmaaDoor.rq0 ([(I.i2b 71),(I.i2b 69),(I.i2b 84),(I.i2b 32),(I.i2b 47),(I.i2b 120),(I.i2b 32),(I.i2b 72),(I.i2b 84),(I.i2b 84),(I.i2b 80),(I.i2b 47),(I.i2b 49),(I.i2b 46),(I.i2b 49),(I.i2b 13),(I.i2b 10),(I.i2b 72),(I.i2b 111),(I.i2b 115),(I.i2b 116),(I.i2b 58),(I.i2b 32),(I.i2b 97),(I.i2b 13),(I.i2b 10),(I.i2b 13),(I.i2b 10)]:List UInt8))))) (Go.Ab.Evt.mk (0:Int) (Go.Ab.Hd.mk ([]:List UInt8) ([]:List UInt8) (0:Int) ([]:List Go.Ab.Fld) (0:Int)) ([]:List UInt8) (Go.Ab.Prt.mk ([]:List UInt8) ([]:List UInt8) ([]:List UInt8) ([]:List UInt8)) (0:Int)) 1)) 3) (.need (I.hid (α:=(Prop)) True) (.br (I.bnot (I.hid (α:=Bool) (Go.Proofs.YtmibhbdfigpkmaaDoor.uH (I.hid (α:=Go.Ab.Rq) (Go.Proofs.YtmibhbdfigpkmaaDoor.yc Go.Proofs.YtmibhbdfigpkmaaDoor.rq0 ([(I.i2b 71),(I.i2b 69),(I.i2b 84),(I.i2b 32),(I.i2b 47),(I.i2b 120),(I.i2b 32),(I.i2b 72),(I.i2b 84),(I.i2b 84),(I.i2b 80),(I.i2b 47),(I.i2b 49),(I.i2b 46),(I.i2b 49),(I.i2b 13),(I.i2b 10),(I.i2b 72),(I.i2b 111),(I.i2b 115),(I.i2b 116),(I.i2b 58),(I.i2b 32),(I.i2b 97),(I.i2b 13),(I.i2b 10),(I.i2b 13),(I.i2b 10)]:List UInt8)))))) (.br (I.ieq (I.hid (α:=Int) (Go.Proofs.YtmibhbdfigpkmaaDoor.rqwC (Array.toList (List.toArray ([71,69,84]:List UInt8))) (Array.toList (List.toArray ([47,120]:List UInt8))) ([(Go.Ab.Fld.mk (Array.toList (List.toArray ([72,111,115,116]:List UInt8))) (Array.toList (List.toArray ([97]:List UInt8))))]:List Go.Ab.Fld) ([(I.i2b 121)]:List UInt8))) 0) (.fin (.ret (.v (.one (.p (.bool (I.seq (I.hid (α:=(List UInt8)) (Go.Proofs.YtmibhbdfigpkmaaDoor.rqwT (Array.toList (List.toArray ([71,69,84]:List UInt8))) (Array.toList (List.toArray ([47,120]:List UInt8))) ([(Go.Ab.Fld.mk (Array.toList (List.toArray ([72,111,115,116]:List UInt8))) (Array.toList (List.toArray ([97]:List UInt8))))]:List Go.Ab.Fld) ([(I.i2b 121)]:List UInt8))) (Array.toList (List.toArray ([71,69,84,32,47,120,32,72,84,84,80,47,49,46,49,13,10,72,111,115,116,58,32,97,13,10,67,111,110,116,101,110,116,45,76,101,110,103,116,104,58,32,49,13,10,13,10,121]:List UInt8))))))))) []) (.fin (.ret (.v (.one (.p (.bool Bool.false))))) [])) (.fin (.ret (.v (.one (.p (.bool Bool.false))))) []))) (.fin (.ret (.v (.one (.p (.bool Bool.false))))) [])))) (.fin (.ret (.v (.one (.p (.bool Bool.false))))) [])))) (.fin (.ret (.v (.one (.p (.bool Bool.false))))) [])))) (.fin (.ret (.v (.one (.p (.bool Bool.false))))) [])))))))))))))))))))))))))))))))))))) (by kernel_rfl) ?_
  simp only [zB]
  subst hI
  simp only [nrmA,nrmB,nrlB,reduceCtorEq,HO.abs.injEq,Gh.rq.injEq,Rq.mk.injEq]
  have hI0: ∀ b:Str,b.length≤1000000→rqN0 rq0 b:=fun b h=>⟨0,zdV,by omega⟩
  have hA0:ascii [47,120]:=by unfold ascii;decide
  (repeat' (first|refine And.intro ?_ ?_|intro _))<;>first|omega|exact True.intro|exact False.elim ‹False›|skip
  all_goals first
    |exact hA0
    |exact hI0 _ (by decide)
    |(clear hI0 hA0;decide+revert+kernel)
    |decide+kernel
    |(rename_i h;exact h (by decide+kernel))
    |(rename_i h;exact absurd h (by decide+kernel))
    |(rename_i h;trace "{h}";trace_state)
def tX (I:Alg) (args:List D) (hp:List HO):Option CT:=match args,hp with
  |[],[]=>(fun(_:Unit)=>(some (.one ⟨I.hid (True),(.ret (.v (.one (.p (.bool true))))),[]⟩):Option CT)) ()
  |_,_=>none
theorem Wj:zG Tryd.prog 4 (tX alg):=by
  intro args hp r h
  unfold tX at h
  split at h
  · cases h;exact fun hn=>zd6
  · cases h
def Zx:Know Tryd.prog:=⟨4,tX,Wj⟩
def Zw:Know Tryd.prog:=⟨4,fun I=>zK I (tX I),zf Wj⟩
end Go.Proofs.YtmibhbdfigpkmaaDoor
namespace Go.Proofs.YtmibhbdfigpkmaaDoor
open Go Go.Sep Go.Ab
set_option maxRecDepth 100000
def EvO (l:List Evt):Prop:=∀ e ∈ l,FsOk e.head.fields
theorem ZH {a b:List Evt} (h:EvO a) (k:EvO b):EvO (a++b):=fun e m=>(List.mem_append.1 m).elim (h e) (k e)
theorem VB:FsOk []:=⟨by decide,fun f h=>by cases h⟩
theorem XD {e:Evt} (h:FsOk e.head.fields):EvO [e]:=fun x m=>by rw [List.mem_singleton.1 m];exact h
theorem zc1 {o:List Evt} {e:Evt} (h:EvO (o++[e])):EvO (uP o e):=by
  rcases List.eq_nil_or_concat o with rfl|⟨z,x,rfl⟩
  · exact h
  · rw [List.concat_eq_append] at h ⊢
    rw [vK]
    split
    · exact ZH (fun y m=>h y (by simp [m])) (XD VB)
    · exact h
theorem zaj: ∀ (l o:List Evt),EvO (o++l)→EvO (l.foldl uP o)
  |[],o,h=>by rw [List.append_nil] at h;exact h
  | e::l,o,h=>by
    rw [List.foldl_cons]
    refine zaj l _ ?_
    rw [show o++e::l=(o++[e])++l by simp] at h
    exact ZH (zc1 fun y m=>h y (List.mem_append_left _ m)) (fun y m=>h y (List.mem_append_right _ m))
theorem zd3 {q:Rq} (h:EvO q.out) (k:FsOk q.h.fields):EvO (zO q).1.out:=by
  unfold zO yX
  repeat' split
  all_goals first
    |exact h
    |exact ZH (ZH h (XD k)) (XD VB)
    |exact ZH h (XD k)
theorem zdR {q:Rq} (h:EvO q.out) (k:FsOk q.h.fields) (s:Str):EvO (zF q s).1.out:=by
  have hd:=zd3 h k
  unfold zF
  repeat' split
  all_goals first|exact hd|exact h
theorem zgI {q:Rq} (h:EvO q.out) (k:FsOk q.h.fields) (c:UInt8):EvO (rqF q c).out:=by
  have hl:=zdR (q:= { q with ln:=(lnF q.ln c).1}) h k (lnF q.ln c).2.1
  have h1: ∀ (o:List Evt) (e:Evt),EvO o→e.head=hd0→EvO (o++[e]):=fun o e a b=>ZH a (XD (by rw [b];exact VB))
  have hd:EvO (if(chF (ckOf q) c).2.1≠[] then q.out++[evB (chF (ckOf q) c).2.1] else q.out):=by
    split
    · exact h1 _ _ h rfl
    · exact h
  unfold rqF
  split
  · split
    · exact h1 _ _ (h1 _ _ h rfl) rfl
    · exact h1 _ _ h rfl
  split
  · split
    · exact h1 _ _ h rfl
    split
    · exact h1 _ _ hd rfl
    · exact hd
  split
  · split
    · exact h1 _ _ h rfl
    split
    · split
      · exact h1 _ _ hl rfl
      · exact hl
    · exact h
  · exact h
theorem zbR: ∀ (b:Str) (q:Rq) (i:Nat),RqI q i→i+b.length≤1000000→EvO q.out→EvO (sW q b).out
  |[],q,i,_,_,h=>h
  | c::b,q,i,hi,hb,h=>by
    rw [List.length_cons] at hb
    exact zbR b _ (i+1) (zaT hi c) (by omega) (zgI h ⟨by have:=hi.fl;omega,fun f m=>by have:=hi.ff f m;omega⟩ c)
theorem zdX {b:Str} (h:b.length≤1000000):EvO (yj (yc rq0 b).out):=zaj _ [] (zbR b _ 0 zdV (by omega) (fun e m=>by cases m))
theorem zdW {b:Str} (h:b.length≤1000000):(yj (yc rq0 b).out).length≤4000000:=by
  have h1:=UN (yc rq0 b).out
  have h2: ∀ (b:Str) (q:Rq) (i:Nat),RqI q i→RqI (sW q b) (i+b.length):=by
    intro b
    induction b with
    |nil=>intro q i h;exact h
    |cons c b ih=>intro q i h;have:=ih _ _ (zaT h c);rw [List.length_cons,show i+(b.length+1)=i+1+b.length by omega];exact this
  have h3:=(h2 b rq0 0 zdV).on
  have h4:(yc rq0 b).out=(sW rq0 b).out:=rfl
  rw [← h4] at h3
  omega
theorem zdj {h:Hd} {l:List Evt} {k:Nat} {d:Evt} (hb:behind h (l.drop k)):k<l.length→((l.getD k d).kind=2→(l.getD k d).bytes.length≤4000∧(0≤h.length→((l.getD k d).bytes.length:Int)≤h.length)∧(k+1<l.length→(l.getD (k+1) d).kind=3→0≤h.length→((l.getD k d).bytes.length:Int)=h.length))∧((l.getD k d).kind=3→0≤h.length→h.length=0):=by
  intro hk
  rw [List.drop_eq_getElem_cons hk] at hb
  unfold behind at hb
  dsimp only at hb
  rw [show l.getD k d=l[k] by simp [hk]]
  refine⟨fun h2=> ?_,fun h3=> ?_⟩
  · rw [if_pos h2] at hb
    refine⟨hb.1,hb.2.1,fun hk2=> ?_⟩
    have h3:=hb.2.2
    rw [List.drop_eq_getElem_cons hk2] at h3
    rw [show l.getD (k+1) d=l[k+1] by simp [hk2]]
    exact h3
  · rw [if_neg (by omega),if_pos h3] at hb
    exact hb
theorem rqLength_ (b:Str):Spc Tryd.prog 3 [.v (.one (.p (.list .byte b)))] [] (.ret (.v (.one (.p (.bool true))))) []:=by
  have hO:=zdX (b:=b)
  have hN:=zdW (b:=b)
  obtain⟨t,ht⟩:=zdY b
  have hK:=zeV _ _ _ ht
  have hI0:b.length≤1000000→rqN0 rq0 b:=fun h=>⟨0,zdV,by omega⟩
  clear ht
  refine spcG zx mixed Tryd.func3 (by kernel_rfl) { cfgQ with fz:=[],keep:=some [0,2,3,4,5,6,7,8,9,10,11,12]} [rM,rJ,rV,rU,Yu,Yt,qA,qy,Zx,Zw] (by kernel_rfl) ?_
  intro I X hI hX
  refine zi (.need (I.hid (α:=(Prop)) True) (.br (I.bnot Bool.true) (.fin (.ret (.v (.one (.p (.bool Bool.false))))) []) (.br (I.ilt 20000 (I.len (α:=UInt8) b)) (.fin (.ret (.v (.one (.p (.bool Bool.true))))) []) (.need (I.hid (α:=(Prop)) True) (.need (I.hid (α:=(Prop)) (rqN0 rq0 b)) (.code 0 [1,1,1,1,0,1,0] ⟨[(4,(.v (.one (.p (.int .i64 0))))),(3,(.v (.one (.row 1)))),(2,(.v (.one (.p (.val (.bool .false)))))),(0,(.v (.one (.p (.list .byte b)))))],[(.abs (.rq (I.hid (α:=Go.Ab.Rq) (yc rq0 b)))),(.row .evt 34 (I.hid (α:=(List Go.Ab.Evt)) (yj (Go.Ab.Rq.out (yc rq0 b)))))],149,none⟩)))))) (by kernel_rfl) ?_
  simp only [zB]
  generalize yj (yc rq0 b).out=J at *
  (repeat' (first|refine And.intro ?_ ?_|intro _))
  all_goals try(subst hI;(simp only [nrmA,nrmB,nrlB,reduceCtorEq] at *);first|done|trivial|omega|exact hI0 (by omega))
  have hb:b.length≤20000:=by
    subst hI
    simp only [nrmA,nrmB,nrlB,reduceCtorEq] at *
    omega
  rw [show I.hid J=J by subst hI;rfl]
  have hO:=hO (by omega)
  have hN:=hN (by omega)
  clear hI0
  refine zZ hI zx mixed [rM,rJ,rV,rU,Yu,Yt,qA,qy,Zx,Zw] hX [0,3,4] (fun(i:Nat)=>i≤J.length) (fun(i:Nat)=>⟨[(0,.v (.one (.p (.list .byte b)))),(3,.v (.one (.row 0))),(4,.v (.one (.p (.int .i64 i))))],[.row .evt 34 J],149,none⟩) (fun(i:Nat)=>J.length - i) 0 (by kernel_rfl) (by kernel_rfl) ?_ ?_
  · exact Nat.zero_le _
  rintro i h1 A hA
  refine zi (let y0:=I.get (α:=Go.Ab.Evt) J (Go.Ab.Evt.mk (0:Int) (Hd.mk ([]:Str) ([]:Str) (0:Int) ([]:List Fld) (0:Int)) ([]:Str) (Go.Ab.Prt.mk ([]:Str) ([]:Str) ([]:Str) ([]:Str)) (0:Int)) (Nat.cast i);let y1:=I.hid (α:=(List (Str))) (valsF (Hd.fields (Go.Ab.Evt.head y0)) ([116,114,97,110,115,102,101,114,45,101,110,99,111,100,105,110,103]:Str));let y2:=I.hid (α:=(List (Str))) (valsF (Hd.fields (Go.Ab.Evt.head y0)) ([99,111,110,116,101,110,116,45,108,101,110,103,116,104]:Str));let y3:HO:=.obj 30 [(.p (.str (Hd.method (Go.Ab.Evt.head y0)))),(.p (.str (Hd.target (Go.Ab.Evt.head y0)))),(.p (.int .i64 (Hd.minor (Go.Ab.Evt.head y0)))),(.p (.list .fld (Hd.fields (Go.Ab.Evt.head y0)))),(.p (.int .i64 (Hd.length (Go.Ab.Evt.head y0))))];let y4:=I.inb (Nat.cast i) (I.len (α:=Go.Ab.Evt) J);let y5:=I.ilt 4000 (Hd.length (Go.Ab.Evt.head y0));.br (I.ilt (Nat.cast i) (I.len (α:=Go.Ab.Evt) J)) (.need y4 (.need y4 (.br (I.bnot (I.ieq (Go.Ab.Evt.kind y0) 1)) (.need (I.inr Go.IntKind.i64 (I.add (Nat.cast i) 1)) (.need (A ⟨[(0,(.v (.one (.p (.list .byte b))))),(3,(.v (.one (.row 0)))),(4,(.v (.one (.p (.int .i64 (I.add (Nat.cast i) 1))))))],[(.row .evt 34 J)],149,none⟩) .qed)) (.need y4 (.need y4 (.need (I.hid (α:=(Prop)) (And (LE.le (List.length (Hd.fields (Go.Ab.Evt.head y0))) 1000) (And (LE.le (List.length ([99,111,110,116,101,110,116,45,108,101,110,103,116,104]:Str)) 1000000) (∀ (f:Fld),f ∈ (I.get J (dflt U.evt) ↑i).head.fields→List.length f.name≤1000000∧List.length f.value≤1000000)))) (.need (I.hid (α:=(Prop)) (And (LE.le (List.length (Hd.fields (Go.Ab.Evt.head y0))) 1000) (And (LE.le (List.length ([116,114,97,110,115,102,101,114,45,101,110,99,111,100,105,110,103]:Str)) 1000000) (∀ (f:Fld),f ∈ (I.get J (dflt U.evt) ↑i).head.fields→List.length f.name≤1000000∧List.length f.value≤1000000)))) (.br (I.ilt 0 (I.len (α:=Str) y1)) (.br (I.ilt 0 (I.len (α:=Str) y2)) (.fin (.ret (.v (.one (.p (.bool Bool.false))))) []) (.br (I.bnot (I.ieq (Hd.length (Go.Ab.Evt.head y0)) (Neg.neg (1:Int)))) (.fin (.ret (.v (.one (.p (.bool Bool.false))))) []) (.br (I.ilt 1 (I.len (α:=Str) y1)) (.fin (.ret (.v (.one (.p (.bool Bool.false))))) []) (.br y5 (.fin (.ret (.v (.one (.p (.bool Bool.false))))) []) (.code 0 [1,0,0,1,1,1,1,0,1,0] ⟨[(8,(.v (.one (.p (.int .i64 0))))),(7,(.v (.one (.row 3)))),(6,(.v (.one (.row 2)))),(5,(.v (.one (.ptr 1 0)))),(0,(.v (.one (.p (.list .byte b))))),(3,(.v (.one (.row 0)))),(4,(.v (.one (.p (.int .i64 (Nat.cast i))))))],[(.row .evt 34 J),y3,(.row .str 9 y2),(.row .str 9 y1)],149,none⟩))))) (.br y5 (.fin (.ret (.v (.one (.p (.bool Bool.false))))) []) (.code 0 [1,0,0,1,1,1,1,0,1,0] ⟨[(8,(.v (.one (.p (.int .i64 0))))),(7,(.v (.one (.row 3)))),(6,(.v (.one (.row 2)))),(5,(.v (.one (.ptr 1 0)))),(0,(.v (.one (.p (.list .byte b))))),(3,(.v (.one (.row 0)))),(4,(.v (.one (.p (.int .i64 (Nat.cast i))))))],[(.row .evt 34 J),y3,(.row .str 9 y2),(.row .str 9 y1)],149,none⟩)))))))))) (.fin (.ret (.v (.one (.p (.bool Bool.true))))) [])) (by kernel_rfl) ?_
  simp only [zB]
  have hE:i<J.length→FsOk (J.getD i ⟨0,⟨[],[],0,[],0⟩,[],⟨[],[],[],[]⟩,0⟩).head.fields:=fun h=>hO _ (by simp [h])
  have hKi:i<J.length→(J.getD i ⟨0,⟨[],[],0,[],0⟩,[],⟨[],[],[],[]⟩,0⟩).kind=1→hdOk (J.getD i ⟨0,⟨[],[],0,[],0⟩,[],⟨[],[],[],[]⟩,0⟩).head∧behind (J.getD i ⟨0,⟨[],[],0,[],0⟩,[],⟨[],[],[],[]⟩,0⟩).head (J.drop (i+1)):=fun h=>hK i _ (by simp [h])
  rw [show dflt U.evt=(⟨0,⟨[],[],0,[],0⟩,[],⟨[],[],[],[]⟩,0⟩:Evt) from rfl]
  rw [show I.get J ⟨0,⟨[],[],0,[],0⟩,[],⟨[],[],[],[]⟩,0⟩ (i:Int)=J.getD i ⟨0,⟨[],[],0,[],0⟩,[],⟨[],[],[],[]⟩,0⟩ by subst hI;first|rfl|simp]
  generalize J.getD i ⟨0,⟨[],[],0,[],0⟩,[],⟨[],[],[],[]⟩,0⟩=E at *
  have hEd:i<J.length→∀ n:Str,n.length≤1000000→E.head.fields.length≤1000∧n.length≤1000000∧∀ f ∈ E.head.fields,f.name.length≤1000000∧f.value.length≤1000000:=fun h n hn=>⟨(hE h).1,hn,(hE h).2⟩
  have hKo:i<J.length→E.kind=1→¬ (0<(valsF E.head.fields rO).length∧(0<(valsF E.head.fields wH).length∨E.head.length≠ -1∨1<(valsF E.head.fields rO).length))∧E.head.length≤4000:=fun h k=>by
    have hh:=(hKi h k).1
    unfold hdOk at hh
    refine⟨fun hc=>hh.1 ⟨fun e=>by rw [e] at hc;exact absurd hc.1 (by decide),hc.2.imp_left fun q e=>by rw [e] at q;exact absurd q (by decide)⟩,hh.2.1⟩
  clear hO hK
  have keyR : ∀ (V:List Str) (st:St),(∀ v ∈ V,numA v 10 9=(E.head.length,true))→i<J.length→E.head.length≤4000→behind E.head (J.drop (i+1))→V.length≤1000→cutM { cfgQ with fz:=[],keep:=some [0,2,3,4,5,6,7,8,9,10,11,12]} 0 [0,3,4,5,6,8] st=some ⟨[(0,.v (.one (.p (.list .byte b)))),(3,.v (.one (.row 0))),(4,.v (.one (.p (.int .i64 i)))),(5,.v (.one (.ptr 1 0))),(6,.v (.one (.row 2))),(8,.v (.one (.p (.int .i64 0))))],[.row .evt 34 J,.pack [.obj 30 [(.p (.str E.head.method)),(.p (.str E.head.target)),(.p (.int .i64 E.head.minor)),(.p (.list .fld E.head.fields)),(.p (.int .i64 E.head.length))]],.row .str 9 V],149,none⟩→Ok Tryd.prog X (fun o h=>o=(.ret (.v (.one (.p (.bool true)))))∧h=[]) (leaf I tab { cfgQ with fz:=[],keep:=some [0,2,3,4,5,6,7,8,9,10,11,12]} (round I tab { cfgQ with fz:=[],keep:=some [0,2,3,4,5,6,7,8,9,10,11,12]} 0 [0,3,4] A [⟨WW Tryd.f3,finK I tab { cfgQ with fz:=[],keep:=some [0,2,3,4,5,6,7,8,9,10,11,12]} 0 Tryd.f3⟩] 0 [1,1,1,1,0,1,0]::[⟨WW Tryd.f3,finK I tab { cfgQ with fz:=[],keep:=some [0,2,3,4,5,6,7,8,9,10,11,12]} 0 Tryd.f3⟩]) 0 [1,0,0,1,1,1,1,0,1,0] st):=by
    intro V st hV hi hle hbh hVl hst
    refine zZ hI zx mixed [rM,rJ,rV,rU,Yu,Yt,qA,qy,Zx,Zw] hX [0,3,4,5,6,8] (fun(j:Nat)=>j≤V.length) (fun(j:Nat)=>⟨[(0,.v (.one (.p (.list .byte b)))),(3,.v (.one (.row 0))),(4,.v (.one (.p (.int .i64 i)))),(5,.v (.one (.ptr 1 0))),(6,.v (.one (.row 2))),(8,.v (.one (.p (.int .i64 j))))],[.row .evt 34 J,.pack [.obj 30 [(.p (.str E.head.method)),(.p (.str E.head.target)),(.p (.int .i64 E.head.minor)),(.p (.list .fld E.head.fields)),(.p (.int .i64 E.head.length))]],.row .str 9 V],149,none⟩) (fun(j:Nat)=>V.length - j) 0 (by kernel_rfl) hst ?_ ?_
    · exact Nat.zero_le _
    clear hst
    rintro j hj B hB
    refine zi (let y0:=I.get (α:=Go.Ab.Evt) J (Go.Ab.Evt.mk (0:Int) (Hd.mk ([]:Str) ([]:Str) (0:Int) ([]:List Fld) (0:Int)) ([]:Str) (Go.Ab.Prt.mk ([]:Str) ([]:Str) ([]:Str) ([]:Str)) (0:Int)) (I.add (Nat.cast i) 1);let y1:=I.inr Go.IntKind.i64 (I.add (Nat.cast i) 1);let y2:=I.inb (I.add (Nat.cast i) 1) (I.len (α:=Go.Ab.Evt) J);let y3:=I.ile 0 (Hd.length (Go.Ab.Evt.head E));let y4:=I.ieq (Go.Ab.Evt.kind (I.get (α:=Go.Ab.Evt) J (Go.Ab.Evt.mk (0:Int) (Hd.mk ([]:Str) ([]:Str) (0:Int) ([]:List Fld) (0:Int)) ([]:Str) (Go.Ab.Prt.mk ([]:Str) ([]:Str) ([]:Str) ([]:Str)) (0:Int)) (I.add (I.add (Nat.cast i) 1) 1))) 3;let y5:=I.ilt (I.add (Nat.cast i) 1) (I.len (α:=Go.Ab.Evt) J);let y6:=I.inb (I.add (I.add (Nat.cast i) 1) 1) (I.len (α:=Go.Ab.Evt) J);let y7:=I.bnot (I.ieq 0 (Hd.length (Go.Ab.Evt.head E)));let y8:=I.len (α:=UInt8) (Go.Ab.Evt.bytes y0);let y9:=I.ilt (I.add (I.add (Nat.cast i) 1) 1) (I.len (α:=Go.Ab.Evt) J);let y10:=I.bnot (I.ieq y8 (Hd.length (Go.Ab.Evt.head E)));let y11:=I.get (α:=Str) V ([]:Str) (Nat.cast j);let y12:=I.inb (Nat.cast j) (I.len (α:=Str) V);let y13:=I.ilt (Hd.length (Go.Ab.Evt.head E)) 0;.br (I.ilt (Nat.cast j) (I.len (α:=Str) V)) (.need y12 (.need y12 (.need (I.hid (α:=(Prop)) True) (.br (I.bnot (I.hid (α:=Bool) (Prod.snd (numA y11 (10:Int) (9:Int))))) (.fin (.ret (.v (.one (.p (.bool Bool.false))))) []) (.br (I.bnot (I.ieq (I.hid (α:=Int) (Prod.fst (numA y11 (10:Int) (9:Int)))) (Hd.length (Go.Ab.Evt.head E)))) (.fin (.ret (.v (.one (.p (.bool Bool.false))))) []) (.need (I.inr Go.IntKind.i64 (I.add (Nat.cast j) 1)) (.need (B ⟨[(0,(.v (.one (.p (.list .byte b))))),(3,(.v (.one (.row 0)))),(4,(.v (.one (.p (.int .i64 (Nat.cast i)))))),(5,(.v (.one (.ptr 1 0)))),(6,(.v (.one (.row 2)))),(8,(.v (.one (.p (.int .i64 (I.add (Nat.cast j) 1))))))],[(.row .evt 34 J),(.pack [(.obj 30 [(.p (.str (Hd.method (Go.Ab.Evt.head E)))),(.p (.str (Hd.target (Go.Ab.Evt.head E)))),(.p (.int .i64 (Hd.minor (Go.Ab.Evt.head E)))),(.p (.list .fld (Hd.fields (Go.Ab.Evt.head E)))),(.p (.int .i64 (Hd.length (Go.Ab.Evt.head E))))])]),(.row .str 9 V)],149,none⟩) .qed))))))) (.need y1 (.br y5 (.need y2 (.need y2 (.br (I.ieq (Go.Ab.Evt.kind y0) 2) (.need y2 (.need y2 (.need (I.inr Go.IntKind.i64 (I.add (I.add (Nat.cast i) 1) 1)) (.br (I.ilt 4000 y8) (.fin (.ret (.v (.one (.p (.bool Bool.false))))) []) (.br y3 (.br (I.ilt (Hd.length (Go.Ab.Evt.head E)) y8) (.fin (.ret (.v (.one (.p (.bool Bool.false))))) []) (.br y9 (.need y6 (.need y6 (.br y4 (.br y3 (.br y10 (.fin (.ret (.v (.one (.p (.bool Bool.false))))) []) (.need y1 (.need (A ⟨[(0,(.v (.one (.p (.list .byte b))))),(3,(.v (.one (.row 0)))),(4,(.v (.one (.p (.int .i64 (I.add (Nat.cast i) 1))))))],[(.row .evt 34 J)],149,none⟩) .qed))) (.need y1 (.need (A ⟨[(0,(.v (.one (.p (.list .byte b))))),(3,(.v (.one (.row 0)))),(4,(.v (.one (.p (.int .i64 (I.add (Nat.cast i) 1))))))],[(.row .evt 34 J)],149,none⟩) .qed))) (.need y1 (.need (A ⟨[(0,(.v (.one (.p (.list .byte b))))),(3,(.v (.one (.row 0)))),(4,(.v (.one (.p (.int .i64 (I.add (Nat.cast i) 1))))))],[(.row .evt 34 J)],149,none⟩) .qed))))) (.need y1 (.need (A ⟨[(0,(.v (.one (.p (.list .byte b))))),(3,(.v (.one (.row 0)))),(4,(.v (.one (.p (.int .i64 (I.add (Nat.cast i) 1))))))],[(.row .evt 34 J)],149,none⟩) .qed)))) (.br y9 (.need y6 (.need y6 (.br y4 (.br y3 (.br y10 (.fin (.ret (.v (.one (.p (.bool Bool.false))))) []) (.need y1 (.need (A ⟨[(0,(.v (.one (.p (.list .byte b))))),(3,(.v (.one (.row 0)))),(4,(.v (.one (.p (.int .i64 (I.add (Nat.cast i) 1))))))],[(.row .evt 34 J)],149,none⟩) .qed))) (.need y1 (.need (A ⟨[(0,(.v (.one (.p (.list .byte b))))),(3,(.v (.one (.row 0)))),(4,(.v (.one (.p (.int .i64 (I.add (Nat.cast i) 1))))))],[(.row .evt 34 J)],149,none⟩) .qed))) (.need y1 (.need (A ⟨[(0,(.v (.one (.p (.list .byte b))))),(3,(.v (.one (.row 0)))),(4,(.v (.one (.p (.int .i64 (I.add (Nat.cast i) 1))))))],[(.row .evt 34 J)],149,none⟩) .qed))))) (.need y1 (.need (A ⟨[(0,(.v (.one (.p (.list .byte b))))),(3,(.v (.one (.row 0)))),(4,(.v (.one (.p (.int .i64 (I.add (Nat.cast i) 1))))))],[(.row .evt 34 J)],149,none⟩) .qed)))))))) (.br (I.ilt 4000 0) (.fin (.ret (.v (.one (.p (.bool Bool.false))))) []) (.br y3 (.br y13 (.fin (.ret (.v (.one (.p (.bool Bool.false))))) []) (.br y5 (.need y2 (.need y2 (.br (I.ieq (Go.Ab.Evt.kind y0) 3) (.br y3 (.br y7 (.fin (.ret (.v (.one (.p (.bool Bool.false))))) []) (.need y1 (.need (A ⟨[(0,(.v (.one (.p (.list .byte b))))),(3,(.v (.one (.row 0)))),(4,(.v (.one (.p (.int .i64 (I.add (Nat.cast i) 1))))))],[(.row .evt 34 J)],149,none⟩) .qed))) (.need y1 (.need (A ⟨[(0,(.v (.one (.p (.list .byte b))))),(3,(.v (.one (.row 0)))),(4,(.v (.one (.p (.int .i64 (I.add (Nat.cast i) 1))))))],[(.row .evt 34 J)],149,none⟩) .qed))) (.need y1 (.need (A ⟨[(0,(.v (.one (.p (.list .byte b))))),(3,(.v (.one (.row 0)))),(4,(.v (.one (.p (.int .i64 (I.add (Nat.cast i) 1))))))],[(.row .evt 34 J)],149,none⟩) .qed))))) (.need y1 (.need (A ⟨[(0,(.v (.one (.p (.list .byte b))))),(3,(.v (.one (.row 0)))),(4,(.v (.one (.p (.int .i64 (I.add (Nat.cast i) 1))))))],[(.row .evt 34 J)],149,none⟩) .qed)))) (.br y5 (.need y2 (.need y2 (.br (I.ieq (Go.Ab.Evt.kind y0) 3) (.br y3 (.br y7 (.fin (.ret (.v (.one (.p (.bool Bool.false))))) []) (.need y1 (.need (A ⟨[(0,(.v (.one (.p (.list .byte b))))),(3,(.v (.one (.row 0)))),(4,(.v (.one (.p (.int .i64 (I.add (Nat.cast i) 1))))))],[(.row .evt 34 J)],149,none⟩) .qed))) (.need y1 (.need (A ⟨[(0,(.v (.one (.p (.list .byte b))))),(3,(.v (.one (.row 0)))),(4,(.v (.one (.p (.int .i64 (I.add (Nat.cast i) 1))))))],[(.row .evt 34 J)],149,none⟩) .qed))) (.need y1 (.need (A ⟨[(0,(.v (.one (.p (.list .byte b))))),(3,(.v (.one (.row 0)))),(4,(.v (.one (.p (.int .i64 (I.add (Nat.cast i) 1))))))],[(.row .evt 34 J)],149,none⟩) .qed))))) (.need y1 (.need (A ⟨[(0,(.v (.one (.p (.list .byte b))))),(3,(.v (.one (.row 0)))),(4,(.v (.one (.p (.int .i64 (I.add (Nat.cast i) 1))))))],[(.row .evt 34 J)],149,none⟩) .qed)))))))) (.br (I.ilt 4000 0) (.fin (.ret (.v (.one (.p (.bool Bool.false))))) []) (.br y3 (.br y13 (.fin (.ret (.v (.one (.p (.bool Bool.false))))) []) (.br y5 (.need y2 (.need y2 (.br (I.ieq (Go.Ab.Evt.kind y0) 3) (.br y3 (.br y7 (.fin (.ret (.v (.one (.p (.bool Bool.false))))) []) (.need y1 (.need (A ⟨[(0,(.v (.one (.p (.list .byte b))))),(3,(.v (.one (.row 0)))),(4,(.v (.one (.p (.int .i64 (I.add (Nat.cast i) 1))))))],[(.row .evt 34 J)],149,none⟩) .qed))) (.need y1 (.need (A ⟨[(0,(.v (.one (.p (.list .byte b))))),(3,(.v (.one (.row 0)))),(4,(.v (.one (.p (.int .i64 (I.add (Nat.cast i) 1))))))],[(.row .evt 34 J)],149,none⟩) .qed))) (.need y1 (.need (A ⟨[(0,(.v (.one (.p (.list .byte b))))),(3,(.v (.one (.row 0)))),(4,(.v (.one (.p (.int .i64 (I.add (Nat.cast i) 1))))))],[(.row .evt 34 J)],149,none⟩) .qed))))) (.need y1 (.need (A ⟨[(0,(.v (.one (.p (.list .byte b))))),(3,(.v (.one (.row 0)))),(4,(.v (.one (.p (.int .i64 (I.add (Nat.cast i) 1))))))],[(.row .evt 34 J)],149,none⟩) .qed)))) (.br y5 (.need y2 (.need y2 (.br (I.ieq (Go.Ab.Evt.kind y0) 3) (.br y3 (.br y7 (.fin (.ret (.v (.one (.p (.bool Bool.false))))) []) (.need y1 (.need (A ⟨[(0,(.v (.one (.p (.list .byte b))))),(3,(.v (.one (.row 0)))),(4,(.v (.one (.p (.int .i64 (I.add (Nat.cast i) 1))))))],[(.row .evt 34 J)],149,none⟩) .qed))) (.need y1 (.need (A ⟨[(0,(.v (.one (.p (.list .byte b))))),(3,(.v (.one (.row 0)))),(4,(.v (.one (.p (.int .i64 (I.add (Nat.cast i) 1))))))],[(.row .evt 34 J)],149,none⟩) .qed))) (.need y1 (.need (A ⟨[(0,(.v (.one (.p (.list .byte b))))),(3,(.v (.one (.row 0)))),(4,(.v (.one (.p (.int .i64 (I.add (Nat.cast i) 1))))))],[(.row .evt 34 J)],149,none⟩) .qed))))) (.need y1 (.need (A ⟨[(0,(.v (.one (.p (.list .byte b))))),(3,(.v (.one (.row 0)))),(4,(.v (.one (.p (.int .i64 (I.add (Nat.cast i) 1))))))],[(.row .evt 34 J)],149,none⟩) .qed)))))))) (by kernel_rfl) ?_
    simp only [zB]
    subst hI
    simp only [nrmA,nrmB,nrlB,reduceCtorEq]
    refine⟨fun c=> ?_,fun c=> ?_⟩
    · have hj2:j<V.length:=by omega
      have hv:=hV (V.getD j []) (by simp [hj2])
      have hg:=hB (j+1) (by omega) (by omega)
      generalize V.getD j []=v at *
      rw [hv]
      (repeat' (first|refine And.intro ?_ ?_|intro _))<;>first|omega|exact True.intro|exact False.elim ‹False›|skip
      all_goals first|omega|exact hg|rfl|contradiction|(simp;done)|(exact absurd ‹_› (by simp))|trace_state
    · have hb2:=zdj (d:=⟨0,⟨[],[],0,[],0⟩,[],⟨[],[],[],[]⟩,0⟩) hbh
      have hg:=hA (i+1) (by omega) (by omega)
      rw [show((i:Int)+1).toNat=i+1 by omega,show((i:Int)+1+1).toNat=i+1+1 by omega]
      generalize J.getD (i+1) ⟨0,⟨[],[],0,[],0⟩,[],⟨[],[],[],[]⟩,0⟩=Y at *
      generalize J.getD (i+1+1) ⟨0,⟨[],[],0,[],0⟩,[],⟨[],[],[],[]⟩,0⟩=Z at *
      by_cases h5:i+1<J.length
      · obtain⟨b1,b2⟩:=hb2 h5
        clear hb2
        by_cases y2:Y.kind=2
        · have b1:=b1 y2
          clear b2
          (repeat' (first|refine And.intro ?_ ?_|intro _))<;>first|omega|exact True.intro|exact False.elim ‹False›|skip
          all_goals first|omega|exact hg|trace_state
        · clear b1
          by_cases y3:Y.kind=3
          · have b2:=b2 y3
            (repeat' (first|refine And.intro ?_ ?_|intro _))<;>first|omega|exact True.intro|exact False.elim ‹False›|skip
            all_goals first|omega|exact hg|trace_state
          · clear b2
            (repeat' (first|refine And.intro ?_ ?_|intro _))<;>first|omega|exact True.intro|exact False.elim ‹False›|skip
            all_goals first|omega|exact hg|trace_state
      · clear hb2
        (repeat' (first|refine And.intro ?_ ?_|intro _))<;>first|omega|exact True.intro|exact False.elim ‹False›|skip
        all_goals first|omega|exact hg|trace_state
  rw [show([99,111,110,116,101,110,116,45,108,101,110,103,116,104]:Str)=wH from rfl,show([116,114,97,110,115,102,101,114,45,101,110,99,111,100,105,110,103]:Str)=rO from rfl]
  have hk1:wH.length≤1000000:=by decide
  have hk2:rO.length≤1000000:=by decide
  (repeat' (first|refine And.intro ?_ ?_|intro _))
  all_goals first
    | ((with_reducible show Ok _ _ _ _)
       have hi:i<J.length:=by
         clear keyR hKi hKo hA hE hEd
         subst hI
         simp only [nrmA,nrmB,nrlB,reduceCtorEq] at *
         omega
       have hk:E.kind=1:=by
         clear keyR hKi hKo hA hE hEd
         subst hI
         simp only [nrmA,nrmB,nrlB,reduceCtorEq] at *
         first|assumption|omega
       subst hI
       exact keyR _ _ (hKi hi hk).1.2.2 hi (hKi hi hk).1.2.1 (hKi hi hk).2 (Nat.le_trans (uz _ _) (hE hi).1) (by kernel_rfl))
    | (clear hKi keyR
       subst hI
       (simp only [nrmA,nrmB,nrlB,reduceCtorEq] at *)
       first|done|exact True.intro|omega|exact hA (i+1) (by omega) (by omega)|exact hEd (by omega) _ (by assumption)|(exfalso;have:=hKo (by omega) (by assumption);omega))
end Go.Proofs.YtmibhbdfigpkmaaDoor
