/- Texts of this proof, one behind the other: ReqC ReqD ReqE ReqF ReqR RplL RplA ReqG ReqH SamF Base ReqN ReqO ReqQ. -/
import Derived.Test.YtmibhbdfigpkmaaGreatDoorMc
set_option linter.all false
namespace Go.Proofs.YtmibhbdfigpkmaaGreatDoor
open Go Go.Sep Go.Ab
set_option maxRecDepth 100000
theorem zb0 (s:Str):decide (0≤Lib.indexByte s 9)=s.contains 9:=by
  have h: ∀ s:Str,(0≤Lib.indexByte s 9)↔s.contains 9=true:=by
    intro s
    induction s with
    |nil=>simp [Lib.indexByte]
    | cons b l ih=>
      have hb:=uS l 9
      unfold Lib.indexByte
      by_cases e:b=9
      · subst e;simp
      · have e2:(b == 9)=false:=by simpa using e
        have e3:((9:UInt8) == b)=false:=by simpa using fun h:9=b=>e h.symm
        rw [e2,if_neg (by simp),List.contains_cons,e3,Bool.false_or,← ih]
        split
        · rename_i h;have:=beq_iff_eq.1 h;omega
        · rename_i h;have: ¬ Lib.indexByte l 9= -1:=fun e=>h (by rw [e];rfl);omega
  rw [Bool.eq_iff_iff,decide_eq_true_eq];exact h s
theorem zbZ (s:Str):(0≤Lib.indexByte s 9)↔s.contains 9=true:=by rw [← zb0,decide_eq_true_iff]
theorem QZ (b:Str):Lib.hasPrefix b [47]=decide (b.head?=some 47):=by
  cases b with
  |nil=>rfl
  | cons c r=>
    unfold Lib.hasPrefix
    by_cases h:c=47
    · subst h;simp [List.isPrefixOf]
    · simp [List.isPrefixOf,h];exact fun e=>h e.symm
def xu (q:Rq) (s:Str):Rq:=
  if(begM s).1=0 then { q with h:=(begM s).2,pos:=1} else if(begM s).1=11 then { q with h:=(begM s).2} else q
def yM (q:Rq):Prop:=q.own=true
theorem zex (ln:Ln) (p:Int) (m tg:Str) (hm:Int) (hf:List Fld) (hl le:Int) (out:List Evt) (s:Str) (hneed:yM ⟨ln,p,⟨m,tg,hm,hf,hl⟩,le,none,true,out⟩∧s.length≤1000000):Spc Tryz.prog 70 [.v (.one (.ptr 0 0)),.v (.one (.p (.str s)))] [.abs (.rq ⟨ln,p,⟨m,tg,hm,hf,hl⟩,le,none,true,out⟩)] (.ret (.v (.one (.p (.int .i64 ((begM s).1)))))) [.abs (.rq ((xu ⟨ln,p,⟨m,tg,hm,hf,hl⟩,le,none,true,out⟩ s)))]:=by
  obtain⟨-,hs⟩:=hneed
  generalize hr:begM s=r
  obtain⟨rc,⟨rm,rt,ri,rf,rl⟩⟩:=r
  unfold xu
  rw [hr]
  unfold begM at hr
  have hsm:=xY s
  refine spcG zx mixed Tryz.func70 (by kernel_rfl) { cfgQ with keep:=some [0,1,4,5,39]} [wB,wz,Qy,Qx,wZ,wY,Yb,Ya] (by kernel_rfl) ?_
  intro I X hI hX
  refine zi (let y0:=I.hid (α:=(List (Str))) (zX s);let y1:=I.get (α:=Str) y0 ([]:Str) 0;let y2:=I.get (α:=Str) y0 ([]:Str) 1;let y3:=I.get (α:=Str) y0 ([]:Str) 2;.need (I.hid (α:=(Prop)) (LE.le (List.length s) 1000000)) (.br (I.bnot (I.ieq (I.len (α:=Str) y0) 3)) (.fin (.ret (.v (.one (.p (.int .i64 5))))) [(.abs (.rq (Go.Ab.Rq.mk ln p (Hd.mk m tg hm hf hl) le (Option.none) Bool.true out)))]) (.need (I.inb 0 (I.len (α:=Str) y0)) (.need (I.inb 0 (I.len (α:=Str) y0)) (.need (I.hid (α:=(Prop)) (LE.le (List.length y1) 1000000)) (.br (I.bnot (I.hid (α:=Bool) (xX y1))) (.fin (.ret (.v (.one (.p (.int .i64 6))))) [(.abs (.rq (Go.Ab.Rq.mk ln p (Hd.mk m tg hm hf hl) le (Option.none) Bool.true out)))]) (.need (I.inb 1 (I.len (α:=Str) y0)) (.need (I.inb 1 (I.len (α:=Str) y0)) (.need (I.hid (α:=(Prop)) True) (.br (I.bnot (I.hid (α:=Bool) (Go.Lib.hasPrefix y2 ([47]:Str)))) (.fin (.ret (.v (.one (.p (.int .i64 5))))) [(.abs (.rq (Go.Ab.Rq.mk ln p (Hd.mk m tg hm hf hl) le (Option.none) Bool.true out)))]) (.need (I.inb 1 (I.len (α:=Str) y0)) (.need (I.inb 1 (I.len (α:=Str) y0)) (.need (I.hid (α:=(Prop)) True) (.br (I.hid (α:=Bool) (Decidable.decide (LE.le (0:Int) (Go.Lib.indexByte y2 (9:UInt8))))) (.fin (.ret (.v (.one (.p (.int .i64 5))))) [(.abs (.rq (Go.Ab.Rq.mk ln p (Hd.mk m tg hm hf hl) le (Option.none) Bool.true out)))]) (.need (I.inb 0 (I.len (α:=Str) y0)) (.need (I.inb 0 (I.len (α:=Str) y0)) (.need (I.inb 1 (I.len (α:=Str) y0)) (.need (I.inb 1 (I.len (α:=Str) y0)) (.need (I.inb 2 (I.len (α:=Str) y0)) (.need (I.inb 2 (I.len (α:=Str) y0)) (.br (I.seq y3 ([72,84,84,80,47,49,46,49]:Str)) (.fin (.ret (.v (.one (.p (.int .i64 0))))) [(.abs (.rq (Go.Ab.Rq.mk (Go.Ab.Ln.mk (Go.Ab.Ln.b ln) (Go.Ab.Ln.cr ln) (Go.Ab.Ln.code ln)) (1:Int) (Hd.mk y1 y2 (1:Int) ([]:List Fld) (0:Int)) le (Option.none) Bool.true out)))]) (.br (I.seq y3 ([72,84,84,80,47,49,46,48]:Str)) (.fin (.ret (.v (.one (.p (.int .i64 0))))) [(.abs (.rq (Go.Ab.Rq.mk (Go.Ab.Ln.mk (Go.Ab.Ln.b ln) (Go.Ab.Ln.cr ln) (Go.Ab.Ln.code ln)) (1:Int) (Hd.mk y1 y2 (0:Int) ([]:List Fld) (0:Int)) le (Option.none) Bool.true out)))]) (.fin (.ret (.v (.one (.p (.int .i64 11))))) [(.abs (.rq (Go.Ab.Rq.mk (Go.Ab.Ln.mk (Go.Ab.Ln.b ln) (Go.Ab.Ln.cr ln) (Go.Ab.Ln.code ln)) p (Hd.mk y1 y2 (0:Int) ([]:List Fld) (0:Int)) le (Option.none) Bool.true out)))]))))))))))))))))))))))) (by kernel_rfl) ?_
  simp only [zC]
  subst hI
  simp only [nrmA,nrmB,nrlB,reduceCtorEq,HO.abs.injEq,Gh.rq.injEq,Rq.mk.injEq]
  generalize zX s=L at *
  by_cases h3:L.length=3
  · obtain⟨a,b,c,rfl⟩: ∃ a b c,L=[a,b,c]:=by
      match L,h3 with
      |[a,b,c],_=>exact⟨a,b,c,rfl⟩
    have ha:=hsm a (by simp)
    have hb:=hsm b (by simp)
    clear hsm h3
    simp only [show Int.toNat 1=1 from rfl,show Int.toNat 2=2 from rfl,List.getD_cons_zero,List.getD_cons_succ,QZ,zb0,zbZ,Bool.decide_eq_true] at hr ⊢
    by_cases q1:xX a=false
    · rw [if_pos q1] at hr
      simp only [Prod.mk.injEq,hd0,Hd.mk.injEq] at hr
      obtain⟨rfl,rfl,rfl,rfl,rfl,rfl⟩:=hr
      (repeat' (first|refine And.intro ?_ ?_|intro _))<;>first|omega|exact True.intro|exact False.elim ‹False›|skip
      all_goals first|omega|rfl|(simp only [List.length_cons,List.length_nil];omega)|(simp_all;done)|trace_state
    rw [if_neg q1] at hr
    by_cases q2:b.head?≠some 47∨b.contains 9=true
    · rw [if_pos q2] at hr
      simp only [Prod.mk.injEq,hd0,Hd.mk.injEq] at hr
      obtain⟨rfl,rfl,rfl,rfl,rfl,rfl⟩:=hr
      (repeat' (first|refine And.intro ?_ ?_|intro _))<;>first|omega|exact True.intro|exact False.elim ‹False›|skip
      all_goals first|omega|rfl|(simp only [List.length_cons,List.length_nil];omega)|(simp_all;done)|trace_state
    rw [if_neg q2] at hr
    by_cases q3:c=qY
    · rw [if_pos q3] at hr
      simp only [Prod.mk.injEq,Hd.mk.injEq] at hr
      obtain⟨rfl,rfl,rfl,rfl,rfl,rfl⟩:=hr
      unfold qY at q3
      (repeat' (first|refine And.intro ?_ ?_|intro _))<;>first|omega|exact True.intro|exact False.elim ‹False›|skip
      all_goals first|omega|rfl|(simp only [List.length_cons,List.length_nil];omega)|(simp_all;done)|trace_state
    rw [if_neg q3] at hr
    by_cases q4:c=Xm
    · rw [if_pos q4] at hr
      simp only [Prod.mk.injEq,Hd.mk.injEq] at hr
      obtain⟨rfl,rfl,rfl,rfl,rfl,rfl⟩:=hr
      unfold qY at q3
      unfold Xm at q4
      (repeat' (first|refine And.intro ?_ ?_|intro _))<;>first|omega|exact True.intro|exact False.elim ‹False›|skip
      all_goals first|omega|rfl|(simp only [List.length_cons,List.length_nil];omega)|(simp_all;done)|trace_state
    rw [if_neg q4] at hr
    simp only [Prod.mk.injEq,Hd.mk.injEq] at hr
    obtain⟨rfl,rfl,rfl,rfl,rfl,rfl⟩:=hr
    unfold qY at q3
    unfold Xm at q4
    (repeat' (first|refine And.intro ?_ ?_|intro _))<;>first|omega|exact True.intro|exact False.elim ‹False›|skip
    all_goals first|omega|rfl|(simp only [List.length_cons,List.length_nil];omega)|(simp_all;done)|trace_state
  · have hr2:(5,hd0)=((rc,⟨rm,rt,ri,rf,rl⟩):Int × Hd):=by
      rw [← hr]
      split
      · exact absurd rfl h3
      · rfl
    simp only [Prod.mk.injEq,hd0,Hd.mk.injEq] at hr2
    obtain⟨rfl,rfl,rfl,rfl,rfl,rfl⟩:=hr2
    (repeat' (first|refine And.intro ?_ ?_|intro _))<;>first|omega|exact True.intro|exact False.elim ‹False›|skip
    all_goals first|omega|rfl|(simp only [List.length_cons,List.length_nil];omega)|trace_state
theorem zey (ln:Ln) (p:Int) (m tg:Str) (hm:Int) (hf:List Fld) (hl le:Int) (out:List Evt) (s:Str) (hneed:yM ⟨ln,p,⟨m,tg,hm,hf,hl⟩,le,none,false,out⟩∧s.length≤1000000):Spc Tryz.prog 70 [.v (.one (.ptr 0 0)),.v (.one (.p (.str s)))] [.abs (.rq ⟨ln,p,⟨m,tg,hm,hf,hl⟩,le,none,false,out⟩)] (.ret (.v (.one (.p (.int .i64 ((begM s).1)))))) [.abs (.rq ((xu ⟨ln,p,⟨m,tg,hm,hf,hl⟩,le,none,false,out⟩ s)))]:=by
  exact absurd hneed.1 (fun h=>by unfold yM at h;cases h)
theorem zev (ln:Ln) (p:Int) (m tg:Str) (hm:Int) (hf:List Fld) (hl le:Int) (ch:Ch) (out:List Evt) (s:Str) (hneed:yM ⟨ln,p,⟨m,tg,hm,hf,hl⟩,le,some ch,true,out⟩∧s.length≤1000000):Spc Tryz.prog 70 [.v (.one (.ptr 0 0)),.v (.one (.p (.str s)))] [.abs (.rq ⟨ln,p,⟨m,tg,hm,hf,hl⟩,le,some ch,true,out⟩)] (.ret (.v (.one (.p (.int .i64 ((begM s).1)))))) [.abs (.rq ((xu ⟨ln,p,⟨m,tg,hm,hf,hl⟩,le,some ch,true,out⟩ s)))]:=by
  obtain⟨-,hs⟩:=hneed
  generalize hr:begM s=r
  obtain⟨rc,⟨rm,rt,ri,rf,rl⟩⟩:=r
  unfold xu
  rw [hr]
  unfold begM at hr
  have hsm:=xY s
  refine spcG zx mixed Tryz.func70 (by kernel_rfl) { cfgQ with keep:=some [0,1,4,5,39]} [wB,wz,Qy,Qx,wZ,wY,Yb,Ya] (by kernel_rfl) ?_
  intro I X hI hX
  refine zi (let y0:=I.hid (α:=(List (Str))) (zX s);let y1:=I.get (α:=Str) y0 ([]:Str) 0;let y2:=I.get (α:=Str) y0 ([]:Str) 1;let y3:=I.get (α:=Str) y0 ([]:Str) 2;.need (I.hid (α:=(Prop)) (LE.le (List.length s) 1000000)) (.br (I.bnot (I.ieq (I.len (α:=Str) y0) 3)) (.fin (.ret (.v (.one (.p (.int .i64 5))))) [(.abs (.rq (Go.Ab.Rq.mk ln p (Hd.mk m tg hm hf hl) le (Option.some ch) Bool.true out)))]) (.need (I.inb 0 (I.len (α:=Str) y0)) (.need (I.inb 0 (I.len (α:=Str) y0)) (.need (I.hid (α:=(Prop)) (LE.le (List.length y1) 1000000)) (.br (I.bnot (I.hid (α:=Bool) (xX y1))) (.fin (.ret (.v (.one (.p (.int .i64 6))))) [(.abs (.rq (Go.Ab.Rq.mk ln p (Hd.mk m tg hm hf hl) le (Option.some ch) Bool.true out)))]) (.need (I.inb 1 (I.len (α:=Str) y0)) (.need (I.inb 1 (I.len (α:=Str) y0)) (.need (I.hid (α:=(Prop)) True) (.br (I.bnot (I.hid (α:=Bool) (Go.Lib.hasPrefix y2 ([47]:Str)))) (.fin (.ret (.v (.one (.p (.int .i64 5))))) [(.abs (.rq (Go.Ab.Rq.mk ln p (Hd.mk m tg hm hf hl) le (Option.some ch) Bool.true out)))]) (.need (I.inb 1 (I.len (α:=Str) y0)) (.need (I.inb 1 (I.len (α:=Str) y0)) (.need (I.hid (α:=(Prop)) True) (.br (I.hid (α:=Bool) (Decidable.decide (LE.le (0:Int) (Go.Lib.indexByte y2 (9:UInt8))))) (.fin (.ret (.v (.one (.p (.int .i64 5))))) [(.abs (.rq (Go.Ab.Rq.mk ln p (Hd.mk m tg hm hf hl) le (Option.some ch) Bool.true out)))]) (.need (I.inb 0 (I.len (α:=Str) y0)) (.need (I.inb 0 (I.len (α:=Str) y0)) (.need (I.inb 1 (I.len (α:=Str) y0)) (.need (I.inb 1 (I.len (α:=Str) y0)) (.need (I.inb 2 (I.len (α:=Str) y0)) (.need (I.inb 2 (I.len (α:=Str) y0)) (.br (I.seq y3 ([72,84,84,80,47,49,46,49]:Str)) (.fin (.ret (.v (.one (.p (.int .i64 0))))) [(.abs (.rq (Go.Ab.Rq.mk (Go.Ab.Ln.mk (Go.Ab.Ln.b ln) (Go.Ab.Ln.cr ln) (Go.Ab.Ln.code ln)) (1:Int) (Hd.mk y1 y2 (1:Int) ([]:List Fld) (0:Int)) le (Option.some (Go.Ab.Ch.mk (Go.Ab.Ln.mk (Go.Ab.Ln.b (Go.Ab.Ch.ln ch)) (Go.Ab.Ln.cr (Go.Ab.Ch.ln ch)) (Go.Ab.Ln.code (Go.Ab.Ch.ln ch))) (Go.Ab.Ch.pos ch) (Go.Ab.Ch.left ch) (Go.Ab.Ch.all ch) (Go.Ab.Ch.tails ch) (Go.Ab.Ch.code ch))) Bool.true out)))]) (.br (I.seq y3 ([72,84,84,80,47,49,46,48]:Str)) (.fin (.ret (.v (.one (.p (.int .i64 0))))) [(.abs (.rq (Go.Ab.Rq.mk (Go.Ab.Ln.mk (Go.Ab.Ln.b ln) (Go.Ab.Ln.cr ln) (Go.Ab.Ln.code ln)) (1:Int) (Hd.mk y1 y2 (0:Int) ([]:List Fld) (0:Int)) le (Option.some (Go.Ab.Ch.mk (Go.Ab.Ln.mk (Go.Ab.Ln.b (Go.Ab.Ch.ln ch)) (Go.Ab.Ln.cr (Go.Ab.Ch.ln ch)) (Go.Ab.Ln.code (Go.Ab.Ch.ln ch))) (Go.Ab.Ch.pos ch) (Go.Ab.Ch.left ch) (Go.Ab.Ch.all ch) (Go.Ab.Ch.tails ch) (Go.Ab.Ch.code ch))) Bool.true out)))]) (.fin (.ret (.v (.one (.p (.int .i64 11))))) [(.abs (.rq (Go.Ab.Rq.mk (Go.Ab.Ln.mk (Go.Ab.Ln.b ln) (Go.Ab.Ln.cr ln) (Go.Ab.Ln.code ln)) p (Hd.mk y1 y2 (0:Int) ([]:List Fld) (0:Int)) le (Option.some (Go.Ab.Ch.mk (Go.Ab.Ln.mk (Go.Ab.Ln.b (Go.Ab.Ch.ln ch)) (Go.Ab.Ln.cr (Go.Ab.Ch.ln ch)) (Go.Ab.Ln.code (Go.Ab.Ch.ln ch))) (Go.Ab.Ch.pos ch) (Go.Ab.Ch.left ch) (Go.Ab.Ch.all ch) (Go.Ab.Ch.tails ch) (Go.Ab.Ch.code ch))) Bool.true out)))]))))))))))))))))))))))) (by kernel_rfl) ?_
  simp only [zC]
  subst hI
  simp only [nrmA,nrmB,nrlB,reduceCtorEq,HO.abs.injEq,Gh.rq.injEq,Rq.mk.injEq]
  generalize zX s=L at *
  by_cases h3:L.length=3
  · obtain⟨a,b,c,rfl⟩: ∃ a b c,L=[a,b,c]:=by
      match L,h3 with
      |[a,b,c],_=>exact⟨a,b,c,rfl⟩
    have ha:=hsm a (by simp)
    have hb:=hsm b (by simp)
    clear hsm h3
    simp only [show Int.toNat 1=1 from rfl,show Int.toNat 2=2 from rfl,List.getD_cons_zero,List.getD_cons_succ,QZ,zb0,zbZ,Bool.decide_eq_true] at hr ⊢
    by_cases q1:xX a=false
    · rw [if_pos q1] at hr
      simp only [Prod.mk.injEq,hd0,Hd.mk.injEq] at hr
      obtain⟨rfl,rfl,rfl,rfl,rfl,rfl⟩:=hr
      (repeat' (first|refine And.intro ?_ ?_|intro _))<;>first|omega|exact True.intro|exact False.elim ‹False›|skip
      all_goals first|omega|rfl|(simp only [List.length_cons,List.length_nil];omega)|(simp_all;done)|trace_state
    rw [if_neg q1] at hr
    by_cases q2:b.head?≠some 47∨b.contains 9=true
    · rw [if_pos q2] at hr
      simp only [Prod.mk.injEq,hd0,Hd.mk.injEq] at hr
      obtain⟨rfl,rfl,rfl,rfl,rfl,rfl⟩:=hr
      (repeat' (first|refine And.intro ?_ ?_|intro _))<;>first|omega|exact True.intro|exact False.elim ‹False›|skip
      all_goals first|omega|rfl|(simp only [List.length_cons,List.length_nil];omega)|(simp_all;done)|trace_state
    rw [if_neg q2] at hr
    by_cases q3:c=qY
    · rw [if_pos q3] at hr
      simp only [Prod.mk.injEq,Hd.mk.injEq] at hr
      obtain⟨rfl,rfl,rfl,rfl,rfl,rfl⟩:=hr
      unfold qY at q3
      (repeat' (first|refine And.intro ?_ ?_|intro _))<;>first|omega|exact True.intro|exact False.elim ‹False›|skip
      all_goals first|omega|rfl|(simp only [List.length_cons,List.length_nil];omega)|(simp_all;done)|trace_state
    rw [if_neg q3] at hr
    by_cases q4:c=Xm
    · rw [if_pos q4] at hr
      simp only [Prod.mk.injEq,Hd.mk.injEq] at hr
      obtain⟨rfl,rfl,rfl,rfl,rfl,rfl⟩:=hr
      unfold qY at q3
      unfold Xm at q4
      (repeat' (first|refine And.intro ?_ ?_|intro _))<;>first|omega|exact True.intro|exact False.elim ‹False›|skip
      all_goals first|omega|rfl|(simp only [List.length_cons,List.length_nil];omega)|(simp_all;done)|trace_state
    rw [if_neg q4] at hr
    simp only [Prod.mk.injEq,Hd.mk.injEq] at hr
    obtain⟨rfl,rfl,rfl,rfl,rfl,rfl⟩:=hr
    unfold qY at q3
    unfold Xm at q4
    (repeat' (first|refine And.intro ?_ ?_|intro _))<;>first|omega|exact True.intro|exact False.elim ‹False›|skip
    all_goals first|omega|rfl|(simp only [List.length_cons,List.length_nil];omega)|(simp_all;done)|trace_state
  · have hr2:(5,hd0)=((rc,⟨rm,rt,ri,rf,rl⟩):Int × Hd):=by
      rw [← hr]
      split
      · exact absurd rfl h3
      · rfl
    simp only [Prod.mk.injEq,hd0,Hd.mk.injEq] at hr2
    obtain⟨rfl,rfl,rfl,rfl,rfl,rfl⟩:=hr2
    (repeat' (first|refine And.intro ?_ ?_|intro _))<;>first|omega|exact True.intro|exact False.elim ‹False›|skip
    all_goals first|omega|rfl|(simp only [List.length_cons,List.length_nil];omega)|trace_state
theorem zew (ln:Ln) (p:Int) (m tg:Str) (hm:Int) (hf:List Fld) (hl le:Int) (ch:Ch) (out:List Evt) (s:Str) (hneed:yM ⟨ln,p,⟨m,tg,hm,hf,hl⟩,le,some ch,false,out⟩∧s.length≤1000000):Spc Tryz.prog 70 [.v (.one (.ptr 0 0)),.v (.one (.p (.str s)))] [.abs (.rq ⟨ln,p,⟨m,tg,hm,hf,hl⟩,le,some ch,false,out⟩)] (.ret (.v (.one (.p (.int .i64 ((begM s).1)))))) [.abs (.rq ((xu ⟨ln,p,⟨m,tg,hm,hf,hl⟩,le,some ch,false,out⟩ s)))]:=by
  exact absurd hneed.1 (fun h=>by unfold yM at h;cases h)
theorem zgx (q:Rq) (s:Str) (hneed:yM q∧s.length≤1000000):Spc Tryz.prog 70 [.v (.one (.ptr 0 0)),.v (.one (.p (.str s)))] [.abs (.rq q)] (.ret (.v (.one (.p (.int .i64 ((begM s).1)))))) [.abs (.rq ((xu q s)))]:=by
  obtain⟨ln,p,⟨m,tg,hm,hf,hl⟩,le,ck,own,out⟩:=q
  cases ck with
  | none=>cases own with
    |true=>exact zex ln p m tg hm hf hl le out s hneed
    |false=>exact zey ln p m tg hm hf hl le out s hneed
  | some ch=>cases own with
    |true=>exact zev ln p m tg hm hf hl le ch out s hneed
    |false=>exact zew ln p m tg hm hf hl le ch out s hneed
def Yv (I:Alg) (args:List D) (hp:List HO):Option CT:=match args,hp with
  |[.v (.one (.ptr 0 0)),.v (.one (.p (.str s)))],[.abs (.rq q)]=>(fun(q:Rq) (s:Str)=>(some (.one ⟨I.hid (yM q∧s.length≤1000000),(.ret (.v (.one (.p (.int .i64 (I.hid ((begM s).1))))))),[.abs (.rq (I.hid ((xu q s))))]⟩):Option CT)) q s
  |_,_=>none
theorem QX:zI Tryz.prog 70 (Yv alg):=by
  intro args hp r h
  unfold Yv at h
  split at h
  · cases h;exact fun hn=>zgx _ _ hn
  · cases h
def QW:Know Tryz.prog:=⟨70,Yv,QX⟩
def QV:Know Tryz.prog:=⟨70,fun I=>zL I (Yv I),zf QX⟩
def FsOk (f:List Fld):Prop:=f.length≤1000∧∀ x ∈ f,x.name.length≤1000000∧x.value.length≤1000000
theorem rZ (f:List Fld) (n:Str):(valsF f n).length≤f.length:=by
  unfold valsF
  first|exact Nat.le_trans (List.length_map ..).le (List.length_filter_le _ _)|(rw [List.length_map];exact List.length_filter_le _ _)|exact List.length_filterMap_le _ _
theorem zee (a:Str) (n:Int) (l:List Str) (i:Nat) (h: ¬ i<l.length):sizM a n (l.drop i)=(n,0):=by
  rw [List.drop_of_length_le (by omega)];rfl
theorem zb4 (a:Str) (n:Int) (l:List Str) (i:Nat) (h:i<l.length):sizM a n (l.drop i)=if(numA (l.getD i []) 10 9).2=false then(0,7) else if l.getD i []≠a then(0,12) else sizM a (numA (l.getD i []) 10 9).1 (l.drop (i+1)):=by
  rw [List.drop_eq_getElem_cons h,show l.getD i []=l[i] by simp [h]];rfl
theorem zgv (m t:Str) (mi:Int) (f:List Fld) (le:Int) (hneed:FsOk f):Spc Tryz.prog 88 [.v (.agg [(.p (.str m)),(.p (.str t)),(.p (.int .i64 mi)),(.p (.list .fld f)),(.p (.int .i64 le))])] [] (.ret (.tup [(.one (.p (.int .i64 ((lenM mi f).1)))),(.one (.p (.int .i64 ((lenM mi f).2))))])) []:=by
  obtain⟨hf1,hf2⟩:=hneed
  generalize hr:lenM mi f=r
  obtain⟨rn,rc⟩:=r
  refine spcG zx mixed Tryz.func88 (by kernel_rfl) { keep:=some [0,1,2,3,4,5,6,7,8,9,10,45,46,47]} [Zi,Zh,Xy,Xx,WU,WT] (by kernel_rfl) ?_
  intro I X hI hX
  refine zi (let y0:=I.hid (α:=(List (Str))) (valsF f ([116,114,97,110,115,102,101,114,45,101,110,99,111,100,105,110,103]:Str));let y1:=I.hid (α:=(List (Str))) (valsF f ([99,111,110,116,101,110,116,45,108,101,110,103,116,104]:Str));let y2:=I.bnot (I.seq (I.hid (α:=Str) (lowS (I.get (α:=Str) y0 ([]:Str) 0))) ([99,104,117,110,107,101,100]:Str));let y3:HO:=.obj 25 [(.p (.str m)),(.p (.str t)),(.p (.int .i64 mi)),(.p (.list .fld f)),(.p (.int .i64 le))];let y4:=I.hid (α:=(Prop)) (LE.le (List.length (I.get (α:=Str) y0 ([]:Str) 0)) 1000000);.need (I.hid (α:=(Prop)) (And (LE.le (List.length f) 1000) (And (LE.le (List.length ([99,111,110,116,101,110,116,45,108,101,110,103,116,104]:Str)) 1000000) (∀ (f_1:Fld),f_1 ∈ f→List.length f_1.name≤1000000∧List.length f_1.value≤1000000)))) (.need (I.hid (α:=(Prop)) (And (LE.le (List.length f) 1000) (And (LE.le (List.length ([116,114,97,110,115,102,101,114,45,101,110,99,111,100,105,110,103]:Str)) 1000000) (∀ (f_1:Fld),f_1 ∈ f→List.length f_1.name≤1000000∧List.length f_1.value≤1000000)))) (.br (I.ilt 0 (I.len (α:=Str) y0)) (.br (I.ilt 0 (I.len (α:=Str) y1)) (.fin (.ret (.tup [(.one (.p (.int .i64 0))),(.one (.p (.int .i64 12)))])) []) (.br (I.ieq mi 0) (.fin (.ret (.tup [(.one (.p (.int .i64 0))),(.one (.p (.int .i64 12)))])) []) (.br (I.ilt 0 (I.len (α:=Str) y0)) (.br (I.ilt 1 (I.len (α:=Str) y0)) (.fin (.ret (.tup [(.one (.p (.int .i64 0))),(.one (.p (.int .i64 11)))])) []) (.need (I.inb 0 (I.len (α:=Str) y0)) (.need (I.inb 0 (I.len (α:=Str) y0)) (.need y4 (.br y2 (.fin (.ret (.tup [(.one (.p (.int .i64 0))),(.one (.p (.int .i64 11)))])) []) (.fin (.ret (.tup [(.one (.p (.int .i64 (Neg.neg (1:Int))))),(.one (.p (.int .i64 0)))])) [])))))) (.code 0 [1,1,1,1,0,1,0] ⟨[(47,(.v (.one (.p (.int .i64 0))))),(46,(.v (.one (.p (.int .i64 (I.len (α:=Str) y1)))))),(45,(.v (.one (.row 1)))),(6,(.v (.one (.p (.int .i64 0))))),(5,(.v (.one (.row 2)))),(4,(.v (.one (.row 1)))),(3,(.v (.one (.p (.int .i64 0))))),(2,(.v (.one (.p (.int .i64 0))))),(1,(.v (.one (.ptr 0 0)))),(0,(.v (.agg [(.p (.str m)),(.p (.str t)),(.p (.int .i64 mi)),(.p (.list .fld f)),(.p (.int .i64 le))])))],[y3,(.row .str 9 y1),(.row .str 9 y0)],75,none⟩)))) (.br (I.ilt 0 (I.len (α:=Str) y0)) (.br (I.ilt 1 (I.len (α:=Str) y0)) (.fin (.ret (.tup [(.one (.p (.int .i64 0))),(.one (.p (.int .i64 11)))])) []) (.need (I.inb 0 (I.len (α:=Str) y0)) (.need (I.inb 0 (I.len (α:=Str) y0)) (.need y4 (.br y2 (.fin (.ret (.tup [(.one (.p (.int .i64 0))),(.one (.p (.int .i64 11)))])) []) (.fin (.ret (.tup [(.one (.p (.int .i64 (Neg.neg (1:Int))))),(.one (.p (.int .i64 0)))])) [])))))) (.code 0 [1,1,1,1,0,1,0] ⟨[(47,(.v (.one (.p (.int .i64 0))))),(46,(.v (.one (.p (.int .i64 (I.len (α:=Str) y1)))))),(45,(.v (.one (.row 1)))),(6,(.v (.one (.p (.int .i64 0))))),(5,(.v (.one (.row 2)))),(4,(.v (.one (.row 1)))),(3,(.v (.one (.p (.int .i64 0))))),(2,(.v (.one (.p (.int .i64 0))))),(1,(.v (.one (.ptr 0 0)))),(0,(.v (.agg [(.p (.str m)),(.p (.str t)),(.p (.int .i64 mi)),(.p (.list .fld f)),(.p (.int .i64 le))])))],[y3,(.row .str 9 y1),(.row .str 9 y0)],75,none⟩))))) (by kernel_rfl) ?_
  simp only [zC]
  have hh: ∀ {α:Type} (x:α),I.hid x=x:=by subst hI;intros;rfl
  have hln: ∀ (l:List Str),I.len l=(l.length:Int):=by subst hI;intros;rfl
  simp only [hh,hln]
  unfold lenM at hr
  rw [show Vd=[116,114,97,110,115,102,101,114,45,101,110,99,111,100,105,110,103] from rfl,show uV=[99,111,110,116,101,110,116,45,108,101,110,103,116,104] from rfl] at hr
  have hL1:=rZ f [99,111,110,116,101,110,116,45,108,101,110,103,116,104]
  have hT1:=rZ f [116,114,97,110,115,102,101,114,45,101,110,99,111,100,105,110,103]
  have hT2: ∀ x ∈ valsF f [116,114,97,110,115,102,101,114,45,101,110,99,111,100,105,110,103],x.length≤1000000:=by
    intro x hx
    unfold valsF at hx
    rw [List.mem_map] at hx
    obtain⟨y,hy,rfl⟩:=hx
    exact(hf2 y (List.mem_filter.1 hy).1).2
  generalize valsF f [99,111,110,116,101,110,116,45,108,101,110,103,116,104]=L at *
  generalize valsF f [116,114,97,110,115,102,101,114,45,101,110,99,111,100,105,110,103]=T at *
  have keyL: ∀ (k:Int) (st:St),k=(L.length:Int)→(if(sizM (L.getD 0 []) 0 L).2≠0 then(0,(sizM (L.getD 0 []) 0 L).2) else if 4000<(sizM (L.getD 0 []) 0 L).1 then(0,4) else((sizM (L.getD 0 []) 0 L).1,0))=(rn,rc)→cutM { keep:=some [0,1,2,3,4,5,6,7,8,9,10,45,46,47]} 0 [4,6,45,46,47] st=some ⟨[(4,.v (.one (.row 0))),(6,.v (.one (.p (.int .i64 0)))),(45,.v (.one (.row 0))),(46,.v (.one (.p (.int .i64 k)))),(47,.v (.one (.p (.int .i64 0))))],[.row .str 9 L],75,none⟩→Ok Tryz.prog X (fun o h=>o=(.ret (.tup [(.one (.p (.int .i64 rn))),(.one (.p (.int .i64 rc)))]))∧h=[]) (leaf I tab { keep:=some [0,1,2,3,4,5,6,7,8,9,10,45,46,47]} [⟨zaU Tryz.f88,finK I tab { keep:=some [0,1,2,3,4,5,6,7,8,9,10,45,46,47]} 0 Tryz.f88⟩] 0 [1,1,1,1,0,1,0] st):=by
    intro k st hk hm hst
    refine yE hI zx mixed [Zi,Zh,Xy,Xx,WU,WT] hX [4,6,45,46,47] (fun(g:Nat × Int)=>match g with|(i,n)=>i≤L.length∧(if(sizM (L.getD 0 []) n (L.drop i)).2≠0 then(0,(sizM (L.getD 0 []) n (L.drop i)).2) else if 4000<(sizM (L.getD 0 []) n (L.drop i)).1 then(0,4) else((sizM (L.getD 0 []) n (L.drop i)).1,0))=(rn,rc)) (fun(g:Nat × Int)=>match g with|(i,n)=>⟨[(4,.v (.one (.row 0))),(6,.v (.one (.p (.int .i64 n)))),(45,.v (.one (.row 0))),(46,.v (.one (.p (.int .i64 k)))),(47,.v (.one (.p (.int .i64 i))))],[.row .str 9 L],75,none⟩) (fun(g:Nat × Int)=>match g with|(i,n)=>L.length - i) (0,0) (by kernel_rfl) hst ?_ ?_
    · exact⟨Nat.zero_le _,hm⟩
    clear hm hst hr
    rintro⟨i,n⟩ ⟨h1,hm⟩ A hA
    simp only at hA
    refine zi (let y0:=I.get (α:=Str) L ([]:Str) (Nat.cast i);let y1:=I.hid (α:=Int) (Prod.fst (numA y0 (10:Int) (9:Int)));let y2:=I.inr Go.IntKind.i64 (I.add (Nat.cast i) 1);let y3:=I.inb (Nat.cast i) (I.len (α:=Str) L);.br (I.ilt (Nat.cast i) k) (.need y3 (.need y3 (.need (I.hid (α:=(Prop)) True) (.br (I.bnot (I.hid (α:=Bool) (Prod.snd (numA y0 (10:Int) (9:Int))))) (.fin (.ret (.tup [(.one (.p (.int .i64 0))),(.one (.p (.int .i64 7)))])) []) (.br (I.ilt 0 (Nat.cast i)) (.need (I.inb 0 (I.len (α:=Str) L)) (.need (I.inb 0 (I.len (α:=Str) L)) (.br (I.bnot (I.seq y0 (I.get (α:=Str) L ([]:Str) 0))) (.fin (.ret (.tup [(.one (.p (.int .i64 0))),(.one (.p (.int .i64 12)))])) []) (.need y2 (.need (A ⟨[(4,(.v (.one (.row 0)))),(6,(.v (.one (.p (.int .i64 y1))))),(45,(.v (.one (.row 0)))),(46,(.v (.one (.p (.int .i64 k))))),(47,(.v (.one (.p (.int .i64 (I.add (Nat.cast i) 1))))))],[(.row .str 9 L)],75,none⟩) .qed))))) (.need y2 (.need (A ⟨[(4,(.v (.one (.row 0)))),(6,(.v (.one (.p (.int .i64 y1))))),(45,(.v (.one (.row 0)))),(46,(.v (.one (.p (.int .i64 k))))),(47,(.v (.one (.p (.int .i64 (I.add (Nat.cast i) 1))))))],[(.row .str 9 L)],75,none⟩) .qed))))))) (.br (I.ilt 4000 n) (.fin (.ret (.tup [(.one (.p (.int .i64 0))),(.one (.p (.int .i64 4)))])) []) (.fin (.ret (.tup [(.one (.p (.int .i64 n))),(.one (.p (.int .i64 0)))])) []))) (by kernel_rfl) ?_
    simp only [zC]
    subst hI
    simp only [nrmA,nrmB]
    by_cases hi:i<L.length
    · rw [zb4 _ _ _ _ hi] at hm
      have h0:i=0→L.getD i []=L.getD 0 []:=fun h=>by rw [h]
      have hn:=Xa (L.getD i [])
      have hgo:=hA (i+1,(numA (L.getD i []) 10 9).1)
      generalize L.getD i []=x at *
      generalize L.getD 0 []=y at *
      generalize numA x 10 9=na at *
      obtain⟨na,nb⟩:=na
      simp only at hm hgo hn
      cases nb with
      | false=>
        rw [if_pos rfl] at hm
        simp only [ne_eq,Int.reduceEq,not_false_eq_true,if_true,Prod.mk.injEq] at hm
        obtain⟨rfl,rfl⟩:=hm
        (repeat' (first|refine And.intro ?_ ?_|intro _))<;>first|omega|exact True.intro|exact False.elim ‹False›|skip
        all_goals first|omega|rfl|contradiction|(simp_all;done)|trace_state
      | true=>
        simp only [Bool.true_eq_false,if_false] at hm
        by_cases hxy:x=y
        · simp only [if_neg (fun h:x≠y=>h hxy)] at hm
          have hg:=hgo ⟨by omega,hm⟩ (by omega)
          (repeat' (first|refine And.intro ?_ ?_|intro _))<;>first|omega|exact True.intro|exact False.elim ‹False›|skip
          all_goals first|omega|exact hg|contradiction|(exfalso;exact ‹¬ x=y› hxy)|trace_state
        · simp only [if_pos (show x≠y from hxy),ne_eq,Int.reduceEq,not_false_eq_true,if_true,Prod.mk.injEq] at hm
          obtain⟨rfl,rfl⟩:=hm
          have hi0: ¬ i=0:=fun h=>hxy (h0 h)
          (repeat' (first|refine And.intro ?_ ?_|intro _))<;>first|omega|exact True.intro|exact False.elim ‹False›|skip
          all_goals first|omega|rfl|contradiction|(exfalso;exact hxy ‹x=y›)|trace_state
    · rw [zee _ _ _ _ hi] at hm
      simp only [ne_eq,not_true_eq_false,if_false] at hm
      by_cases h4:4000<n
      · rw [if_pos h4] at hm
        simp only [Prod.mk.injEq] at hm
        obtain⟨rfl,rfl⟩:=hm
        (repeat' (first|refine And.intro ?_ ?_|intro _))<;>first|omega|exact True.intro|exact False.elim ‹False›|skip
        all_goals first|omega|rfl|trace_state
      · rw [if_neg h4] at hm
        simp only [Prod.mk.injEq] at hm
        obtain⟨rfl,rfl⟩:=hm
        (repeat' (first|refine And.intro ?_ ?_|intro _))<;>first|omega|exact True.intro|exact False.elim ‹False›|skip
        all_goals first|omega|rfl|trace_state
  subst hI
  have hT0:T.length=0↔T=[]:=List.length_eq_zero_iff
  have hLz:L.length=0↔L=[]:=List.length_eq_zero_iff
  simp only [nrmA,nrmB]
  have hg0:0<T.length→(T.getD 0 []).length≤1000000:=fun h=>hT2 _ (by rw [show T.getD 0 []=T[0] by simp [h]];exact List.getElem_mem h)
  by_cases q1:T=[]
  · rw [if_neg (fun h=>h q1)] at hr
    have q2:=hT0.2 q1
    clear hg0 hT2
    (repeat' (first|refine And.intro ?_ ?_|intro _))<;>first|omega|exact True.intro|exact False.elim ‹False›|skip
    all_goals first
      |omega
      |((with_reducible show Ok _ _ _ _);(try(exfalso;omega));exact keyL _ _ rfl hr (by kernel_rfl))
      |exact⟨hf1,by decide,hf2⟩
      |exact hf1
      |(exact(hf2 _ ‹_›).1)
      |(exact(hf2 _ ‹_›).2)
      |decide
  · rw [if_pos q1] at hr
    have q2: ¬ T.length=0:=fun h=>q1 (hT0.1 h)
    clear keyL
    by_cases q3:L≠[]∨mi=0
    · rw [if_pos q3] at hr
      simp only [Prod.mk.injEq] at hr
      obtain⟨rfl,rfl⟩:=hr
      have q4:L.length=0→mi=0:=fun h=>by
        rcases q3 with q3|q3
        · exact absurd (hLz.1 h) q3
        · exact q3
      (repeat' (first|refine And.intro ?_ ?_|intro _))<;>first|omega|exact True.intro|exact False.elim ‹False›|skip
      all_goals first|omega|rfl|(exact(hf2 _ ‹_›).1)|(exact(hf2 _ ‹_›).2)|decide|trace_state
    · rw [if_neg q3] at hr
      simp only [not_or,ne_eq,Decidable.not_not] at q3
      have q4:=hLz.2 q3.1
      by_cases q5:1<T.length∨lowS (T.getD 0 [])≠YJ
      · rw [if_pos q5] at hr
        unfold YJ at q5
        simp only [Prod.mk.injEq] at hr
        obtain⟨rfl,rfl⟩:=hr
        (repeat' (first|refine And.intro ?_ ?_|intro _))<;>first|omega|exact True.intro|exact False.elim ‹False›|skip
        all_goals first|omega|rfl|(exact(hf2 _ ‹_›).1)|(exact(hf2 _ ‹_›).2)|decide|exact hg0 (by omega)|(exfalso;rcases q5 with q5|q5<;>first|omega|exact q5 ‹_›)|trace_state
      · rw [if_neg q5] at hr
        unfold YJ at q5
        simp only [not_or,ne_eq,Decidable.not_not] at q5
        simp only [Prod.mk.injEq] at hr
        obtain⟨rfl,rfl⟩:=hr
        (repeat' (first|refine And.intro ?_ ?_|intro _))<;>first|omega|exact True.intro|exact False.elim ‹False›|skip
        all_goals first|omega|rfl|(exact(hf2 _ ‹_›).1)|(exact(hf2 _ ‹_›).2)|decide|exact hg0 (by omega)|(exfalso;exact ‹¬ _=_› q5.2)|trace_state
def Yr (I:Alg) (args:List D) (hp:List HO):Option CT:=match args,hp with
  |[.v (.agg [(.p (.str m)),(.p (.str t)),(.p (.int .i64 mi)),(.p (.list .fld f)),(.p (.int .i64 le))])],[]=>(fun(m t:Str) (mi:Int) (f:List Fld) (le:Int)=>(some (.one ⟨I.hid (FsOk f),(.ret (.tup [(.one (.p (.int .i64 (I.hid ((lenM mi f).1))))),(.one (.p (.int .i64 (I.hid ((lenM mi f).2)))))])),[]⟩):Option CT)) m t mi f le
  |_,_=>none
theorem QS:zI Tryz.prog 88 (Yr alg):=by
  intro args hp r h
  unfold Yr at h
  split at h
  · cases h;exact fun hn=>zgv _ _ _ _ _ hn
  · cases h
def QO:Know Tryz.prog:=⟨88,Yr,QS⟩
def QN:Know Tryz.prog:=⟨88,fun I=>zL I (Yr I),zf QS⟩
end Go.Proofs.YtmibhbdfigpkmaaGreatDoor
namespace Go.Proofs.YtmibhbdfigpkmaaGreatDoor
open Go Go.Sep Go.Ab
set_option maxRecDepth 100000
def rqFs (q:Rq):Prop:=FsOk q.h.fields∧q.out.length≤9000000
theorem zcv (ln:Ln) (p:Int) (m tg:Str) (hm:Int) (hf:List Fld) (hl le:Int) (out:List Evt) (hneed:yM ⟨ln,p,⟨m,tg,hm,hf,hl⟩,le,none,true,out⟩∧rqFs ⟨ln,p,⟨m,tg,hm,hf,hl⟩,le,none,true,out⟩):Spc Tryz.prog 71 [.v (.one (.ptr 0 0))] [.abs (.rq ⟨ln,p,⟨m,tg,hm,hf,hl⟩,le,none,true,out⟩)] (.ret (.v (.one (.p (.int .i64 ((zT ⟨ln,p,⟨m,tg,hm,hf,hl⟩,le,none,true,out⟩).2)))))) [.abs (.rq (((zT ⟨ln,p,⟨m,tg,hm,hf,hl⟩,le,none,true,out⟩).1)))]:=by
  obtain⟨-,hfs,hfw⟩:=hneed
  simp only at hfs hfw
  obtain⟨hf1,hf2⟩:=hfs
  generalize hr:zT ⟨ln,p,⟨m,tg,hm,hf,hl⟩,le,none,true,out⟩=r
  obtain⟨rq,rc⟩:=r
  have hhl:Ye.length≤1000000:=by decide
  refine spcG zx mixed Tryz.func71 (by kernel_rfl) { cfgQ with fz:=[45],keep:=some [0,2,4,5]} [VH,VG,zaN,zaM,zQ,zO,zV,zU,zZ,zY,yh,yg,yT,yS,tX,tV,QO,QN] (by kernel_rfl) ?_
  intro I X hI hX
  refine zi (let y1:=I.hid (α:=Int) (Prod.fst (lenM hm hf));let y0:=I.hid (α:=(List Go.Ab.Evt)) (HAppend.hAppend out ([(Go.Ab.Evt.mk (1:Int) (Hd.mk m tg hm hf y1) ([]:Str) (Go.Ab.Prt.mk ([]:Str) ([]:Str) ([]:Str) ([]:Str)) (0:Int))]:List Go.Ab.Evt));let y2:=I.hid (α:=Go.Ab.Rq) (yU (Go.Ab.Rq.mk (Go.Ab.Ln.mk (Go.Ab.Ln.b ln) (Go.Ab.Ln.cr ln) (Go.Ab.Ln.code ln)) p (Hd.mk m tg hm hf y1) le (Option.none) Bool.false y0));let y3:=I.hid (α:=(Prop)) (zA (Go.Ab.Rq.mk (Go.Ab.Ln.mk (Go.Ab.Ln.b ln) (Go.Ab.Ln.cr ln) (Go.Ab.Ln.code ln)) p (Hd.mk m tg hm hf y1) le (Option.none) Bool.false out));let y4:=I.hid (α:=(Prop)) (zA (Go.Ab.Rq.mk (Go.Ab.Ln.mk (Go.Ab.Ln.b ln) (Go.Ab.Ln.cr ln) (Go.Ab.Ln.code ln)) p (Hd.mk m tg hm hf y1) le (Option.none) Bool.false y0));let y5:=I.hid (α:=Int) (Prod.snd (lenM hm hf));let y6:=I.hid (α:=Int) (Prod.snd (oneF (valsF hf ([104,111,115,116]:Str))));.need (I.hid (α:=(Prop)) (And (LE.le (List.length hf) 1000) (And (LE.le (List.length ([104,111,115,116]:Str)) 1000000) (∀ (f:Fld),f ∈ hf→List.length f.name≤1000000∧List.length f.value≤1000000)))) (.br (I.ieq y6 9) (.fin (.ret (.v (.one (.p (.int .i64 13))))) [(.abs (.rq (Go.Ab.Rq.mk (Go.Ab.Ln.mk (Go.Ab.Ln.b ln) (Go.Ab.Ln.cr ln) (Go.Ab.Ln.code ln)) p (Hd.mk m tg hm hf hl) le (Option.none) Bool.true out)))]) (.br (I.ieq y6 10) (.br (I.ieq hm 1) (.fin (.ret (.v (.one (.p (.int .i64 13))))) [(.abs (.rq (Go.Ab.Rq.mk (Go.Ab.Ln.mk (Go.Ab.Ln.b ln) (Go.Ab.Ln.cr ln) (Go.Ab.Ln.code ln)) p (Hd.mk m tg hm hf hl) le (Option.none) Bool.true out)))]) (.need (I.hid (α:=(Prop)) (FsOk hf)) (.br (I.bnot (I.ieq y5 0)) (.fin (.ret (.v (.one (.p (.int .i64 y5))))) [(.abs (.rq (Go.Ab.Rq.mk (Go.Ab.Ln.mk (Go.Ab.Ln.b ln) (Go.Ab.Ln.cr ln) (Go.Ab.Ln.code ln)) p (Hd.mk m tg hm hf hl) le (Option.none) Bool.false out)))]) (.need y3 (.br (I.ieq y1 0) (.need y4 (.fin (.ret (.v (.one (.p (.int .i64 0))))) [(.abs (.rq y2))])) (.br (I.ilt 0 y1) (.fin (.ret (.v (.one (.p (.int .i64 0))))) [(.abs (.rq (Go.Ab.Rq.mk (Go.Ab.Ln.mk (Go.Ab.Ln.b ln) (Go.Ab.Ln.cr ln) (Go.Ab.Ln.code ln)) (2:Int) (Hd.mk m tg hm hf y1) y1 (Option.none) Bool.false y0)))]) (.need (I.hid (α:=(Prop)) True) (.fin (.ret (.v (.one (.p (.int .i64 0))))) [(.abs (.rq (Go.Ab.Rq.mk (Go.Ab.Ln.mk (Go.Ab.Ln.b ln) (Go.Ab.Ln.cr ln) (Go.Ab.Ln.code ln)) (3:Int) (Hd.mk m tg hm hf y1) le (Option.some (Go.Ab.Ch.mk (Go.Ab.Ln.mk (I.hid (α:=Str) ([]:Str)) Bool.false (0:Int)) (0:Int) (0:Int) (0:Int) (0:Int) (0:Int))) Bool.false y0)))])))))))) (.need (I.hid (α:=(Prop)) (FsOk hf)) (.br (I.bnot (I.ieq y5 0)) (.fin (.ret (.v (.one (.p (.int .i64 y5))))) [(.abs (.rq (Go.Ab.Rq.mk (Go.Ab.Ln.mk (Go.Ab.Ln.b ln) (Go.Ab.Ln.cr ln) (Go.Ab.Ln.code ln)) p (Hd.mk m tg hm hf hl) le (Option.none) Bool.false out)))]) (.need y3 (.br (I.ieq y1 0) (.need y4 (.fin (.ret (.v (.one (.p (.int .i64 0))))) [(.abs (.rq y2))])) (.br (I.ilt 0 y1) (.fin (.ret (.v (.one (.p (.int .i64 0))))) [(.abs (.rq (Go.Ab.Rq.mk (Go.Ab.Ln.mk (Go.Ab.Ln.b ln) (Go.Ab.Ln.cr ln) (Go.Ab.Ln.code ln)) (2:Int) (Hd.mk m tg hm hf y1) y1 (Option.none) Bool.false y0)))]) (.need (I.hid (α:=(Prop)) True) (.fin (.ret (.v (.one (.p (.int .i64 0))))) [(.abs (.rq (Go.Ab.Rq.mk (Go.Ab.Ln.mk (Go.Ab.Ln.b ln) (Go.Ab.Ln.cr ln) (Go.Ab.Ln.code ln)) (3:Int) (Hd.mk m tg hm hf y1) le (Option.some (Go.Ab.Ch.mk (Go.Ab.Ln.mk (I.hid (α:=Str) ([]:Str)) Bool.false (0:Int)) (0:Int) (0:Int) (0:Int) (0:Int) (0:Int))) Bool.false y0)))])))))))))) (by kernel_rfl) ?_
  simp only [zC]
  subst hI
  unfold zT zfZ at hr
  simp only at hr
  rw [show([104,111,115,116]:Str)=Ye from rfl]
  simp only [nrmA,nrmB,nrlB,reduceCtorEq,HO.abs.injEq,Gh.rq.injEq,Rq.mk.injEq]
  have hln:=Rl hm hf
  generalize oneF (valsF hf Ye)=oc at *
  obtain⟨ov,oc⟩:=oc
  simp only at hr ⊢
  generalize lenM hm hf=z at *
  obtain⟨zn,zc⟩:=z
  simp only at hr hln ⊢
  by_cases q1:(decide (oc=9)||decide (oc=10)&&decide (hm=1))=true
  · rw [if_pos q1] at hr
    simp only [Prod.mk.injEq] at hr
    obtain⟨rfl,rfl⟩:=hr
    simp only [Bool.or_eq_true,Bool.and_eq_true,decide_eq_true_eq] at q1
    (repeat' (first|refine And.intro ?_ ?_|intro _))<;>first|omega|exact True.intro|exact False.elim ‹False›|skip
    all_goals first|omega|rfl|exact hf1|exact⟨hf1,hf2⟩|(exact(hf2 _ ‹_›).1)|(exact(hf2 _ ‹_›).2)|(unfold zA;simp only;omega)|trace_state
  rw [if_neg q1] at hr
  simp only [Bool.or_eq_true,Bool.and_eq_true,decide_eq_true_eq] at q1
  by_cases q2:zc=0
  · rw [if_neg (fun h=>h q2)] at hr
    by_cases q3:zn=0
    · rw [if_pos q3] at hr
      simp only [Prod.mk.injEq] at hr
      obtain⟨rfl,rfl⟩:=hr
      subst q3
      (repeat' (first|refine And.intro ?_ ?_|intro _))<;>first|omega|exact True.intro|exact False.elim ‹False›|skip
      all_goals first|omega|rfl|exact hf1|exact⟨hf1,hf2⟩|(exact(hf2 _ ‹_›).1)|(exact(hf2 _ ‹_›).2)|(unfold zA;simp;omega)|trace_state
    rw [if_neg q3] at hr
    by_cases q4:0<zn
    · rw [if_pos q4] at hr
      simp only [Prod.mk.injEq] at hr
      obtain⟨rfl,rfl⟩:=hr
      (repeat' (first|refine And.intro ?_ ?_|intro _))<;>first|omega|exact True.intro|exact False.elim ‹False›|skip
      all_goals first|omega|rfl|exact hf1|exact⟨hf1,hf2⟩|(exact(hf2 _ ‹_›).1)|(exact(hf2 _ ‹_›).2)|(unfold zA;simp;omega)|trace_state
    · rw [if_neg q4] at hr
      simp only [Prod.mk.injEq] at hr
      obtain⟨rfl,rfl⟩:=hr
      (repeat' (first|refine And.intro ?_ ?_|intro _))<;>first|omega|exact True.intro|exact False.elim ‹False›|skip
      all_goals first|omega|rfl|exact hf1|exact⟨hf1,hf2⟩|(exact(hf2 _ ‹_›).1)|(exact(hf2 _ ‹_›).2)|(unfold zA;simp;omega)|trace_state
  · rw [if_pos q2] at hr
    simp only [Prod.mk.injEq] at hr
    obtain⟨rfl,rfl⟩:=hr
    (repeat' (first|refine And.intro ?_ ?_|intro _))<;>first|omega|exact True.intro|exact False.elim ‹False›|skip
    all_goals first|omega|rfl|exact hf1|exact⟨hf1,hf2⟩|(exact(hf2 _ ‹_›).1)|(exact(hf2 _ ‹_›).2)|(unfold zA;simp only;omega)|trace_state
theorem zcw (ln:Ln) (p:Int) (m tg:Str) (hm:Int) (hf:List Fld) (hl le:Int) (out:List Evt) (hneed:yM ⟨ln,p,⟨m,tg,hm,hf,hl⟩,le,none,false,out⟩∧rqFs ⟨ln,p,⟨m,tg,hm,hf,hl⟩,le,none,false,out⟩):Spc Tryz.prog 71 [.v (.one (.ptr 0 0))] [.abs (.rq ⟨ln,p,⟨m,tg,hm,hf,hl⟩,le,none,false,out⟩)] (.ret (.v (.one (.p (.int .i64 ((zT ⟨ln,p,⟨m,tg,hm,hf,hl⟩,le,none,false,out⟩).2)))))) [.abs (.rq (((zT ⟨ln,p,⟨m,tg,hm,hf,hl⟩,le,none,false,out⟩).1)))]:=by
  exact absurd hneed.1 (fun h=>by unfold yM at h;cases h)
theorem zct (ln:Ln) (p:Int) (m tg:Str) (hm:Int) (hf:List Fld) (hl le:Int) (ch:Ch) (out:List Evt) (hneed:yM ⟨ln,p,⟨m,tg,hm,hf,hl⟩,le,some ch,true,out⟩∧rqFs ⟨ln,p,⟨m,tg,hm,hf,hl⟩,le,some ch,true,out⟩):Spc Tryz.prog 71 [.v (.one (.ptr 0 0))] [.abs (.rq ⟨ln,p,⟨m,tg,hm,hf,hl⟩,le,some ch,true,out⟩)] (.ret (.v (.one (.p (.int .i64 ((zT ⟨ln,p,⟨m,tg,hm,hf,hl⟩,le,some ch,true,out⟩).2)))))) [.abs (.rq (((zT ⟨ln,p,⟨m,tg,hm,hf,hl⟩,le,some ch,true,out⟩).1)))]:=by
  obtain⟨-,hfs,hfw⟩:=hneed
  simp only at hfs hfw
  obtain⟨hf1,hf2⟩:=hfs
  generalize hr:zT ⟨ln,p,⟨m,tg,hm,hf,hl⟩,le,some ch,true,out⟩=r
  obtain⟨rq,rc⟩:=r
  have hhl:Ye.length≤1000000:=by decide
  refine spcG zx mixed Tryz.func71 (by kernel_rfl) { cfgQ with fz:=[45],keep:=some [0,2,4,5]} [VH,VG,zaN,zaM,zQ,zO,zV,zU,zZ,zY,yh,yg,yT,yS,tX,tV,QO,QN] (by kernel_rfl) ?_
  intro I X hI hX
  refine zi (let y1:=I.hid (α:=Int) (Prod.fst (lenM hm hf));let y0:=I.hid (α:=(List Go.Ab.Evt)) (HAppend.hAppend out ([(Go.Ab.Evt.mk (1:Int) (Hd.mk m tg hm hf y1) ([]:Str) (Go.Ab.Prt.mk ([]:Str) ([]:Str) ([]:Str) ([]:Str)) (0:Int))]:List Go.Ab.Evt));let y2:=I.hid (α:=Go.Ab.Rq) (yU (Go.Ab.Rq.mk (Go.Ab.Ln.mk (Go.Ab.Ln.b ln) (Go.Ab.Ln.cr ln) (Go.Ab.Ln.code ln)) p (Hd.mk m tg hm hf y1) le (Option.some (Go.Ab.Ch.mk (Go.Ab.Ln.mk (Go.Ab.Ln.b (Go.Ab.Ch.ln ch)) (Go.Ab.Ln.cr (Go.Ab.Ch.ln ch)) (Go.Ab.Ln.code (Go.Ab.Ch.ln ch))) (Go.Ab.Ch.pos ch) (Go.Ab.Ch.left ch) (Go.Ab.Ch.all ch) (Go.Ab.Ch.tails ch) (Go.Ab.Ch.code ch))) Bool.false y0));let y3:=I.hid (α:=(Prop)) (zA (Go.Ab.Rq.mk (Go.Ab.Ln.mk (Go.Ab.Ln.b ln) (Go.Ab.Ln.cr ln) (Go.Ab.Ln.code ln)) p (Hd.mk m tg hm hf y1) le (Option.some (Go.Ab.Ch.mk (Go.Ab.Ln.mk (Go.Ab.Ln.b (Go.Ab.Ch.ln ch)) (Go.Ab.Ln.cr (Go.Ab.Ch.ln ch)) (Go.Ab.Ln.code (Go.Ab.Ch.ln ch))) (Go.Ab.Ch.pos ch) (Go.Ab.Ch.left ch) (Go.Ab.Ch.all ch) (Go.Ab.Ch.tails ch) (Go.Ab.Ch.code ch))) Bool.false out));let y4:=I.hid (α:=(Prop)) (zA (Go.Ab.Rq.mk (Go.Ab.Ln.mk (Go.Ab.Ln.b ln) (Go.Ab.Ln.cr ln) (Go.Ab.Ln.code ln)) p (Hd.mk m tg hm hf y1) le (Option.some (Go.Ab.Ch.mk (Go.Ab.Ln.mk (Go.Ab.Ln.b (Go.Ab.Ch.ln ch)) (Go.Ab.Ln.cr (Go.Ab.Ch.ln ch)) (Go.Ab.Ln.code (Go.Ab.Ch.ln ch))) (Go.Ab.Ch.pos ch) (Go.Ab.Ch.left ch) (Go.Ab.Ch.all ch) (Go.Ab.Ch.tails ch) (Go.Ab.Ch.code ch))) Bool.false y0));let y5:=I.hid (α:=Int) (Prod.snd (lenM hm hf));let y6:=I.hid (α:=Int) (Prod.snd (oneF (valsF hf ([104,111,115,116]:Str))));.need (I.hid (α:=(Prop)) (And (LE.le (List.length hf) 1000) (And (LE.le (List.length ([104,111,115,116]:Str)) 1000000) (∀ (f:Fld),f ∈ hf→List.length f.name≤1000000∧List.length f.value≤1000000)))) (.br (I.ieq y6 9) (.fin (.ret (.v (.one (.p (.int .i64 13))))) [(.abs (.rq (Go.Ab.Rq.mk (Go.Ab.Ln.mk (Go.Ab.Ln.b ln) (Go.Ab.Ln.cr ln) (Go.Ab.Ln.code ln)) p (Hd.mk m tg hm hf hl) le (Option.some (Go.Ab.Ch.mk (Go.Ab.Ln.mk (Go.Ab.Ln.b (Go.Ab.Ch.ln ch)) (Go.Ab.Ln.cr (Go.Ab.Ch.ln ch)) (Go.Ab.Ln.code (Go.Ab.Ch.ln ch))) (Go.Ab.Ch.pos ch) (Go.Ab.Ch.left ch) (Go.Ab.Ch.all ch) (Go.Ab.Ch.tails ch) (Go.Ab.Ch.code ch))) Bool.true out)))]) (.br (I.ieq y6 10) (.br (I.ieq hm 1) (.fin (.ret (.v (.one (.p (.int .i64 13))))) [(.abs (.rq (Go.Ab.Rq.mk (Go.Ab.Ln.mk (Go.Ab.Ln.b ln) (Go.Ab.Ln.cr ln) (Go.Ab.Ln.code ln)) p (Hd.mk m tg hm hf hl) le (Option.some (Go.Ab.Ch.mk (Go.Ab.Ln.mk (Go.Ab.Ln.b (Go.Ab.Ch.ln ch)) (Go.Ab.Ln.cr (Go.Ab.Ch.ln ch)) (Go.Ab.Ln.code (Go.Ab.Ch.ln ch))) (Go.Ab.Ch.pos ch) (Go.Ab.Ch.left ch) (Go.Ab.Ch.all ch) (Go.Ab.Ch.tails ch) (Go.Ab.Ch.code ch))) Bool.true out)))]) (.need (I.hid (α:=(Prop)) (FsOk hf)) (.br (I.bnot (I.ieq y5 0)) (.fin (.ret (.v (.one (.p (.int .i64 y5))))) [(.abs (.rq (Go.Ab.Rq.mk (Go.Ab.Ln.mk (Go.Ab.Ln.b ln) (Go.Ab.Ln.cr ln) (Go.Ab.Ln.code ln)) p (Hd.mk m tg hm hf hl) le (Option.some (Go.Ab.Ch.mk (Go.Ab.Ln.mk (Go.Ab.Ln.b (Go.Ab.Ch.ln ch)) (Go.Ab.Ln.cr (Go.Ab.Ch.ln ch)) (Go.Ab.Ln.code (Go.Ab.Ch.ln ch))) (Go.Ab.Ch.pos ch) (Go.Ab.Ch.left ch) (Go.Ab.Ch.all ch) (Go.Ab.Ch.tails ch) (Go.Ab.Ch.code ch))) Bool.false out)))]) (.need y3 (.br (I.ieq y1 0) (.need y4 (.fin (.ret (.v (.one (.p (.int .i64 0))))) [(.abs (.rq y2))])) (.br (I.ilt 0 y1) (.fin (.ret (.v (.one (.p (.int .i64 0))))) [(.abs (.rq (Go.Ab.Rq.mk (Go.Ab.Ln.mk (Go.Ab.Ln.b ln) (Go.Ab.Ln.cr ln) (Go.Ab.Ln.code ln)) (2:Int) (Hd.mk m tg hm hf y1) y1 (Option.some (Go.Ab.Ch.mk (Go.Ab.Ln.mk (Go.Ab.Ln.b (Go.Ab.Ch.ln ch)) (Go.Ab.Ln.cr (Go.Ab.Ch.ln ch)) (Go.Ab.Ln.code (Go.Ab.Ch.ln ch))) (Go.Ab.Ch.pos ch) (Go.Ab.Ch.left ch) (Go.Ab.Ch.all ch) (Go.Ab.Ch.tails ch) (Go.Ab.Ch.code ch))) Bool.false y0)))]) (.need (I.hid (α:=(Prop)) True) (.fin (.ret (.v (.one (.p (.int .i64 0))))) [(.abs (.rq (Go.Ab.Rq.mk (Go.Ab.Ln.mk (Go.Ab.Ln.b ln) (Go.Ab.Ln.cr ln) (Go.Ab.Ln.code ln)) (3:Int) (Hd.mk m tg hm hf y1) le (Option.some (Go.Ab.Ch.mk (Go.Ab.Ln.mk (I.hid (α:=Str) ([]:Str)) Bool.false (0:Int)) (0:Int) (0:Int) (0:Int) (0:Int) (0:Int))) Bool.false y0)))])))))))) (.need (I.hid (α:=(Prop)) (FsOk hf)) (.br (I.bnot (I.ieq y5 0)) (.fin (.ret (.v (.one (.p (.int .i64 y5))))) [(.abs (.rq (Go.Ab.Rq.mk (Go.Ab.Ln.mk (Go.Ab.Ln.b ln) (Go.Ab.Ln.cr ln) (Go.Ab.Ln.code ln)) p (Hd.mk m tg hm hf hl) le (Option.some (Go.Ab.Ch.mk (Go.Ab.Ln.mk (Go.Ab.Ln.b (Go.Ab.Ch.ln ch)) (Go.Ab.Ln.cr (Go.Ab.Ch.ln ch)) (Go.Ab.Ln.code (Go.Ab.Ch.ln ch))) (Go.Ab.Ch.pos ch) (Go.Ab.Ch.left ch) (Go.Ab.Ch.all ch) (Go.Ab.Ch.tails ch) (Go.Ab.Ch.code ch))) Bool.false out)))]) (.need y3 (.br (I.ieq y1 0) (.need y4 (.fin (.ret (.v (.one (.p (.int .i64 0))))) [(.abs (.rq y2))])) (.br (I.ilt 0 y1) (.fin (.ret (.v (.one (.p (.int .i64 0))))) [(.abs (.rq (Go.Ab.Rq.mk (Go.Ab.Ln.mk (Go.Ab.Ln.b ln) (Go.Ab.Ln.cr ln) (Go.Ab.Ln.code ln)) (2:Int) (Hd.mk m tg hm hf y1) y1 (Option.some (Go.Ab.Ch.mk (Go.Ab.Ln.mk (Go.Ab.Ln.b (Go.Ab.Ch.ln ch)) (Go.Ab.Ln.cr (Go.Ab.Ch.ln ch)) (Go.Ab.Ln.code (Go.Ab.Ch.ln ch))) (Go.Ab.Ch.pos ch) (Go.Ab.Ch.left ch) (Go.Ab.Ch.all ch) (Go.Ab.Ch.tails ch) (Go.Ab.Ch.code ch))) Bool.false y0)))]) (.need (I.hid (α:=(Prop)) True) (.fin (.ret (.v (.one (.p (.int .i64 0))))) [(.abs (.rq (Go.Ab.Rq.mk (Go.Ab.Ln.mk (Go.Ab.Ln.b ln) (Go.Ab.Ln.cr ln) (Go.Ab.Ln.code ln)) (3:Int) (Hd.mk m tg hm hf y1) le (Option.some (Go.Ab.Ch.mk (Go.Ab.Ln.mk (I.hid (α:=Str) ([]:Str)) Bool.false (0:Int)) (0:Int) (0:Int) (0:Int) (0:Int) (0:Int))) Bool.false y0)))])))))))))) (by kernel_rfl) ?_
  simp only [zC]
  subst hI
  unfold zT zfZ at hr
  simp only at hr
  rw [show([104,111,115,116]:Str)=Ye from rfl]
  simp only [nrmA,nrmB,nrlB,reduceCtorEq,HO.abs.injEq,Gh.rq.injEq,Rq.mk.injEq]
  have hln:=Rl hm hf
  generalize oneF (valsF hf Ye)=oc at *
  obtain⟨ov,oc⟩:=oc
  simp only at hr ⊢
  generalize lenM hm hf=z at *
  obtain⟨zn,zc⟩:=z
  simp only at hr hln ⊢
  by_cases q1:(decide (oc=9)||decide (oc=10)&&decide (hm=1))=true
  · rw [if_pos q1] at hr
    simp only [Prod.mk.injEq] at hr
    obtain⟨rfl,rfl⟩:=hr
    simp only [Bool.or_eq_true,Bool.and_eq_true,decide_eq_true_eq] at q1
    (repeat' (first|refine And.intro ?_ ?_|intro _))<;>first|omega|exact True.intro|exact False.elim ‹False›|skip
    all_goals first|omega|rfl|exact hf1|exact⟨hf1,hf2⟩|(exact(hf2 _ ‹_›).1)|(exact(hf2 _ ‹_›).2)|(unfold zA;simp only;omega)|trace_state
  rw [if_neg q1] at hr
  simp only [Bool.or_eq_true,Bool.and_eq_true,decide_eq_true_eq] at q1
  by_cases q2:zc=0
  · rw [if_neg (fun h=>h q2)] at hr
    by_cases q3:zn=0
    · rw [if_pos q3] at hr
      simp only [Prod.mk.injEq] at hr
      obtain⟨rfl,rfl⟩:=hr
      subst q3
      (repeat' (first|refine And.intro ?_ ?_|intro _))<;>first|omega|exact True.intro|exact False.elim ‹False›|skip
      all_goals first|omega|rfl|exact hf1|exact⟨hf1,hf2⟩|(exact(hf2 _ ‹_›).1)|(exact(hf2 _ ‹_›).2)|(unfold zA;simp;omega)|trace_state
    rw [if_neg q3] at hr
    by_cases q4:0<zn
    · rw [if_pos q4] at hr
      simp only [Prod.mk.injEq] at hr
      obtain⟨rfl,rfl⟩:=hr
      (repeat' (first|refine And.intro ?_ ?_|intro _))<;>first|omega|exact True.intro|exact False.elim ‹False›|skip
      all_goals first|omega|rfl|exact hf1|exact⟨hf1,hf2⟩|(exact(hf2 _ ‹_›).1)|(exact(hf2 _ ‹_›).2)|(unfold zA;simp;omega)|trace_state
    · rw [if_neg q4] at hr
      simp only [Prod.mk.injEq] at hr
      obtain⟨rfl,rfl⟩:=hr
      (repeat' (first|refine And.intro ?_ ?_|intro _))<;>first|omega|exact True.intro|exact False.elim ‹False›|skip
      all_goals first|omega|rfl|exact hf1|exact⟨hf1,hf2⟩|(exact(hf2 _ ‹_›).1)|(exact(hf2 _ ‹_›).2)|(unfold zA;simp;omega)|trace_state
  · rw [if_pos q2] at hr
    simp only [Prod.mk.injEq] at hr
    obtain⟨rfl,rfl⟩:=hr
    (repeat' (first|refine And.intro ?_ ?_|intro _))<;>first|omega|exact True.intro|exact False.elim ‹False›|skip
    all_goals first|omega|rfl|exact hf1|exact⟨hf1,hf2⟩|(exact(hf2 _ ‹_›).1)|(exact(hf2 _ ‹_›).2)|(unfold zA;simp only;omega)|trace_state
theorem zcu (ln:Ln) (p:Int) (m tg:Str) (hm:Int) (hf:List Fld) (hl le:Int) (ch:Ch) (out:List Evt) (hneed:yM ⟨ln,p,⟨m,tg,hm,hf,hl⟩,le,some ch,false,out⟩∧rqFs ⟨ln,p,⟨m,tg,hm,hf,hl⟩,le,some ch,false,out⟩):Spc Tryz.prog 71 [.v (.one (.ptr 0 0))] [.abs (.rq ⟨ln,p,⟨m,tg,hm,hf,hl⟩,le,some ch,false,out⟩)] (.ret (.v (.one (.p (.int .i64 ((zT ⟨ln,p,⟨m,tg,hm,hf,hl⟩,le,some ch,false,out⟩).2)))))) [.abs (.rq (((zT ⟨ln,p,⟨m,tg,hm,hf,hl⟩,le,some ch,false,out⟩).1)))]:=by
  exact absurd hneed.1 (fun h=>by unfold yM at h;cases h)
theorem zfA (q:Rq) (hneed:yM q∧rqFs q):Spc Tryz.prog 71 [.v (.one (.ptr 0 0))] [.abs (.rq q)] (.ret (.v (.one (.p (.int .i64 ((zT q).2)))))) [.abs (.rq (((zT q).1)))]:=by
  obtain⟨ln,p,⟨m,tg,hm,hf,hl⟩,le,ck,own,out⟩:=q
  cases ck with
  | none=>cases own with
    |true=>exact zcv ln p m tg hm hf hl le out hneed
    |false=>exact zcw ln p m tg hm hf hl le out hneed
  | some ch=>cases own with
    |true=>exact zct ln p m tg hm hf hl le ch out hneed
    |false=>exact zcu ln p m tg hm hf hl le ch out hneed
def qF (I:Alg) (args:List D) (hp:List HO):Option CT:=match args,hp with
  |[.v (.one (.ptr 0 0))],[.abs (.rq q)]=>(fun(q:Rq)=>(some (.one ⟨I.hid (yM q∧rqFs q),(.ret (.v (.one (.p (.int .i64 (I.hid ((zT q).2))))))),[.abs (.rq (I.hid (((zT q).1))))]⟩):Option CT)) q
  |_,_=>none
theorem UF:zI Tryz.prog 71 (qF alg):=by
  intro args hp r h
  unfold qF at h
  split at h
  · cases h;exact fun hn=>zfA _ hn
  · cases h
def UE:Know Tryz.prog:=⟨71,qF,UF⟩
def UD:Know Tryz.prog:=⟨71,fun I=>zL I (qF I),zf UF⟩
theorem zci (ln:Ln) (p:Int) (m tg:Str) (hm:Int) (hf:List Fld) (hl le:Int) (out:List Evt) (s:Str) (hneed:yM ⟨ln,p,⟨m,tg,hm,hf,hl⟩,le,none,true,out⟩∧rqFs ⟨ln,p,⟨m,tg,hm,hf,hl⟩,le,none,true,out⟩∧s.length≤1000000):Spc Tryz.prog 50 [.v (.one (.ptr 0 0)),.v (.one (.p (.str s)))] [.abs (.rq ⟨ln,p,⟨m,tg,hm,hf,hl⟩,le,none,true,out⟩)] (.ret (.v (.one (.p (.int .i64 ((zF ⟨ln,p,⟨m,tg,hm,hf,hl⟩,le,none,true,out⟩ s).2)))))) [.abs (.rq (((zF ⟨ln,p,⟨m,tg,hm,hf,hl⟩,le,none,true,out⟩ s).1)))]:=by
  obtain⟨-,hfs,hs⟩:=hneed
  have hfs0:=hfs
  obtain⟨hfs,hfw⟩:=hfs
  simp only at hfs hfw
  obtain⟨hf1,hf2⟩:=hfs
  generalize hr:zF ⟨ln,p,⟨m,tg,hm,hf,hl⟩,le,none,true,out⟩ s=r
  obtain⟨rq,rc⟩:=r
  refine spcG zx mixed Tryz.func50 (by kernel_rfl) { cfgQ with seam:=[],keep:=some [0,1,4,5,6]} [Vr,Vq,QW,QV,UE,UD] (by kernel_rfl) ?_
  intro I X hI hX
  refine zi (let y2:=I.hid (α:=Str) (Fld.name (Prod.fst (yX s)));let y1:=I.hid (α:=Str) (Fld.value (Prod.fst (yX s)));let y0:=I.few (I.add (I.len (α:=Fld) hf) (I.len (α:=Fld) ([(Fld.mk y2 y1)]:List Fld))) 100000000;let y3:=I.hid (α:=Int) (Prod.snd (yX s));.br (I.ieq p 0) (.br (I.seq s ([]:Str)) (.fin (.ret (.v (.one (.p (.int .i64 0))))) [(.abs (.rq (Go.Ab.Rq.mk (Go.Ab.Ln.mk (Go.Ab.Ln.b ln) (Go.Ab.Ln.cr ln) (Go.Ab.Ln.code ln)) p (Hd.mk m tg hm hf hl) le (Option.none) Bool.true out)))]) (.need (I.hid (α:=(Prop)) (And (yM (Go.Ab.Rq.mk (Go.Ab.Ln.mk (Go.Ab.Ln.b ln) (Go.Ab.Ln.cr ln) (Go.Ab.Ln.code ln)) p (Hd.mk m tg hm hf hl) le (Option.none) Bool.true out)) (LE.le (List.length s) 1000000))) (.fin (.ret (.v (.one (.p (.int .i64 (I.hid (α:=Int) (Prod.fst (begM s)))))))) [(.abs (.rq (I.hid (α:=Go.Ab.Rq) (xu (Go.Ab.Rq.mk (Go.Ab.Ln.mk (Go.Ab.Ln.b ln) (Go.Ab.Ln.cr ln) (Go.Ab.Ln.code ln)) p (Hd.mk m tg hm hf hl) le (Option.none) Bool.true out) s))))]))) (.br (I.seq s ([]:Str)) (.need (I.hid (α:=(Prop)) (And (yM (Go.Ab.Rq.mk (Go.Ab.Ln.mk (Go.Ab.Ln.b ln) (Go.Ab.Ln.cr ln) (Go.Ab.Ln.code ln)) p (Hd.mk m tg hm hf hl) le (Option.none) Bool.true out)) (rqFs (Go.Ab.Rq.mk (Go.Ab.Ln.mk (Go.Ab.Ln.b ln) (Go.Ab.Ln.cr ln) (Go.Ab.Ln.code ln)) p (Hd.mk m tg hm hf hl) le (Option.none) Bool.true out)))) (.fin (.ret (.v (.one (.p (.int .i64 (I.hid (α:=Int) (Prod.snd (zT (Go.Ab.Rq.mk (Go.Ab.Ln.mk (Go.Ab.Ln.b ln) (Go.Ab.Ln.cr ln) (Go.Ab.Ln.code ln)) p (Hd.mk m tg hm hf hl) le (Option.none) Bool.true out))))))))) [(.abs (.rq (I.hid (α:=Go.Ab.Rq) (Prod.fst (zT (Go.Ab.Rq.mk (Go.Ab.Ln.mk (Go.Ab.Ln.b ln) (Go.Ab.Ln.cr ln) (Go.Ab.Ln.code ln)) p (Hd.mk m tg hm hf hl) le (Option.none) Bool.true out))))))])) (.br (I.ieq (I.len (α:=Fld) hf) 16) (.fin (.ret (.v (.one (.p (.int .i64 8))))) [(.abs (.rq (Go.Ab.Rq.mk (Go.Ab.Ln.mk (Go.Ab.Ln.b ln) (Go.Ab.Ln.cr ln) (Go.Ab.Ln.code ln)) p (Hd.mk m tg hm hf hl) le (Option.none) Bool.true out)))]) (.need (I.hid (α:=(Prop)) (LE.le (List.length s) 1000000)) (.both (.need y0 (.fin (.ret (.v (.one (.p (.int .i64 y3))))) [(.abs (.rq (Go.Ab.Rq.mk (Go.Ab.Ln.mk (Go.Ab.Ln.b ln) (Go.Ab.Ln.cr ln) (Go.Ab.Ln.code ln)) p (Hd.mk m tg hm (I.app (α:=Fld) hf ([(Fld.mk y2 y1)]:List Fld)) hl) le (Option.none) Bool.true out)))])) (.need y0 (.fin (.ret (.v (.one (.p (.int .i64 y3))))) [(.abs (.rq (Go.Ab.Rq.mk (Go.Ab.Ln.mk (Go.Ab.Ln.b ln) (Go.Ab.Ln.cr ln) (Go.Ab.Ln.code ln)) p (Hd.mk m tg hm (I.app (α:=Fld) hf ([(Fld.mk y2 y1)]:List Fld)) hl) le (Option.none) Bool.true out)))]))))))) (by kernel_rfl) ?_
  simp only [zC]
  subst hI
  unfold zF at hr
  simp only at hr
  simp only [nrmA,nrmB,nrlB,reduceCtorEq,HO.abs.injEq,Gh.rq.injEq,Rq.mk.injEq]
  have hdn:(zT ⟨ln,p,⟨m,tg,hm,hf,hl⟩,le,none,true,out⟩)=zT ⟨ln,p,⟨m,tg,hm,hf,hl⟩,le,none,true,out⟩:=rfl
  by_cases q1:p=0
  · rw [if_pos q1] at hr
    by_cases q2:s=[]
    · rw [if_pos q2] at hr
      simp only [Prod.mk.injEq] at hr
      obtain⟨rfl,rfl⟩:=hr
      (repeat' (first|refine And.intro ?_ ?_|intro _))<;>first|omega|exact True.intro|exact False.elim ‹False›|skip
      all_goals first|omega|rfl|(exfalso;exact ‹¬ s=[]› q2)|trace_state
    rw [if_neg q2] at hr
    have hbg:(xu ⟨ln,p,⟨m,tg,hm,hf,hl⟩,le,none,true,out⟩ s,(begM s).1)=(rq,rc):=by
      rw [← hr]
      unfold xu
      by_cases c0:(begM s).1=0
      · rw [if_pos c0,if_pos c0,c0]
      · rw [if_neg c0,if_neg c0]
        by_cases c1:(begM s).1=11
        · rw [if_pos c1,if_pos c1,c1]
        · rw [if_neg c1,if_neg c1]
    simp only [Prod.mk.injEq] at hbg
    (repeat' (first|refine And.intro ?_ ?_|intro _))<;>first|omega|exact True.intro|exact False.elim ‹False›|skip
    all_goals first|omega|exact hbg.1|exact hbg.2|exact⟨rfl,hs⟩|rfl|(exfalso;exact q2 ‹s=[]›)|(simp only [yM];done)|exact hs|trace_state
  · rw [if_neg q1] at hr
    by_cases q2:s=[]
    · rw [if_pos q2] at hr
      (repeat' (first|refine And.intro ?_ ?_|intro _))<;>first|omega|exact True.intro|exact False.elim ‹False›|skip
      all_goals first|omega|(rw [hr];done)|(rw [hr])|rfl|exact hfs0|exact hf1|(exact(hf2 _ ‹_›).1)|(exact(hf2 _ ‹_›).2)|(exfalso;exact ‹¬ s=[]› q2)|trace_state
    rw [if_neg q2] at hr
    by_cases q3:hf.length=16
    · rw [if_pos q3] at hr
      simp only [Prod.mk.injEq] at hr
      obtain⟨rfl,rfl⟩:=hr
      (repeat' (first|refine And.intro ?_ ?_|intro _))<;>first|omega|exact True.intro|exact False.elim ‹False›|skip
      all_goals first|omega|rfl|(exfalso;exact q2 ‹s=[]›)|trace_state
    · rw [if_neg q3] at hr
      simp only [Prod.mk.injEq] at hr
      obtain⟨rfl,rfl⟩:=hr
      (repeat' (first|refine And.intro ?_ ?_|intro _))<;>first|omega|exact True.intro|exact False.elim ‹False›|skip
      all_goals first|omega|rfl|exact hs|(simp only [List.length_cons,List.length_nil];omega)|(exfalso;exact q2 ‹s=[]›)|trace_state
theorem zcj (ln:Ln) (p:Int) (m tg:Str) (hm:Int) (hf:List Fld) (hl le:Int) (out:List Evt) (s:Str) (hneed:yM ⟨ln,p,⟨m,tg,hm,hf,hl⟩,le,none,false,out⟩∧rqFs ⟨ln,p,⟨m,tg,hm,hf,hl⟩,le,none,false,out⟩∧s.length≤1000000):Spc Tryz.prog 50 [.v (.one (.ptr 0 0)),.v (.one (.p (.str s)))] [.abs (.rq ⟨ln,p,⟨m,tg,hm,hf,hl⟩,le,none,false,out⟩)] (.ret (.v (.one (.p (.int .i64 ((zF ⟨ln,p,⟨m,tg,hm,hf,hl⟩,le,none,false,out⟩ s).2)))))) [.abs (.rq (((zF ⟨ln,p,⟨m,tg,hm,hf,hl⟩,le,none,false,out⟩ s).1)))]:=by
  exact absurd hneed.1 (fun h=>by unfold yM at h;cases h)
theorem zcg (ln:Ln) (p:Int) (m tg:Str) (hm:Int) (hf:List Fld) (hl le:Int) (ch:Ch) (out:List Evt) (s:Str) (hneed:yM ⟨ln,p,⟨m,tg,hm,hf,hl⟩,le,some ch,true,out⟩∧rqFs ⟨ln,p,⟨m,tg,hm,hf,hl⟩,le,some ch,true,out⟩∧s.length≤1000000):Spc Tryz.prog 50 [.v (.one (.ptr 0 0)),.v (.one (.p (.str s)))] [.abs (.rq ⟨ln,p,⟨m,tg,hm,hf,hl⟩,le,some ch,true,out⟩)] (.ret (.v (.one (.p (.int .i64 ((zF ⟨ln,p,⟨m,tg,hm,hf,hl⟩,le,some ch,true,out⟩ s).2)))))) [.abs (.rq (((zF ⟨ln,p,⟨m,tg,hm,hf,hl⟩,le,some ch,true,out⟩ s).1)))]:=by
  obtain⟨-,hfs,hs⟩:=hneed
  have hfs0:=hfs
  obtain⟨hfs,hfw⟩:=hfs
  simp only at hfs hfw
  obtain⟨hf1,hf2⟩:=hfs
  generalize hr:zF ⟨ln,p,⟨m,tg,hm,hf,hl⟩,le,some ch,true,out⟩ s=r
  obtain⟨rq,rc⟩:=r
  refine spcG zx mixed Tryz.func50 (by kernel_rfl) { cfgQ with seam:=[],keep:=some [0,1,4,5,6]} [Vr,Vq,QW,QV,UE,UD] (by kernel_rfl) ?_
  intro I X hI hX
  refine zi (let y2:=I.hid (α:=Str) (Fld.name (Prod.fst (yX s)));let y1:=I.hid (α:=Str) (Fld.value (Prod.fst (yX s)));let y0:=I.few (I.add (I.len (α:=Fld) hf) (I.len (α:=Fld) ([(Fld.mk y2 y1)]:List Fld))) 100000000;let y3:=I.hid (α:=Int) (Prod.snd (yX s));.br (I.ieq p 0) (.br (I.seq s ([]:Str)) (.fin (.ret (.v (.one (.p (.int .i64 0))))) [(.abs (.rq (Go.Ab.Rq.mk (Go.Ab.Ln.mk (Go.Ab.Ln.b ln) (Go.Ab.Ln.cr ln) (Go.Ab.Ln.code ln)) p (Hd.mk m tg hm hf hl) le (Option.some (Go.Ab.Ch.mk (Go.Ab.Ln.mk (Go.Ab.Ln.b (Go.Ab.Ch.ln ch)) (Go.Ab.Ln.cr (Go.Ab.Ch.ln ch)) (Go.Ab.Ln.code (Go.Ab.Ch.ln ch))) (Go.Ab.Ch.pos ch) (Go.Ab.Ch.left ch) (Go.Ab.Ch.all ch) (Go.Ab.Ch.tails ch) (Go.Ab.Ch.code ch))) Bool.true out)))]) (.need (I.hid (α:=(Prop)) (And (yM (Go.Ab.Rq.mk (Go.Ab.Ln.mk (Go.Ab.Ln.b ln) (Go.Ab.Ln.cr ln) (Go.Ab.Ln.code ln)) p (Hd.mk m tg hm hf hl) le (Option.some (Go.Ab.Ch.mk (Go.Ab.Ln.mk (Go.Ab.Ln.b (Go.Ab.Ch.ln ch)) (Go.Ab.Ln.cr (Go.Ab.Ch.ln ch)) (Go.Ab.Ln.code (Go.Ab.Ch.ln ch))) (Go.Ab.Ch.pos ch) (Go.Ab.Ch.left ch) (Go.Ab.Ch.all ch) (Go.Ab.Ch.tails ch) (Go.Ab.Ch.code ch))) Bool.true out)) (LE.le (List.length s) 1000000))) (.fin (.ret (.v (.one (.p (.int .i64 (I.hid (α:=Int) (Prod.fst (begM s)))))))) [(.abs (.rq (I.hid (α:=Go.Ab.Rq) (xu (Go.Ab.Rq.mk (Go.Ab.Ln.mk (Go.Ab.Ln.b ln) (Go.Ab.Ln.cr ln) (Go.Ab.Ln.code ln)) p (Hd.mk m tg hm hf hl) le (Option.some (Go.Ab.Ch.mk (Go.Ab.Ln.mk (Go.Ab.Ln.b (Go.Ab.Ch.ln ch)) (Go.Ab.Ln.cr (Go.Ab.Ch.ln ch)) (Go.Ab.Ln.code (Go.Ab.Ch.ln ch))) (Go.Ab.Ch.pos ch) (Go.Ab.Ch.left ch) (Go.Ab.Ch.all ch) (Go.Ab.Ch.tails ch) (Go.Ab.Ch.code ch))) Bool.true out) s))))]))) (.br (I.seq s ([]:Str)) (.need (I.hid (α:=(Prop)) (And (yM (Go.Ab.Rq.mk (Go.Ab.Ln.mk (Go.Ab.Ln.b ln) (Go.Ab.Ln.cr ln) (Go.Ab.Ln.code ln)) p (Hd.mk m tg hm hf hl) le (Option.some (Go.Ab.Ch.mk (Go.Ab.Ln.mk (Go.Ab.Ln.b (Go.Ab.Ch.ln ch)) (Go.Ab.Ln.cr (Go.Ab.Ch.ln ch)) (Go.Ab.Ln.code (Go.Ab.Ch.ln ch))) (Go.Ab.Ch.pos ch) (Go.Ab.Ch.left ch) (Go.Ab.Ch.all ch) (Go.Ab.Ch.tails ch) (Go.Ab.Ch.code ch))) Bool.true out)) (rqFs (Go.Ab.Rq.mk (Go.Ab.Ln.mk (Go.Ab.Ln.b ln) (Go.Ab.Ln.cr ln) (Go.Ab.Ln.code ln)) p (Hd.mk m tg hm hf hl) le (Option.some (Go.Ab.Ch.mk (Go.Ab.Ln.mk (Go.Ab.Ln.b (Go.Ab.Ch.ln ch)) (Go.Ab.Ln.cr (Go.Ab.Ch.ln ch)) (Go.Ab.Ln.code (Go.Ab.Ch.ln ch))) (Go.Ab.Ch.pos ch) (Go.Ab.Ch.left ch) (Go.Ab.Ch.all ch) (Go.Ab.Ch.tails ch) (Go.Ab.Ch.code ch))) Bool.true out)))) (.fin (.ret (.v (.one (.p (.int .i64 (I.hid (α:=Int) (Prod.snd (zT (Go.Ab.Rq.mk (Go.Ab.Ln.mk (Go.Ab.Ln.b ln) (Go.Ab.Ln.cr ln) (Go.Ab.Ln.code ln)) p (Hd.mk m tg hm hf hl) le (Option.some (Go.Ab.Ch.mk (Go.Ab.Ln.mk (Go.Ab.Ln.b (Go.Ab.Ch.ln ch)) (Go.Ab.Ln.cr (Go.Ab.Ch.ln ch)) (Go.Ab.Ln.code (Go.Ab.Ch.ln ch))) (Go.Ab.Ch.pos ch) (Go.Ab.Ch.left ch) (Go.Ab.Ch.all ch) (Go.Ab.Ch.tails ch) (Go.Ab.Ch.code ch))) Bool.true out))))))))) [(.abs (.rq (I.hid (α:=Go.Ab.Rq) (Prod.fst (zT (Go.Ab.Rq.mk (Go.Ab.Ln.mk (Go.Ab.Ln.b ln) (Go.Ab.Ln.cr ln) (Go.Ab.Ln.code ln)) p (Hd.mk m tg hm hf hl) le (Option.some (Go.Ab.Ch.mk (Go.Ab.Ln.mk (Go.Ab.Ln.b (Go.Ab.Ch.ln ch)) (Go.Ab.Ln.cr (Go.Ab.Ch.ln ch)) (Go.Ab.Ln.code (Go.Ab.Ch.ln ch))) (Go.Ab.Ch.pos ch) (Go.Ab.Ch.left ch) (Go.Ab.Ch.all ch) (Go.Ab.Ch.tails ch) (Go.Ab.Ch.code ch))) Bool.true out))))))])) (.br (I.ieq (I.len (α:=Fld) hf) 16) (.fin (.ret (.v (.one (.p (.int .i64 8))))) [(.abs (.rq (Go.Ab.Rq.mk (Go.Ab.Ln.mk (Go.Ab.Ln.b ln) (Go.Ab.Ln.cr ln) (Go.Ab.Ln.code ln)) p (Hd.mk m tg hm hf hl) le (Option.some (Go.Ab.Ch.mk (Go.Ab.Ln.mk (Go.Ab.Ln.b (Go.Ab.Ch.ln ch)) (Go.Ab.Ln.cr (Go.Ab.Ch.ln ch)) (Go.Ab.Ln.code (Go.Ab.Ch.ln ch))) (Go.Ab.Ch.pos ch) (Go.Ab.Ch.left ch) (Go.Ab.Ch.all ch) (Go.Ab.Ch.tails ch) (Go.Ab.Ch.code ch))) Bool.true out)))]) (.need (I.hid (α:=(Prop)) (LE.le (List.length s) 1000000)) (.both (.need y0 (.fin (.ret (.v (.one (.p (.int .i64 y3))))) [(.abs (.rq (Go.Ab.Rq.mk (Go.Ab.Ln.mk (Go.Ab.Ln.b ln) (Go.Ab.Ln.cr ln) (Go.Ab.Ln.code ln)) p (Hd.mk m tg hm (I.app (α:=Fld) hf ([(Fld.mk y2 y1)]:List Fld)) hl) le (Option.some (Go.Ab.Ch.mk (Go.Ab.Ln.mk (Go.Ab.Ln.b (Go.Ab.Ch.ln ch)) (Go.Ab.Ln.cr (Go.Ab.Ch.ln ch)) (Go.Ab.Ln.code (Go.Ab.Ch.ln ch))) (Go.Ab.Ch.pos ch) (Go.Ab.Ch.left ch) (Go.Ab.Ch.all ch) (Go.Ab.Ch.tails ch) (Go.Ab.Ch.code ch))) Bool.true out)))])) (.need y0 (.fin (.ret (.v (.one (.p (.int .i64 y3))))) [(.abs (.rq (Go.Ab.Rq.mk (Go.Ab.Ln.mk (Go.Ab.Ln.b ln) (Go.Ab.Ln.cr ln) (Go.Ab.Ln.code ln)) p (Hd.mk m tg hm (I.app (α:=Fld) hf ([(Fld.mk y2 y1)]:List Fld)) hl) le (Option.some (Go.Ab.Ch.mk (Go.Ab.Ln.mk (Go.Ab.Ln.b (Go.Ab.Ch.ln ch)) (Go.Ab.Ln.cr (Go.Ab.Ch.ln ch)) (Go.Ab.Ln.code (Go.Ab.Ch.ln ch))) (Go.Ab.Ch.pos ch) (Go.Ab.Ch.left ch) (Go.Ab.Ch.all ch) (Go.Ab.Ch.tails ch) (Go.Ab.Ch.code ch))) Bool.true out)))]))))))) (by kernel_rfl) ?_
  simp only [zC]
  subst hI
  unfold zF at hr
  simp only at hr
  simp only [nrmA,nrmB,nrlB,reduceCtorEq,HO.abs.injEq,Gh.rq.injEq,Rq.mk.injEq]
  have hdn:(zT ⟨ln,p,⟨m,tg,hm,hf,hl⟩,le,some ch,true,out⟩)=zT ⟨ln,p,⟨m,tg,hm,hf,hl⟩,le,some ch,true,out⟩:=rfl
  by_cases q1:p=0
  · rw [if_pos q1] at hr
    by_cases q2:s=[]
    · rw [if_pos q2] at hr
      simp only [Prod.mk.injEq] at hr
      obtain⟨rfl,rfl⟩:=hr
      (repeat' (first|refine And.intro ?_ ?_|intro _))<;>first|omega|exact True.intro|exact False.elim ‹False›|skip
      all_goals first|omega|rfl|(exfalso;exact ‹¬ s=[]› q2)|trace_state
    rw [if_neg q2] at hr
    have hbg:(xu ⟨ln,p,⟨m,tg,hm,hf,hl⟩,le,some ch,true,out⟩ s,(begM s).1)=(rq,rc):=by
      rw [← hr]
      unfold xu
      by_cases c0:(begM s).1=0
      · rw [if_pos c0,if_pos c0,c0]
      · rw [if_neg c0,if_neg c0]
        by_cases c1:(begM s).1=11
        · rw [if_pos c1,if_pos c1,c1]
        · rw [if_neg c1,if_neg c1]
    simp only [Prod.mk.injEq] at hbg
    (repeat' (first|refine And.intro ?_ ?_|intro _))<;>first|omega|exact True.intro|exact False.elim ‹False›|skip
    all_goals first|omega|exact hbg.1|exact hbg.2|exact⟨rfl,hs⟩|rfl|(exfalso;exact q2 ‹s=[]›)|(simp only [yM];done)|exact hs|trace_state
  · rw [if_neg q1] at hr
    by_cases q2:s=[]
    · rw [if_pos q2] at hr
      (repeat' (first|refine And.intro ?_ ?_|intro _))<;>first|omega|exact True.intro|exact False.elim ‹False›|skip
      all_goals first|omega|(rw [hr];done)|(rw [hr])|rfl|exact hfs0|exact hf1|(exact(hf2 _ ‹_›).1)|(exact(hf2 _ ‹_›).2)|(exfalso;exact ‹¬ s=[]› q2)|trace_state
    rw [if_neg q2] at hr
    by_cases q3:hf.length=16
    · rw [if_pos q3] at hr
      simp only [Prod.mk.injEq] at hr
      obtain⟨rfl,rfl⟩:=hr
      (repeat' (first|refine And.intro ?_ ?_|intro _))<;>first|omega|exact True.intro|exact False.elim ‹False›|skip
      all_goals first|omega|rfl|(exfalso;exact q2 ‹s=[]›)|trace_state
    · rw [if_neg q3] at hr
      simp only [Prod.mk.injEq] at hr
      obtain⟨rfl,rfl⟩:=hr
      (repeat' (first|refine And.intro ?_ ?_|intro _))<;>first|omega|exact True.intro|exact False.elim ‹False›|skip
      all_goals first|omega|rfl|exact hs|(simp only [List.length_cons,List.length_nil];omega)|(exfalso;exact q2 ‹s=[]›)|trace_state
theorem zch (ln:Ln) (p:Int) (m tg:Str) (hm:Int) (hf:List Fld) (hl le:Int) (ch:Ch) (out:List Evt) (s:Str) (hneed:yM ⟨ln,p,⟨m,tg,hm,hf,hl⟩,le,some ch,false,out⟩∧rqFs ⟨ln,p,⟨m,tg,hm,hf,hl⟩,le,some ch,false,out⟩∧s.length≤1000000):Spc Tryz.prog 50 [.v (.one (.ptr 0 0)),.v (.one (.p (.str s)))] [.abs (.rq ⟨ln,p,⟨m,tg,hm,hf,hl⟩,le,some ch,false,out⟩)] (.ret (.v (.one (.p (.int .i64 ((zF ⟨ln,p,⟨m,tg,hm,hf,hl⟩,le,some ch,false,out⟩ s).2)))))) [.abs (.rq (((zF ⟨ln,p,⟨m,tg,hm,hf,hl⟩,le,some ch,false,out⟩ s).1)))]:=by
  exact absurd hneed.1 (fun h=>by unfold yM at h;cases h)
theorem zfv (q:Rq) (s:Str) (hneed:yM q∧rqFs q∧s.length≤1000000):Spc Tryz.prog 50 [.v (.one (.ptr 0 0)),.v (.one (.p (.str s)))] [.abs (.rq q)] (.ret (.v (.one (.p (.int .i64 ((zF q s).2)))))) [.abs (.rq (((zF q s).1)))]:=by
  obtain⟨ln,p,⟨m,tg,hm,hf,hl⟩,le,ck,own,out⟩:=q
  cases ck with
  | none=>cases own with
    |true=>exact zci ln p m tg hm hf hl le out s hneed
    |false=>exact zcj ln p m tg hm hf hl le out s hneed
  | some ch=>cases own with
    |true=>exact zcg ln p m tg hm hf hl le ch out s hneed
    |false=>exact zch ln p m tg hm hf hl le ch out s hneed
def qx (I:Alg) (args:List D) (hp:List HO):Option CT:=match args,hp with
  |[.v (.one (.ptr 0 0)),.v (.one (.p (.str s)))],[.abs (.rq q)]=>(fun(q:Rq) (s:Str)=>(some (.one ⟨I.hid (yM q∧rqFs q∧s.length≤1000000),(.ret (.v (.one (.p (.int .i64 (I.hid ((zF q s).2))))))),[.abs (.rq (I.hid (((zF q s).1))))]⟩):Option CT)) q s
  |_,_=>none
theorem Uz:zI Tryz.prog 50 (qx alg):=by
  intro args hp r h
  unfold qx at h
  split at h
  · cases h;exact fun hn=>zfv _ _ hn
  · cases h
def qw:Know Tryz.prog:=⟨50,qx,Uz⟩
def qp:Know Tryz.prog:=⟨50,fun I=>zL I (qx I),zf Uz⟩
theorem zgZ (k:Int) (hneed:False):Spc Tryz.prog 47 [.v (.one (.p (.val (.pointer none)))),.v (.one (.p (.int .u8 k)))] [] (.ret (.tup [(.one (.p (.list .byte ([])))),(.one (.p (.bool false))),(.one (.p (.int .i64 0)))])) []:=hneed.elim
def YH (I:Alg) (args:List D) (hp:List HO):Option CT:=match args,hp with
  |[.v (.one (.p (.val (.pointer none)))),.v (.one (.p (.int .u8 k)))],[]=>(fun(k:Int)=>(some (.one ⟨I.hid (False),(.ret (.tup [(.one (.p (.list .byte (I.hid ([]))))),(.one (.p (.bool false))),(.one (.p (.int .i64 0)))])),[]⟩):Option CT)) k
  |_,_=>none
theorem zaL:zI Tryz.prog 47 (YH alg):=by
  intro args hp r h
  unfold YH at h
  split at h
  · cases h;exact fun hn=>zgZ _ hn
  · cases h
def YG:Know Tryz.prog:=⟨47,YH,zaL⟩
def YF:Know Tryz.prog:=⟨47,fun I=>zL I (YH I),zf zaL⟩
def rqN (q:Rq):Prop:=∃ i:Nat,i≤1000000∧RqI q i
theorem X8 (q:Rq) (s:Str):(zF q s).1.out.length≤q.out.length+2:=by
  unfold zF zT yU
  repeat' split
  all_goals(simp only [List.length_append,List.length_cons,List.length_nil];omega)
theorem zcD (ln:Ln) (p:Int) (m tg:Str) (hm:Int) (hf:List Fld) (hl le:Int) (out:List Evt) (k:Int) (hneed:rqN ⟨ln,p,⟨m,tg,hm,hf,hl⟩,le,none,true,out⟩∧0≤k∧k≤255):Spc Tryz.prog 22 [.v (.one (.ptr 0 0)),.v (.one (.p (.int .u8 k)))] [.abs (.rq ⟨ln,p,⟨m,tg,hm,hf,hl⟩,le,none,true,out⟩)] (.ret (.tup [])) [.abs (.rq ((rqF ⟨ln,p,⟨m,tg,hm,hf,hl⟩,le,none,true,out⟩ (UInt8.ofNat k.toNat))))]:=by
  obtain⟨⟨i,hi,hI0⟩,hk0,hk1⟩:=hneed
  obtain⟨g1,g2,g3,g4,g5,g6,g7,g8,g9,g10⟩:=hI0
  simp only at g1 g2 g3 g4 g5 g6 g7 g8 g9 g10
  have hfs:FsOk hf:=⟨by omega,fun f hm=>by have:=g6 f hm;omega⟩
  have hll:=ZB ln (UInt8.ofNat k.toNat)
  generalize hr:rqF ⟨ln,p,⟨m,tg,hm,hf,hl⟩,le,none,true,out⟩ (UInt8.ofNat k.toNat)=r
  refine spcG zx mixed Tryz.func22 (by kernel_rfl) { cfgQ with fz:=[45],keep:=some [0,1,4,5,6,7,8,9,13,62]} [uO,uN,Zd,Zc,YG,YF,zQ,zO,zV,zU,zZ,zY,yh,yg,yT,yS,qC,qB,tX,tV,qw,qp] (by kernel_rfl) ?_
  intro I X hI hX
  refine zi (let y0:=I.hid (α:=Int) (Go.Ab.Ln.code (Prod.fst (lnF (Go.Ab.Ln.mk (Go.Ab.Ln.b ln) (Go.Ab.Ln.cr ln) (Go.Ab.Ln.code ln)) (UInt8.ofNat (Int.toNat k)))));let y1:=I.hid (α:=Bool) (Go.Ab.Ln.cr (Prod.fst (lnF (Go.Ab.Ln.mk (Go.Ab.Ln.b ln) (Go.Ab.Ln.cr ln) (Go.Ab.Ln.code ln)) (UInt8.ofNat (Int.toNat k)))));let y2:=I.hid (α:=Str) (Go.Ab.Ln.b (Prod.fst (lnF (Go.Ab.Ln.mk (Go.Ab.Ln.b ln) (Go.Ab.Ln.cr ln) (Go.Ab.Ln.code ln)) (UInt8.ofNat (Int.toNat k)))));let y3:=I.hid (α:=Str) (Prod.fst (Prod.snd (lnF (Go.Ab.Ln.mk (Go.Ab.Ln.b ln) (Go.Ab.Ln.cr ln) (Go.Ab.Ln.code ln)) (UInt8.ofNat (Int.toNat k)))));let y4:=I.hid (α:=Int) (Prod.snd (Prod.snd (Prod.snd (lnF (Go.Ab.Ln.mk (Go.Ab.Ln.b ln) (Go.Ab.Ln.cr ln) (Go.Ab.Ln.code ln)) (UInt8.ofNat (Int.toNat k))))));let y5:=I.hid (α:=Go.Ab.Rq) (Prod.fst (zF (Go.Ab.Rq.mk (Go.Ab.Ln.mk y2 y1 y0) p (Hd.mk m tg hm hf hl) le (Option.none) Bool.true out) y3));let y6:=I.hid (α:=(List Go.Ab.Evt)) (HAppend.hAppend out ([(Go.Ab.Evt.mk (2:Int) (Hd.mk ([]:Str) ([]:Str) (0:Int) ([]:List Fld) (0:Int)) (I.hid (α:=Str) ([]:Str)) (Go.Ab.Prt.mk ([]:Str) ([]:Str) ([]:Str) ([]:Str)) (0:Int))]:List Go.Ab.Evt));let y7:=I.hid (α:=(List Go.Ab.Evt)) (HAppend.hAppend out ([(Go.Ab.Evt.mk (2:Int) (Hd.mk ([]:Str) ([]:Str) (0:Int) ([]:List Fld) (0:Int)) ([(I.i2b k)]:Str) (Go.Ab.Prt.mk ([]:Str) ([]:Str) ([]:Str) ([]:Str)) (0:Int))]:List Go.Ab.Evt));let y8:=I.hid (α:=(Prop)) (zA (Go.Ab.Rq.mk (Go.Ab.Ln.mk (Go.Ab.Ln.b ln) (Go.Ab.Ln.cr ln) (Go.Ab.Ln.code ln)) p (Hd.mk m tg hm hf hl) le (Option.none) Bool.true out));let y9:=I.hid (α:=Int) (Prod.snd (zF (Go.Ab.Rq.mk (Go.Ab.Ln.mk y2 y1 y0) p (Hd.mk m tg hm hf hl) le (Option.none) Bool.true out) y3));let y10:=I.hid (α:=Go.Ab.Rq) (yx (Go.Ab.Rq.mk (Go.Ab.Ln.mk y2 y1 y0) p (Hd.mk m tg hm hf hl) le (Option.none) Bool.true out) y4);let y11:=I.hid (α:=(Prop)) (zA (Go.Ab.Rq.mk (Go.Ab.Ln.mk y2 y1 y0) p (Hd.mk m tg hm hf hl) le (Option.none) Bool.true out));let y12:=I.hid (α:=(Prop)) (And (yM (Go.Ab.Rq.mk (Go.Ab.Ln.mk y2 y1 y0) p (Hd.mk m tg hm hf hl) le (Option.none) Bool.true out)) (And (rqFs (Go.Ab.Rq.mk (Go.Ab.Ln.mk y2 y1 y0) p (Hd.mk m tg hm hf hl) le (Option.none) Bool.true out)) (LE.le (List.length y3) 1000000)));let y13:=I.hid (α:=Bool) (Prod.fst (Prod.snd (Prod.snd (lnF (Go.Ab.Ln.mk (Go.Ab.Ln.b ln) (Go.Ab.Ln.cr ln) (Go.Ab.Ln.code ln)) (UInt8.ofNat (Int.toNat k))))));let y14:=I.hid (α:=(Prop)) (And (LE.le (0:Int) k) (And (LE.le k (255:Int)) (LE.le (List.length (Go.Ab.Ln.b ln)) 1000000)));let y15:=I.hid (α:=Go.Ab.Rq) (yx y5 y9);.br (I.ieq p 2) (.need (I.inr Go.IntKind.u8 k) (.need y8 (.need (I.inr Go.IntKind.i64 (I.sub le 1)) (.br (I.ieq (I.sub le 1) 0) (.need (I.hid (α:=(Prop)) (zA (Go.Ab.Rq.mk (Go.Ab.Ln.mk (Go.Ab.Ln.b ln) (Go.Ab.Ln.cr ln) (Go.Ab.Ln.code ln)) p (Hd.mk m tg hm hf hl) (I.sub le 1) (Option.none) Bool.true y7))) (.fin (.ret (.tup [])) [(.abs (.rq (I.hid (α:=Go.Ab.Rq) (yU (Go.Ab.Rq.mk (Go.Ab.Ln.mk (Go.Ab.Ln.b ln) (Go.Ab.Ln.cr ln) (Go.Ab.Ln.code ln)) p (Hd.mk m tg hm hf hl) (I.sub le 1) (Option.none) Bool.true y7)))))])) (.fin (.ret (.tup [])) [(.abs (.rq (Go.Ab.Rq.mk (Go.Ab.Ln.mk (Go.Ab.Ln.b ln) (Go.Ab.Ln.cr ln) (Go.Ab.Ln.code ln)) p (Hd.mk m tg hm hf hl) (I.sub le 1) (Option.none) Bool.true y7)))]))))) (.br (I.ieq p 3) (.need (I.hid (α:=(Prop)) False) (.br (I.bnot (I.ieq 0 0)) (.need y8 (.fin (.ret (.tup [])) [(.abs (.rq (I.hid (α:=Go.Ab.Rq) (yx (Go.Ab.Rq.mk (Go.Ab.Ln.mk (Go.Ab.Ln.b ln) (Go.Ab.Ln.cr ln) (Go.Ab.Ln.code ln)) p (Hd.mk m tg hm hf hl) le (Option.none) Bool.true out) (0:Int)))))])) (.br (I.ilt 0 (I.len (α:=UInt8) (I.hid (α:=Str) ([]:Str)))) (.need y8 (.br Bool.false (.need (I.hid (α:=(Prop)) (zA (Go.Ab.Rq.mk (Go.Ab.Ln.mk (Go.Ab.Ln.b ln) (Go.Ab.Ln.cr ln) (Go.Ab.Ln.code ln)) p (Hd.mk m tg hm hf hl) le (Option.none) Bool.true y6))) (.fin (.ret (.tup [])) [(.abs (.rq (I.hid (α:=Go.Ab.Rq) (yU (Go.Ab.Rq.mk (Go.Ab.Ln.mk (Go.Ab.Ln.b ln) (Go.Ab.Ln.cr ln) (Go.Ab.Ln.code ln)) p (Hd.mk m tg hm hf hl) le (Option.none) Bool.true y6)))))])) (.fin (.ret (.tup [])) [(.abs (.rq (Go.Ab.Rq.mk (Go.Ab.Ln.mk (Go.Ab.Ln.b ln) (Go.Ab.Ln.cr ln) (Go.Ab.Ln.code ln)) p (Hd.mk m tg hm hf hl) le (Option.none) Bool.true y6)))]))) (.br Bool.false (.need y8 (.fin (.ret (.tup [])) [(.abs (.rq (I.hid (α:=Go.Ab.Rq) (yU (Go.Ab.Rq.mk (Go.Ab.Ln.mk (Go.Ab.Ln.b ln) (Go.Ab.Ln.cr ln) (Go.Ab.Ln.code ln)) p (Hd.mk m tg hm hf hl) le (Option.none) Bool.true out)))))])) (.fin (.ret (.tup [])) [(.abs (.rq (Go.Ab.Rq.mk (Go.Ab.Ln.mk (Go.Ab.Ln.b ln) (Go.Ab.Ln.cr ln) (Go.Ab.Ln.code ln)) p (Hd.mk m tg hm hf hl) le (Option.none) Bool.true out)))]))))) (.br (I.ieq p 0) (.need y14 (.br (I.ieq y4 0) (.br y13 (.need y12 (.br (I.bnot (I.ieq y9 0)) (.need (I.hid (α:=(Prop)) (zA y5)) (.fin (.ret (.tup [])) [(.abs (.rq y15))])) (.fin (.ret (.tup [])) [(.abs (.rq y5))]))) (.br (I.bnot (I.ieq y4 0)) (.need y11 (.fin (.ret (.tup [])) [(.abs (.rq y10))])) (.fin (.ret (.tup [])) [(.abs (.rq (Go.Ab.Rq.mk (Go.Ab.Ln.mk y2 y1 y0) p (Hd.mk m tg hm hf hl) le (Option.none) Bool.true out)))]))) (.br (I.bnot (I.ieq y4 0)) (.need y11 (.fin (.ret (.tup [])) [(.abs (.rq y10))])) (.fin (.ret (.tup [])) [(.abs (.rq (Go.Ab.Rq.mk (Go.Ab.Ln.mk y2 y1 y0) p (Hd.mk m tg hm hf hl) le (Option.none) Bool.true out)))])))) (.br (I.ieq p 1) (.need y14 (.br (I.ieq y4 0) (.br y13 (.need y12 (.br (I.bnot (I.ieq y9 0)) (.need (I.hid (α:=(Prop)) (zA y5)) (.fin (.ret (.tup [])) [(.abs (.rq y15))])) (.fin (.ret (.tup [])) [(.abs (.rq y5))]))) (.br (I.bnot (I.ieq y4 0)) (.need y11 (.fin (.ret (.tup [])) [(.abs (.rq y10))])) (.fin (.ret (.tup [])) [(.abs (.rq (Go.Ab.Rq.mk (Go.Ab.Ln.mk y2 y1 y0) p (Hd.mk m tg hm hf hl) le (Option.none) Bool.true out)))]))) (.br (I.bnot (I.ieq y4 0)) (.need y11 (.fin (.ret (.tup [])) [(.abs (.rq y10))])) (.fin (.ret (.tup [])) [(.abs (.rq (Go.Ab.Rq.mk (Go.Ab.Ln.mk y2 y1 y0) p (Hd.mk m tg hm hf hl) le (Option.none) Bool.true out)))])))) (.fin (.ret (.tup [])) [(.abs (.rq (Go.Ab.Rq.mk (Go.Ab.Ln.mk (Go.Ab.Ln.b ln) (Go.Ab.Ln.cr ln) (Go.Ab.Ln.code ln)) p (Hd.mk m tg hm hf hl) le (Option.none) Bool.true out)))]))))) (by kernel_rfl) ?_
  simp only [zC]
  subst hI
  unfold rqF at hr
  simp only at hr
  simp only [nrmA,nrmB,nrlB,reduceCtorEq,HO.abs.injEq,Gh.rq.injEq,Rq.mk.injEq]
  generalize UInt8.ofNat k.toNat=c at *
  have hz2:lnF ⟨ln.b,ln.cr,ln.code⟩ c=lnF ln c:=rfl
  simp only [hz2]
  clear hz2 g2
  by_cases q1:p=2
  · rw [if_pos q1] at hr
    have h9:=g9 q1
    by_cases q2:le - 1=0
    · rw [if_pos q2] at hr
      subst hr
      have q3:le=1:=by omega
      subst q3
      (repeat' (first|refine And.intro ?_ ?_|intro _))<;>first|omega|exact True.intro|exact False.elim ‹False›|skip
      all_goals first|omega|rfl|(unfold zA;simp;omega)|(unfold zA;simp only;omega)|trace_state
    · rw [if_neg q2] at hr
      subst hr
      (repeat' (first|refine And.intro ?_ ?_|intro _))<;>first|omega|exact True.intro|exact False.elim ‹False›|skip
      all_goals first|omega|rfl|(unfold zA;simp;omega)|(unfold zA;simp only;omega)|trace_state
  rw [if_neg q1] at hr
  by_cases q4:p=3
  · exact absurd rfl (g3 q4)
  rw [if_neg q4] at hr
  by_cases q8:p=0∨p=1
  · rw [if_pos q8] at hr
    have hl: ∀ (l:Ln) (s:Str),zF ⟨⟨l.b,l.cr,l.code⟩,p,⟨m,tg,hm,hf,hl⟩,le,none,true,out⟩ s=zF ⟨l,p,⟨m,tg,hm,hf,hl⟩,le,none,true,out⟩ s:=fun l s=>rfl
    simp only [hl]
    clear hl
    generalize lnF ln c=z at *
    obtain⟨l2,s,is,e⟩:=z
    simp only at hr hll ⊢
    have hlo:(zF ⟨l2,p,⟨m,tg,hm,hf,hl⟩,le,none,true,out⟩ s).1.out.length≤out.length+2:=X8 _ _
    generalize zF ⟨l2,p,⟨m,tg,hm,hf,hl⟩,le,none,true,out⟩ s=y at *
    obtain⟨y,ye⟩:=y
    simp only at hr hlo ⊢
    by_cases q5:e=0
    · rw [if_neg (fun h=>h q5)] at hr
      cases is with
      | true=>
        rw [if_pos rfl] at hr
        by_cases q6:ye=0
        · rw [if_neg (fun h=>h q6)] at hr
          subst hr
          (repeat' (first|refine And.intro ?_ ?_|intro _))<;>first|omega|exact True.intro|exact False.elim ‹False›|skip
          all_goals first|omega|rfl|contradiction|exact⟨rfl,⟨hfs,by simp only;omega⟩,by omega⟩|(simp only [yM];done)|exact hfs.1|(exact(hfs.2 _ ‹_›).1)|(exact(hfs.2 _ ‹_›).2)|(unfold zA;omega)|(simp only;omega)|trace_state
        · rw [if_pos q6] at hr
          subst hr
          (repeat' (first|refine And.intro ?_ ?_|intro _))<;>first|omega|exact True.intro|exact False.elim ‹False›|skip
          all_goals first|omega|rfl|contradiction|exact⟨rfl,⟨hfs,by simp only;omega⟩,by omega⟩|(simp only [yM];done)|exact hfs.1|(exact(hfs.2 _ ‹_›).1)|(exact(hfs.2 _ ‹_›).2)|(unfold zA;omega)|(simp only;omega)|trace_state
      | false=>
        rw [if_neg Bool.false_ne_true] at hr
        subst hr
        (repeat' (first|refine And.intro ?_ ?_|intro _))<;>first|omega|exact True.intro|exact False.elim ‹False›|skip
        all_goals first|omega|rfl|contradiction|trace_state
    · rw [if_pos q5] at hr
      subst hr
      (repeat' (first|refine And.intro ?_ ?_|intro _))<;>first|omega|exact True.intro|exact False.elim ‹False›|skip
      all_goals first|omega|rfl|contradiction|(unfold zA;simp only;omega)|trace_state
  rw [if_neg q8] at hr
  subst hr
  (repeat' (first|refine And.intro ?_ ?_|intro _))<;>first|omega|exact True.intro|exact False.elim ‹False›|skip
  all_goals first|omega|rfl|contradiction|trace_state
theorem zcE (ln:Ln) (p:Int) (m tg:Str) (hm:Int) (hf:List Fld) (hl le:Int) (out:List Evt) (k:Int) (hneed:rqN ⟨ln,p,⟨m,tg,hm,hf,hl⟩,le,none,false,out⟩∧0≤k∧k≤255):Spc Tryz.prog 22 [.v (.one (.ptr 0 0)),.v (.one (.p (.int .u8 k)))] [.abs (.rq ⟨ln,p,⟨m,tg,hm,hf,hl⟩,le,none,false,out⟩)] (.ret (.tup [])) [.abs (.rq ((rqF ⟨ln,p,⟨m,tg,hm,hf,hl⟩,le,none,false,out⟩ (UInt8.ofNat k.toNat))))]:=by
  obtain⟨⟨i,hi,hI0⟩,hk0,hk1⟩:=hneed
  obtain⟨g1,g2,g3,g4,g5,g6,g7,g8,g9,g10⟩:=hI0
  simp only at g1 g2 g3 g4 g5 g6 g7 g8 g9 g10
  have hfs:FsOk hf:=⟨by omega,fun f hm=>by have:=g6 f hm;omega⟩
  have hll:=ZB ln (UInt8.ofNat k.toNat)
  generalize hr:rqF ⟨ln,p,⟨m,tg,hm,hf,hl⟩,le,none,false,out⟩ (UInt8.ofNat k.toNat)=r
  refine spcG zx mixed Tryz.func22 (by kernel_rfl) { cfgQ with fz:=[45],keep:=some [0,1,4,5,6,7,8,9,13,62]} [uO,uN,Zd,Zc,YG,YF,zQ,zO,zV,zU,zZ,zY,yh,yg,yT,yS,qC,qB,tX,tV,qw,qp] (by kernel_rfl) ?_
  intro I X hI hX
  refine zi (let y0:=I.hid (α:=Int) (Go.Ab.Ln.code (Prod.fst (lnF (Go.Ab.Ln.mk (Go.Ab.Ln.b ln) (Go.Ab.Ln.cr ln) (Go.Ab.Ln.code ln)) (UInt8.ofNat (Int.toNat k)))));let y1:=I.hid (α:=Bool) (Go.Ab.Ln.cr (Prod.fst (lnF (Go.Ab.Ln.mk (Go.Ab.Ln.b ln) (Go.Ab.Ln.cr ln) (Go.Ab.Ln.code ln)) (UInt8.ofNat (Int.toNat k)))));let y2:=I.hid (α:=Str) (Go.Ab.Ln.b (Prod.fst (lnF (Go.Ab.Ln.mk (Go.Ab.Ln.b ln) (Go.Ab.Ln.cr ln) (Go.Ab.Ln.code ln)) (UInt8.ofNat (Int.toNat k)))));let y3:=I.hid (α:=Str) (Prod.fst (Prod.snd (lnF (Go.Ab.Ln.mk (Go.Ab.Ln.b ln) (Go.Ab.Ln.cr ln) (Go.Ab.Ln.code ln)) (UInt8.ofNat (Int.toNat k)))));let y4:=I.hid (α:=Int) (Prod.snd (Prod.snd (Prod.snd (lnF (Go.Ab.Ln.mk (Go.Ab.Ln.b ln) (Go.Ab.Ln.cr ln) (Go.Ab.Ln.code ln)) (UInt8.ofNat (Int.toNat k))))));let y5:=I.hid (α:=Go.Ab.Rq) (Prod.fst (zF (Go.Ab.Rq.mk (Go.Ab.Ln.mk y2 y1 y0) p (Hd.mk m tg hm hf hl) le (Option.none) Bool.false out) y3));let y6:=I.hid (α:=(List Go.Ab.Evt)) (HAppend.hAppend out ([(Go.Ab.Evt.mk (2:Int) (Hd.mk ([]:Str) ([]:Str) (0:Int) ([]:List Fld) (0:Int)) (I.hid (α:=Str) ([]:Str)) (Go.Ab.Prt.mk ([]:Str) ([]:Str) ([]:Str) ([]:Str)) (0:Int))]:List Go.Ab.Evt));let y7:=I.hid (α:=(List Go.Ab.Evt)) (HAppend.hAppend out ([(Go.Ab.Evt.mk (2:Int) (Hd.mk ([]:Str) ([]:Str) (0:Int) ([]:List Fld) (0:Int)) ([(I.i2b k)]:Str) (Go.Ab.Prt.mk ([]:Str) ([]:Str) ([]:Str) ([]:Str)) (0:Int))]:List Go.Ab.Evt));let y8:=I.hid (α:=(Prop)) (zA (Go.Ab.Rq.mk (Go.Ab.Ln.mk (Go.Ab.Ln.b ln) (Go.Ab.Ln.cr ln) (Go.Ab.Ln.code ln)) p (Hd.mk m tg hm hf hl) le (Option.none) Bool.false out));let y9:=I.hid (α:=Int) (Prod.snd (zF (Go.Ab.Rq.mk (Go.Ab.Ln.mk y2 y1 y0) p (Hd.mk m tg hm hf hl) le (Option.none) Bool.false out) y3));let y10:=I.hid (α:=Go.Ab.Rq) (yx (Go.Ab.Rq.mk (Go.Ab.Ln.mk y2 y1 y0) p (Hd.mk m tg hm hf hl) le (Option.none) Bool.false out) y4);let y11:=I.hid (α:=(Prop)) (zA (Go.Ab.Rq.mk (Go.Ab.Ln.mk y2 y1 y0) p (Hd.mk m tg hm hf hl) le (Option.none) Bool.false out));let y12:=I.hid (α:=(Prop)) (And (yM (Go.Ab.Rq.mk (Go.Ab.Ln.mk y2 y1 y0) p (Hd.mk m tg hm hf hl) le (Option.none) Bool.false out)) (And (rqFs (Go.Ab.Rq.mk (Go.Ab.Ln.mk y2 y1 y0) p (Hd.mk m tg hm hf hl) le (Option.none) Bool.false out)) (LE.le (List.length y3) 1000000)));let y13:=I.hid (α:=Bool) (Prod.fst (Prod.snd (Prod.snd (lnF (Go.Ab.Ln.mk (Go.Ab.Ln.b ln) (Go.Ab.Ln.cr ln) (Go.Ab.Ln.code ln)) (UInt8.ofNat (Int.toNat k))))));let y14:=I.hid (α:=(Prop)) (And (LE.le (0:Int) k) (And (LE.le k (255:Int)) (LE.le (List.length (Go.Ab.Ln.b ln)) 1000000)));let y15:=I.hid (α:=Go.Ab.Rq) (yx y5 y9);.br (I.ieq p 2) (.need (I.inr Go.IntKind.u8 k) (.need y8 (.need (I.inr Go.IntKind.i64 (I.sub le 1)) (.br (I.ieq (I.sub le 1) 0) (.need (I.hid (α:=(Prop)) (zA (Go.Ab.Rq.mk (Go.Ab.Ln.mk (Go.Ab.Ln.b ln) (Go.Ab.Ln.cr ln) (Go.Ab.Ln.code ln)) p (Hd.mk m tg hm hf hl) (I.sub le 1) (Option.none) Bool.false y7))) (.fin (.ret (.tup [])) [(.abs (.rq (I.hid (α:=Go.Ab.Rq) (yU (Go.Ab.Rq.mk (Go.Ab.Ln.mk (Go.Ab.Ln.b ln) (Go.Ab.Ln.cr ln) (Go.Ab.Ln.code ln)) p (Hd.mk m tg hm hf hl) (I.sub le 1) (Option.none) Bool.false y7)))))])) (.fin (.ret (.tup [])) [(.abs (.rq (Go.Ab.Rq.mk (Go.Ab.Ln.mk (Go.Ab.Ln.b ln) (Go.Ab.Ln.cr ln) (Go.Ab.Ln.code ln)) p (Hd.mk m tg hm hf hl) (I.sub le 1) (Option.none) Bool.false y7)))]))))) (.br (I.ieq p 3) (.need (I.hid (α:=(Prop)) False) (.br (I.bnot (I.ieq 0 0)) (.need y8 (.fin (.ret (.tup [])) [(.abs (.rq (I.hid (α:=Go.Ab.Rq) (yx (Go.Ab.Rq.mk (Go.Ab.Ln.mk (Go.Ab.Ln.b ln) (Go.Ab.Ln.cr ln) (Go.Ab.Ln.code ln)) p (Hd.mk m tg hm hf hl) le (Option.none) Bool.false out) (0:Int)))))])) (.br (I.ilt 0 (I.len (α:=UInt8) (I.hid (α:=Str) ([]:Str)))) (.need y8 (.br Bool.false (.need (I.hid (α:=(Prop)) (zA (Go.Ab.Rq.mk (Go.Ab.Ln.mk (Go.Ab.Ln.b ln) (Go.Ab.Ln.cr ln) (Go.Ab.Ln.code ln)) p (Hd.mk m tg hm hf hl) le (Option.none) Bool.false y6))) (.fin (.ret (.tup [])) [(.abs (.rq (I.hid (α:=Go.Ab.Rq) (yU (Go.Ab.Rq.mk (Go.Ab.Ln.mk (Go.Ab.Ln.b ln) (Go.Ab.Ln.cr ln) (Go.Ab.Ln.code ln)) p (Hd.mk m tg hm hf hl) le (Option.none) Bool.false y6)))))])) (.fin (.ret (.tup [])) [(.abs (.rq (Go.Ab.Rq.mk (Go.Ab.Ln.mk (Go.Ab.Ln.b ln) (Go.Ab.Ln.cr ln) (Go.Ab.Ln.code ln)) p (Hd.mk m tg hm hf hl) le (Option.none) Bool.false y6)))]))) (.br Bool.false (.need y8 (.fin (.ret (.tup [])) [(.abs (.rq (I.hid (α:=Go.Ab.Rq) (yU (Go.Ab.Rq.mk (Go.Ab.Ln.mk (Go.Ab.Ln.b ln) (Go.Ab.Ln.cr ln) (Go.Ab.Ln.code ln)) p (Hd.mk m tg hm hf hl) le (Option.none) Bool.false out)))))])) (.fin (.ret (.tup [])) [(.abs (.rq (Go.Ab.Rq.mk (Go.Ab.Ln.mk (Go.Ab.Ln.b ln) (Go.Ab.Ln.cr ln) (Go.Ab.Ln.code ln)) p (Hd.mk m tg hm hf hl) le (Option.none) Bool.false out)))]))))) (.br (I.ieq p 0) (.need y14 (.br (I.ieq y4 0) (.br y13 (.need y12 (.br (I.bnot (I.ieq y9 0)) (.need (I.hid (α:=(Prop)) (zA y5)) (.fin (.ret (.tup [])) [(.abs (.rq y15))])) (.fin (.ret (.tup [])) [(.abs (.rq y5))]))) (.br (I.bnot (I.ieq y4 0)) (.need y11 (.fin (.ret (.tup [])) [(.abs (.rq y10))])) (.fin (.ret (.tup [])) [(.abs (.rq (Go.Ab.Rq.mk (Go.Ab.Ln.mk y2 y1 y0) p (Hd.mk m tg hm hf hl) le (Option.none) Bool.false out)))]))) (.br (I.bnot (I.ieq y4 0)) (.need y11 (.fin (.ret (.tup [])) [(.abs (.rq y10))])) (.fin (.ret (.tup [])) [(.abs (.rq (Go.Ab.Rq.mk (Go.Ab.Ln.mk y2 y1 y0) p (Hd.mk m tg hm hf hl) le (Option.none) Bool.false out)))])))) (.br (I.ieq p 1) (.need y14 (.br (I.ieq y4 0) (.br y13 (.need y12 (.br (I.bnot (I.ieq y9 0)) (.need (I.hid (α:=(Prop)) (zA y5)) (.fin (.ret (.tup [])) [(.abs (.rq y15))])) (.fin (.ret (.tup [])) [(.abs (.rq y5))]))) (.br (I.bnot (I.ieq y4 0)) (.need y11 (.fin (.ret (.tup [])) [(.abs (.rq y10))])) (.fin (.ret (.tup [])) [(.abs (.rq (Go.Ab.Rq.mk (Go.Ab.Ln.mk y2 y1 y0) p (Hd.mk m tg hm hf hl) le (Option.none) Bool.false out)))]))) (.br (I.bnot (I.ieq y4 0)) (.need y11 (.fin (.ret (.tup [])) [(.abs (.rq y10))])) (.fin (.ret (.tup [])) [(.abs (.rq (Go.Ab.Rq.mk (Go.Ab.Ln.mk y2 y1 y0) p (Hd.mk m tg hm hf hl) le (Option.none) Bool.false out)))])))) (.fin (.ret (.tup [])) [(.abs (.rq (Go.Ab.Rq.mk (Go.Ab.Ln.mk (Go.Ab.Ln.b ln) (Go.Ab.Ln.cr ln) (Go.Ab.Ln.code ln)) p (Hd.mk m tg hm hf hl) le (Option.none) Bool.false out)))]))))) (by kernel_rfl) ?_
  simp only [zC]
  subst hI
  unfold rqF at hr
  simp only at hr
  simp only [nrmA,nrmB,nrlB,reduceCtorEq,HO.abs.injEq,Gh.rq.injEq,Rq.mk.injEq]
  generalize UInt8.ofNat k.toNat=c at *
  have hz2:lnF ⟨ln.b,ln.cr,ln.code⟩ c=lnF ln c:=rfl
  simp only [hz2]
  clear hz2 g2
  by_cases q1:p=2
  · rw [if_pos q1] at hr
    have h9:=g9 q1
    by_cases q2:le - 1=0
    · rw [if_pos q2] at hr
      subst hr
      have q3:le=1:=by omega
      subst q3
      (repeat' (first|refine And.intro ?_ ?_|intro _))<;>first|omega|exact True.intro|exact False.elim ‹False›|skip
      all_goals first|omega|rfl|(unfold zA;simp;omega)|(unfold zA;simp only;omega)|trace_state
    · rw [if_neg q2] at hr
      subst hr
      (repeat' (first|refine And.intro ?_ ?_|intro _))<;>first|omega|exact True.intro|exact False.elim ‹False›|skip
      all_goals first|omega|rfl|(unfold zA;simp;omega)|(unfold zA;simp only;omega)|trace_state
  rw [if_neg q1] at hr
  by_cases q4:p=3
  · exact absurd rfl (g3 q4)
  rw [if_neg q4] at hr
  by_cases q8:p=0∨p=1
  · exact absurd (g4 q8) (by simp)
  rw [if_neg q8] at hr
  subst hr
  (repeat' (first|refine And.intro ?_ ?_|intro _))<;>first|omega|exact True.intro|exact False.elim ‹False›|skip
  all_goals first|omega|rfl|contradiction|trace_state
theorem zcB (ln:Ln) (p:Int) (m tg:Str) (hm:Int) (hf:List Fld) (hl le:Int) (ch:Ch) (out:List Evt) (k:Int) (hneed:rqN ⟨ln,p,⟨m,tg,hm,hf,hl⟩,le,some ch,true,out⟩∧0≤k∧k≤255):Spc Tryz.prog 22 [.v (.one (.ptr 0 0)),.v (.one (.p (.int .u8 k)))] [.abs (.rq ⟨ln,p,⟨m,tg,hm,hf,hl⟩,le,some ch,true,out⟩)] (.ret (.tup [])) [.abs (.rq ((rqF ⟨ln,p,⟨m,tg,hm,hf,hl⟩,le,some ch,true,out⟩ (UInt8.ofNat k.toNat))))]:=by
  obtain⟨⟨i,hi,hI0⟩,hk0,hk1⟩:=hneed
  obtain⟨g1,g2,g3,g4,g5,g6,g7,g8,g9,g10⟩:=hI0
  simp only at g1 g2 g3 g4 g5 g6 g7 g8 g9 g10
  have hfs:FsOk hf:=⟨by omega,fun f hm=>by have:=g6 f hm;omega⟩
  have hll:=ZB ln (UInt8.ofNat k.toNat)
  generalize hr:rqF ⟨ln,p,⟨m,tg,hm,hf,hl⟩,le,some ch,true,out⟩ (UInt8.ofNat k.toNat)=r
  refine spcG zx mixed Tryz.func22 (by kernel_rfl) { cfgQ with fz:=[45],keep:=some [0,1,4,5,6,7,8,9,13,62]} [uO,uN,Zd,Zc,YG,YF,zQ,zO,zV,zU,zZ,zY,yh,yg,yT,yS,qC,qB,tX,tV,qw,qp] (by kernel_rfl) ?_
  intro I X hI hX
  refine zi (let y8:=I.hid (α:=Str) (Go.Ab.Ln.b (Go.Ab.Ch.ln (Prod.fst (chF (Go.Ab.Ch.mk (Go.Ab.Ln.mk (Go.Ab.Ln.b (Go.Ab.Ch.ln ch)) (Go.Ab.Ln.cr (Go.Ab.Ch.ln ch)) (Go.Ab.Ln.code (Go.Ab.Ch.ln ch))) (Go.Ab.Ch.pos ch) (Go.Ab.Ch.left ch) (Go.Ab.Ch.all ch) (Go.Ab.Ch.tails ch) (Go.Ab.Ch.code ch)) (UInt8.ofNat (Int.toNat k))))));let y7:=I.hid (α:=Bool) (Go.Ab.Ln.cr (Go.Ab.Ch.ln (Prod.fst (chF (Go.Ab.Ch.mk (Go.Ab.Ln.mk (Go.Ab.Ln.b (Go.Ab.Ch.ln ch)) (Go.Ab.Ln.cr (Go.Ab.Ch.ln ch)) (Go.Ab.Ln.code (Go.Ab.Ch.ln ch))) (Go.Ab.Ch.pos ch) (Go.Ab.Ch.left ch) (Go.Ab.Ch.all ch) (Go.Ab.Ch.tails ch) (Go.Ab.Ch.code ch)) (UInt8.ofNat (Int.toNat k))))));let y6:=I.hid (α:=Int) (Go.Ab.Ln.code (Go.Ab.Ch.ln (Prod.fst (chF (Go.Ab.Ch.mk (Go.Ab.Ln.mk (Go.Ab.Ln.b (Go.Ab.Ch.ln ch)) (Go.Ab.Ln.cr (Go.Ab.Ch.ln ch)) (Go.Ab.Ln.code (Go.Ab.Ch.ln ch))) (Go.Ab.Ch.pos ch) (Go.Ab.Ch.left ch) (Go.Ab.Ch.all ch) (Go.Ab.Ch.tails ch) (Go.Ab.Ch.code ch)) (UInt8.ofNat (Int.toNat k))))));let y12:=I.hid (α:=Int) (Go.Ab.Ch.pos (Prod.fst (chF (Go.Ab.Ch.mk (Go.Ab.Ln.mk (Go.Ab.Ln.b (Go.Ab.Ch.ln ch)) (Go.Ab.Ln.cr (Go.Ab.Ch.ln ch)) (Go.Ab.Ln.code (Go.Ab.Ch.ln ch))) (Go.Ab.Ch.pos ch) (Go.Ab.Ch.left ch) (Go.Ab.Ch.all ch) (Go.Ab.Ch.tails ch) (Go.Ab.Ch.code ch)) (UInt8.ofNat (Int.toNat k)))));let y10:=I.hid (α:=Int) (Go.Ab.Ch.left (Prod.fst (chF (Go.Ab.Ch.mk (Go.Ab.Ln.mk (Go.Ab.Ln.b (Go.Ab.Ch.ln ch)) (Go.Ab.Ln.cr (Go.Ab.Ch.ln ch)) (Go.Ab.Ln.code (Go.Ab.Ch.ln ch))) (Go.Ab.Ch.pos ch) (Go.Ab.Ch.left ch) (Go.Ab.Ch.all ch) (Go.Ab.Ch.tails ch) (Go.Ab.Ch.code ch)) (UInt8.ofNat (Int.toNat k)))));let y13:=I.hid (α:=Int) (Go.Ab.Ch.all (Prod.fst (chF (Go.Ab.Ch.mk (Go.Ab.Ln.mk (Go.Ab.Ln.b (Go.Ab.Ch.ln ch)) (Go.Ab.Ln.cr (Go.Ab.Ch.ln ch)) (Go.Ab.Ln.code (Go.Ab.Ch.ln ch))) (Go.Ab.Ch.pos ch) (Go.Ab.Ch.left ch) (Go.Ab.Ch.all ch) (Go.Ab.Ch.tails ch) (Go.Ab.Ch.code ch)) (UInt8.ofNat (Int.toNat k)))));let y9:=I.hid (α:=Int) (Go.Ab.Ch.tails (Prod.fst (chF (Go.Ab.Ch.mk (Go.Ab.Ln.mk (Go.Ab.Ln.b (Go.Ab.Ch.ln ch)) (Go.Ab.Ln.cr (Go.Ab.Ch.ln ch)) (Go.Ab.Ln.code (Go.Ab.Ch.ln ch))) (Go.Ab.Ch.pos ch) (Go.Ab.Ch.left ch) (Go.Ab.Ch.all ch) (Go.Ab.Ch.tails ch) (Go.Ab.Ch.code ch)) (UInt8.ofNat (Int.toNat k)))));let y11:=I.hid (α:=Int) (Go.Ab.Ch.code (Prod.fst (chF (Go.Ab.Ch.mk (Go.Ab.Ln.mk (Go.Ab.Ln.b (Go.Ab.Ch.ln ch)) (Go.Ab.Ln.cr (Go.Ab.Ch.ln ch)) (Go.Ab.Ln.code (Go.Ab.Ch.ln ch))) (Go.Ab.Ch.pos ch) (Go.Ab.Ch.left ch) (Go.Ab.Ch.all ch) (Go.Ab.Ch.tails ch) (Go.Ab.Ch.code ch)) (UInt8.ofNat (Int.toNat k)))));let y0:=I.hid (α:=(Prop)) (zA (Go.Ab.Rq.mk (Go.Ab.Ln.mk (Go.Ab.Ln.b ln) (Go.Ab.Ln.cr ln) (Go.Ab.Ln.code ln)) p (Hd.mk m tg hm hf hl) le (Option.some (Go.Ab.Ch.mk (Go.Ab.Ln.mk y8 y7 y6) y12 y10 y13 y9 y11)) Bool.true out));let y19:=I.hid (α:=Str) (Go.Ab.Ln.b (Prod.fst (lnF (Go.Ab.Ln.mk (Go.Ab.Ln.b ln) (Go.Ab.Ln.cr ln) (Go.Ab.Ln.code ln)) (UInt8.ofNat (Int.toNat k)))));let y18:=I.hid (α:=Bool) (Go.Ab.Ln.cr (Prod.fst (lnF (Go.Ab.Ln.mk (Go.Ab.Ln.b ln) (Go.Ab.Ln.cr ln) (Go.Ab.Ln.code ln)) (UInt8.ofNat (Int.toNat k)))));let y17:=I.hid (α:=Int) (Go.Ab.Ln.code (Prod.fst (lnF (Go.Ab.Ln.mk (Go.Ab.Ln.b ln) (Go.Ab.Ln.cr ln) (Go.Ab.Ln.code ln)) (UInt8.ofNat (Int.toNat k)))));let y1:=I.hid (α:=Go.Ab.Rq) (Prod.fst (zF (Go.Ab.Rq.mk (Go.Ab.Ln.mk y19 y18 y17) p (Hd.mk m tg hm hf hl) le (Option.some (Go.Ab.Ch.mk (Go.Ab.Ln.mk (Go.Ab.Ln.b (Go.Ab.Ch.ln ch)) (Go.Ab.Ln.cr (Go.Ab.Ch.ln ch)) (Go.Ab.Ln.code (Go.Ab.Ch.ln ch))) (Go.Ab.Ch.pos ch) (Go.Ab.Ch.left ch) (Go.Ab.Ch.all ch) (Go.Ab.Ch.tails ch) (Go.Ab.Ch.code ch))) Bool.true out) (I.hid (α:=Str) (Prod.fst (Prod.snd (lnF (Go.Ab.Ln.mk (Go.Ab.Ln.b ln) (Go.Ab.Ln.cr ln) (Go.Ab.Ln.code ln)) (UInt8.ofNat (Int.toNat k))))))));let y2:=I.hid (α:=Go.Ab.Rq) (yx (Go.Ab.Rq.mk (Go.Ab.Ln.mk y19 y18 y17) p (Hd.mk m tg hm hf hl) le (Option.some (Go.Ab.Ch.mk (Go.Ab.Ln.mk (Go.Ab.Ln.b (Go.Ab.Ch.ln ch)) (Go.Ab.Ln.cr (Go.Ab.Ch.ln ch)) (Go.Ab.Ln.code (Go.Ab.Ch.ln ch))) (Go.Ab.Ch.pos ch) (Go.Ab.Ch.left ch) (Go.Ab.Ch.all ch) (Go.Ab.Ch.tails ch) (Go.Ab.Ch.code ch))) Bool.true out) (I.hid (α:=Int) (Prod.snd (Prod.snd (Prod.snd (lnF (Go.Ab.Ln.mk (Go.Ab.Ln.b ln) (Go.Ab.Ln.cr ln) (Go.Ab.Ln.code ln)) (UInt8.ofNat (Int.toNat k))))))));let y3:=I.hid (α:=Int) (Prod.snd (zF (Go.Ab.Rq.mk (Go.Ab.Ln.mk y19 y18 y17) p (Hd.mk m tg hm hf hl) le (Option.some (Go.Ab.Ch.mk (Go.Ab.Ln.mk (Go.Ab.Ln.b (Go.Ab.Ch.ln ch)) (Go.Ab.Ln.cr (Go.Ab.Ch.ln ch)) (Go.Ab.Ln.code (Go.Ab.Ch.ln ch))) (Go.Ab.Ch.pos ch) (Go.Ab.Ch.left ch) (Go.Ab.Ch.all ch) (Go.Ab.Ch.tails ch) (Go.Ab.Ch.code ch))) Bool.true out) (I.hid (α:=Str) (Prod.fst (Prod.snd (lnF (Go.Ab.Ln.mk (Go.Ab.Ln.b ln) (Go.Ab.Ln.cr ln) (Go.Ab.Ln.code ln)) (UInt8.ofNat (Int.toNat k))))))));let y4:=I.hid (α:=(Prop)) (zA (Go.Ab.Rq.mk (Go.Ab.Ln.mk y19 y18 y17) p (Hd.mk m tg hm hf hl) le (Option.some (Go.Ab.Ch.mk (Go.Ab.Ln.mk (Go.Ab.Ln.b (Go.Ab.Ch.ln ch)) (Go.Ab.Ln.cr (Go.Ab.Ch.ln ch)) (Go.Ab.Ln.code (Go.Ab.Ch.ln ch))) (Go.Ab.Ch.pos ch) (Go.Ab.Ch.left ch) (Go.Ab.Ch.all ch) (Go.Ab.Ch.tails ch) (Go.Ab.Ch.code ch))) Bool.true out));let y5:=I.hid (α:=(Prop)) (And (yM (Go.Ab.Rq.mk (Go.Ab.Ln.mk y19 y18 y17) p (Hd.mk m tg hm hf hl) le (Option.some (Go.Ab.Ch.mk (Go.Ab.Ln.mk (Go.Ab.Ln.b (Go.Ab.Ch.ln ch)) (Go.Ab.Ln.cr (Go.Ab.Ch.ln ch)) (Go.Ab.Ln.code (Go.Ab.Ch.ln ch))) (Go.Ab.Ch.pos ch) (Go.Ab.Ch.left ch) (Go.Ab.Ch.all ch) (Go.Ab.Ch.tails ch) (Go.Ab.Ch.code ch))) Bool.true out)) (And (rqFs (Go.Ab.Rq.mk (Go.Ab.Ln.mk y19 y18 y17) p (Hd.mk m tg hm hf hl) le (Option.some (Go.Ab.Ch.mk (Go.Ab.Ln.mk (Go.Ab.Ln.b (Go.Ab.Ch.ln ch)) (Go.Ab.Ln.cr (Go.Ab.Ch.ln ch)) (Go.Ab.Ln.code (Go.Ab.Ch.ln ch))) (Go.Ab.Ch.pos ch) (Go.Ab.Ch.left ch) (Go.Ab.Ch.all ch) (Go.Ab.Ch.tails ch) (Go.Ab.Ch.code ch))) Bool.true out)) (LE.le (List.length (I.hid (α:=Str) (Prod.fst (Prod.snd (lnF (Go.Ab.Ln.mk (Go.Ab.Ln.b ln) (Go.Ab.Ln.cr ln) (Go.Ab.Ln.code ln)) (UInt8.ofNat (Int.toNat k))))))) 1000000)));let y14:=I.hid (α:=(List Go.Ab.Evt)) (HAppend.hAppend out ([(Go.Ab.Evt.mk (2:Int) (Hd.mk ([]:Str) ([]:Str) (0:Int) ([]:List Fld) (0:Int)) (I.hid (α:=Str) (Prod.fst (Prod.snd (chF (Go.Ab.Ch.mk (Go.Ab.Ln.mk (Go.Ab.Ln.b (Go.Ab.Ch.ln ch)) (Go.Ab.Ln.cr (Go.Ab.Ch.ln ch)) (Go.Ab.Ln.code (Go.Ab.Ch.ln ch))) (Go.Ab.Ch.pos ch) (Go.Ab.Ch.left ch) (Go.Ab.Ch.all ch) (Go.Ab.Ch.tails ch) (Go.Ab.Ch.code ch)) (UInt8.ofNat (Int.toNat k)))))) (Go.Ab.Prt.mk ([]:Str) ([]:Str) ([]:Str) ([]:Str)) (0:Int))]:List Go.Ab.Evt));let y15:=I.ieq (I.hid (α:=Int) (Prod.snd (Prod.snd (Prod.snd (lnF (Go.Ab.Ln.mk (Go.Ab.Ln.b ln) (Go.Ab.Ln.cr ln) (Go.Ab.Ln.code ln)) (UInt8.ofNat (Int.toNat k))))))) 0;let y16:=I.hid (α:=(List Go.Ab.Evt)) (HAppend.hAppend out ([(Go.Ab.Evt.mk (2:Int) (Hd.mk ([]:Str) ([]:Str) (0:Int) ([]:List Fld) (0:Int)) ([(I.i2b k)]:Str) (Go.Ab.Prt.mk ([]:Str) ([]:Str) ([]:Str) ([]:Str)) (0:Int))]:List Go.Ab.Evt));let y20:=I.hid (α:=Bool) (Prod.fst (Prod.snd (Prod.snd (chF (Go.Ab.Ch.mk (Go.Ab.Ln.mk (Go.Ab.Ln.b (Go.Ab.Ch.ln ch)) (Go.Ab.Ln.cr (Go.Ab.Ch.ln ch)) (Go.Ab.Ln.code (Go.Ab.Ch.ln ch))) (Go.Ab.Ch.pos ch) (Go.Ab.Ch.left ch) (Go.Ab.Ch.all ch) (Go.Ab.Ch.tails ch) (Go.Ab.Ch.code ch)) (UInt8.ofNat (Int.toNat k))))));let y21:=I.hid (α:=Int) (Prod.snd (Prod.snd (Prod.snd (chF (Go.Ab.Ch.mk (Go.Ab.Ln.mk (Go.Ab.Ln.b (Go.Ab.Ch.ln ch)) (Go.Ab.Ln.cr (Go.Ab.Ch.ln ch)) (Go.Ab.Ln.code (Go.Ab.Ch.ln ch))) (Go.Ab.Ch.pos ch) (Go.Ab.Ch.left ch) (Go.Ab.Ch.all ch) (Go.Ab.Ch.tails ch) (Go.Ab.Ch.code ch)) (UInt8.ofNat (Int.toNat k))))));let y22:=I.hid (α:=Bool) (Prod.fst (Prod.snd (Prod.snd (lnF (Go.Ab.Ln.mk (Go.Ab.Ln.b ln) (Go.Ab.Ln.cr ln) (Go.Ab.Ln.code ln)) (UInt8.ofNat (Int.toNat k))))));let y23:=I.hid (α:=(Prop)) (And (LE.le (0:Int) k) (And (LE.le k (255:Int)) (LE.le (List.length (Go.Ab.Ln.b ln)) 1000000)));let y24:=I.hid (α:=Go.Ab.Rq) (yx y1 y3);.br (I.ieq p 2) (.need (I.inr Go.IntKind.u8 k) (.need (I.hid (α:=(Prop)) (zA (Go.Ab.Rq.mk (Go.Ab.Ln.mk (Go.Ab.Ln.b ln) (Go.Ab.Ln.cr ln) (Go.Ab.Ln.code ln)) p (Hd.mk m tg hm hf hl) le (Option.some (Go.Ab.Ch.mk (Go.Ab.Ln.mk (Go.Ab.Ln.b (Go.Ab.Ch.ln ch)) (Go.Ab.Ln.cr (Go.Ab.Ch.ln ch)) (Go.Ab.Ln.code (Go.Ab.Ch.ln ch))) (Go.Ab.Ch.pos ch) (Go.Ab.Ch.left ch) (Go.Ab.Ch.all ch) (Go.Ab.Ch.tails ch) (Go.Ab.Ch.code ch))) Bool.true out))) (.need (I.inr Go.IntKind.i64 (I.sub le 1)) (.br (I.ieq (I.sub le 1) 0) (.need (I.hid (α:=(Prop)) (zA (Go.Ab.Rq.mk (Go.Ab.Ln.mk (Go.Ab.Ln.b ln) (Go.Ab.Ln.cr ln) (Go.Ab.Ln.code ln)) p (Hd.mk m tg hm hf hl) (I.sub le 1) (Option.some (Go.Ab.Ch.mk (Go.Ab.Ln.mk (Go.Ab.Ln.b (Go.Ab.Ch.ln ch)) (Go.Ab.Ln.cr (Go.Ab.Ch.ln ch)) (Go.Ab.Ln.code (Go.Ab.Ch.ln ch))) (Go.Ab.Ch.pos ch) (Go.Ab.Ch.left ch) (Go.Ab.Ch.all ch) (Go.Ab.Ch.tails ch) (Go.Ab.Ch.code ch))) Bool.true y16))) (.fin (.ret (.tup [])) [(.abs (.rq (I.hid (α:=Go.Ab.Rq) (yU (Go.Ab.Rq.mk (Go.Ab.Ln.mk (Go.Ab.Ln.b ln) (Go.Ab.Ln.cr ln) (Go.Ab.Ln.code ln)) p (Hd.mk m tg hm hf hl) (I.sub le 1) (Option.some (Go.Ab.Ch.mk (Go.Ab.Ln.mk (Go.Ab.Ln.b (Go.Ab.Ch.ln ch)) (Go.Ab.Ln.cr (Go.Ab.Ch.ln ch)) (Go.Ab.Ln.code (Go.Ab.Ch.ln ch))) (Go.Ab.Ch.pos ch) (Go.Ab.Ch.left ch) (Go.Ab.Ch.all ch) (Go.Ab.Ch.tails ch) (Go.Ab.Ch.code ch))) Bool.true y16)))))])) (.fin (.ret (.tup [])) [(.abs (.rq (Go.Ab.Rq.mk (Go.Ab.Ln.mk (Go.Ab.Ln.b ln) (Go.Ab.Ln.cr ln) (Go.Ab.Ln.code ln)) p (Hd.mk m tg hm hf hl) (I.sub le 1) (Option.some (Go.Ab.Ch.mk (Go.Ab.Ln.mk (Go.Ab.Ln.b (Go.Ab.Ch.ln ch)) (Go.Ab.Ln.cr (Go.Ab.Ch.ln ch)) (Go.Ab.Ln.code (Go.Ab.Ch.ln ch))) (Go.Ab.Ch.pos ch) (Go.Ab.Ch.left ch) (Go.Ab.Ch.all ch) (Go.Ab.Ch.tails ch) (Go.Ab.Ch.code ch))) Bool.true y16)))]))))) (.br (I.ieq p 3) (.need (I.hid (α:=(Prop)) (And (And (LE.le (0:Int) k) (LE.le k (255:Int))) (And (LE.le (List.length (Go.Ab.Ln.b (Go.Ab.Ch.ln ch))) 1000000) (And (And (LE.le (Neg.neg (1000000:Int)) (Go.Ab.Ch.left ch)) (LE.le (Go.Ab.Ch.left ch) (100000000:Int))) (And (And (LE.le (0:Int) (Go.Ab.Ch.all ch)) (LE.le (Go.Ab.Ch.all ch) (1000000:Int))) (And (LE.le (0:Int) (Go.Ab.Ch.tails ch)) (LE.le (Go.Ab.Ch.tails ch) (1000000:Int)))))))) (.br (I.bnot (I.ieq y21 0)) (.need y0 (.fin (.ret (.tup [])) [(.abs (.rq (I.hid (α:=Go.Ab.Rq) (yx (Go.Ab.Rq.mk (Go.Ab.Ln.mk (Go.Ab.Ln.b ln) (Go.Ab.Ln.cr ln) (Go.Ab.Ln.code ln)) p (Hd.mk m tg hm hf hl) le (Option.some (Go.Ab.Ch.mk (Go.Ab.Ln.mk y8 y7 y6) y12 y10 y13 y9 y11)) Bool.true out) y21))))])) (.br (I.ilt 0 (I.len (α:=UInt8) (I.hid (α:=Str) (Prod.fst (Prod.snd (chF (Go.Ab.Ch.mk (Go.Ab.Ln.mk (Go.Ab.Ln.b (Go.Ab.Ch.ln ch)) (Go.Ab.Ln.cr (Go.Ab.Ch.ln ch)) (Go.Ab.Ln.code (Go.Ab.Ch.ln ch))) (Go.Ab.Ch.pos ch) (Go.Ab.Ch.left ch) (Go.Ab.Ch.all ch) (Go.Ab.Ch.tails ch) (Go.Ab.Ch.code ch)) (UInt8.ofNat (Int.toNat k)))))))) (.need y0 (.br y20 (.need (I.hid (α:=(Prop)) (zA (Go.Ab.Rq.mk (Go.Ab.Ln.mk (Go.Ab.Ln.b ln) (Go.Ab.Ln.cr ln) (Go.Ab.Ln.code ln)) p (Hd.mk m tg hm hf hl) le (Option.some (Go.Ab.Ch.mk (Go.Ab.Ln.mk y8 y7 y6) y12 y10 y13 y9 y11)) Bool.true y14))) (.fin (.ret (.tup [])) [(.abs (.rq (I.hid (α:=Go.Ab.Rq) (yU (Go.Ab.Rq.mk (Go.Ab.Ln.mk (Go.Ab.Ln.b ln) (Go.Ab.Ln.cr ln) (Go.Ab.Ln.code ln)) p (Hd.mk m tg hm hf hl) le (Option.some (Go.Ab.Ch.mk (Go.Ab.Ln.mk y8 y7 y6) y12 y10 y13 y9 y11)) Bool.true y14)))))])) (.fin (.ret (.tup [])) [(.abs (.rq (Go.Ab.Rq.mk (Go.Ab.Ln.mk (Go.Ab.Ln.b ln) (Go.Ab.Ln.cr ln) (Go.Ab.Ln.code ln)) p (Hd.mk m tg hm hf hl) le (Option.some (Go.Ab.Ch.mk (Go.Ab.Ln.mk y8 y7 y6) y12 y10 y13 y9 y11)) Bool.true y14)))]))) (.br y20 (.need y0 (.fin (.ret (.tup [])) [(.abs (.rq (I.hid (α:=Go.Ab.Rq) (yU (Go.Ab.Rq.mk (Go.Ab.Ln.mk (Go.Ab.Ln.b ln) (Go.Ab.Ln.cr ln) (Go.Ab.Ln.code ln)) p (Hd.mk m tg hm hf hl) le (Option.some (Go.Ab.Ch.mk (Go.Ab.Ln.mk y8 y7 y6) y12 y10 y13 y9 y11)) Bool.true out)))))])) (.fin (.ret (.tup [])) [(.abs (.rq (Go.Ab.Rq.mk (Go.Ab.Ln.mk (Go.Ab.Ln.b ln) (Go.Ab.Ln.cr ln) (Go.Ab.Ln.code ln)) p (Hd.mk m tg hm hf hl) le (Option.some (Go.Ab.Ch.mk (Go.Ab.Ln.mk y8 y7 y6) y12 y10 y13 y9 y11)) Bool.true out)))]))))) (.br (I.ieq p 0) (.need y23 (.br y15 (.br y22 (.need y5 (.br (I.bnot (I.ieq y3 0)) (.need (I.hid (α:=(Prop)) (zA y1)) (.fin (.ret (.tup [])) [(.abs (.rq y24))])) (.fin (.ret (.tup [])) [(.abs (.rq y1))]))) (.br (I.bnot y15) (.need y4 (.fin (.ret (.tup [])) [(.abs (.rq y2))])) (.fin (.ret (.tup [])) [(.abs (.rq (Go.Ab.Rq.mk (Go.Ab.Ln.mk y19 y18 y17) p (Hd.mk m tg hm hf hl) le (Option.some (Go.Ab.Ch.mk (Go.Ab.Ln.mk (Go.Ab.Ln.b (Go.Ab.Ch.ln ch)) (Go.Ab.Ln.cr (Go.Ab.Ch.ln ch)) (Go.Ab.Ln.code (Go.Ab.Ch.ln ch))) (Go.Ab.Ch.pos ch) (Go.Ab.Ch.left ch) (Go.Ab.Ch.all ch) (Go.Ab.Ch.tails ch) (Go.Ab.Ch.code ch))) Bool.true out)))]))) (.br (I.bnot y15) (.need y4 (.fin (.ret (.tup [])) [(.abs (.rq y2))])) (.fin (.ret (.tup [])) [(.abs (.rq (Go.Ab.Rq.mk (Go.Ab.Ln.mk y19 y18 y17) p (Hd.mk m tg hm hf hl) le (Option.some (Go.Ab.Ch.mk (Go.Ab.Ln.mk (Go.Ab.Ln.b (Go.Ab.Ch.ln ch)) (Go.Ab.Ln.cr (Go.Ab.Ch.ln ch)) (Go.Ab.Ln.code (Go.Ab.Ch.ln ch))) (Go.Ab.Ch.pos ch) (Go.Ab.Ch.left ch) (Go.Ab.Ch.all ch) (Go.Ab.Ch.tails ch) (Go.Ab.Ch.code ch))) Bool.true out)))])))) (.br (I.ieq p 1) (.need y23 (.br y15 (.br y22 (.need y5 (.br (I.bnot (I.ieq y3 0)) (.need (I.hid (α:=(Prop)) (zA y1)) (.fin (.ret (.tup [])) [(.abs (.rq y24))])) (.fin (.ret (.tup [])) [(.abs (.rq y1))]))) (.br (I.bnot y15) (.need y4 (.fin (.ret (.tup [])) [(.abs (.rq y2))])) (.fin (.ret (.tup [])) [(.abs (.rq (Go.Ab.Rq.mk (Go.Ab.Ln.mk y19 y18 y17) p (Hd.mk m tg hm hf hl) le (Option.some (Go.Ab.Ch.mk (Go.Ab.Ln.mk (Go.Ab.Ln.b (Go.Ab.Ch.ln ch)) (Go.Ab.Ln.cr (Go.Ab.Ch.ln ch)) (Go.Ab.Ln.code (Go.Ab.Ch.ln ch))) (Go.Ab.Ch.pos ch) (Go.Ab.Ch.left ch) (Go.Ab.Ch.all ch) (Go.Ab.Ch.tails ch) (Go.Ab.Ch.code ch))) Bool.true out)))]))) (.br (I.bnot y15) (.need y4 (.fin (.ret (.tup [])) [(.abs (.rq y2))])) (.fin (.ret (.tup [])) [(.abs (.rq (Go.Ab.Rq.mk (Go.Ab.Ln.mk y19 y18 y17) p (Hd.mk m tg hm hf hl) le (Option.some (Go.Ab.Ch.mk (Go.Ab.Ln.mk (Go.Ab.Ln.b (Go.Ab.Ch.ln ch)) (Go.Ab.Ln.cr (Go.Ab.Ch.ln ch)) (Go.Ab.Ln.code (Go.Ab.Ch.ln ch))) (Go.Ab.Ch.pos ch) (Go.Ab.Ch.left ch) (Go.Ab.Ch.all ch) (Go.Ab.Ch.tails ch) (Go.Ab.Ch.code ch))) Bool.true out)))])))) (.fin (.ret (.tup [])) [(.abs (.rq (Go.Ab.Rq.mk (Go.Ab.Ln.mk (Go.Ab.Ln.b ln) (Go.Ab.Ln.cr ln) (Go.Ab.Ln.code ln)) p (Hd.mk m tg hm hf hl) le (Option.some (Go.Ab.Ch.mk (Go.Ab.Ln.mk (Go.Ab.Ln.b (Go.Ab.Ch.ln ch)) (Go.Ab.Ln.cr (Go.Ab.Ch.ln ch)) (Go.Ab.Ln.code (Go.Ab.Ch.ln ch))) (Go.Ab.Ch.pos ch) (Go.Ab.Ch.left ch) (Go.Ab.Ch.all ch) (Go.Ab.Ch.tails ch) (Go.Ab.Ch.code ch))) Bool.true out)))]))))) (by kernel_rfl) ?_
  simp only [zC]
  subst hI
  unfold rqF at hr
  simp only at hr
  simp only [nrmA,nrmB,nrlB,reduceCtorEq,HO.abs.injEq,Gh.rq.injEq,Rq.mk.injEq]
  generalize UInt8.ofNat k.toNat=c at *
  have hni:=zaQ (g2 ch rfl) hi
  have hz:chF ⟨⟨ch.ln.b,ch.ln.cr,ch.ln.code⟩,ch.pos,ch.left,ch.all,ch.tails,ch.code⟩ c=chF ch c:=rfl
  have hck:ckOf ⟨ln,p,⟨m,tg,hm,hf,hl⟩,le,some ch,true,out⟩=ch:=rfl
  simp only [hz]
  rw [hck] at hr
  clear hz hck
  have hz2:lnF ⟨ln.b,ln.cr,ln.code⟩ c=lnF ln c:=rfl
  simp only [hz2]
  clear hz2 g2
  by_cases q1:p=2
  · rw [if_pos q1] at hr
    have h9:=g9 q1
    by_cases q2:le - 1=0
    · rw [if_pos q2] at hr
      subst hr
      have q3:le=1:=by omega
      subst q3
      (repeat' (first|refine And.intro ?_ ?_|intro _))<;>first|omega|exact True.intro|exact False.elim ‹False›|skip
      all_goals first|omega|rfl|(unfold zA;simp;omega)|(unfold zA;simp only;omega)|trace_state
    · rw [if_neg q2] at hr
      subst hr
      (repeat' (first|refine And.intro ?_ ?_|intro _))<;>first|omega|exact True.intro|exact False.elim ‹False›|skip
      all_goals first|omega|rfl|(unfold zA;simp;omega)|(unfold zA;simp only;omega)|trace_state
  rw [if_neg q1] at hr
  by_cases q4:p=3
  · rw [if_pos q4] at hr
    generalize chF ch c=z at *
    obtain⟨⟨⟨zb,zc,zo⟩,z1,z2,z3,z4,z5⟩,d,ov,e⟩:=z
    simp only at hr ⊢
    have hd0:d.length=0↔d=[]:=List.length_eq_zero_iff
    by_cases q5:e=0
    · rw [if_neg (fun h=>h q5)] at hr
      cases ov with
      | true=>
        rw [if_pos rfl] at hr
        by_cases q6:d=[]
        · rw [if_neg (fun h=>h q6)] at hr
          have q7:=hd0.2 q6
          subst hr
          (repeat' (first|refine And.intro ?_ ?_|intro _))<;>first|omega|exact True.intro|exact False.elim ‹False›|skip
          all_goals first|omega|rfl|(unfold zA;simp;omega)|(unfold zA;simp only;omega)|contradiction|exact⟨⟨hk0,hk1⟩,hni⟩|trace_state
        · rw [if_pos q6] at hr
          have q7: ¬ d.length=0:=fun h=>q6 (hd0.1 h)
          subst hr
          (repeat' (first|refine And.intro ?_ ?_|intro _))<;>first|omega|exact True.intro|exact False.elim ‹False›|skip
          all_goals first|omega|rfl|(unfold zA;simp;omega)|(unfold zA;simp only;omega)|contradiction|exact⟨⟨hk0,hk1⟩,hni⟩|trace_state
      | false=>
        rw [if_neg Bool.false_ne_true] at hr
        by_cases q6:d=[]
        · rw [if_neg (fun h=>h q6)] at hr
          have q7:=hd0.2 q6
          subst hr
          (repeat' (first|refine And.intro ?_ ?_|intro _))<;>first|omega|exact True.intro|exact False.elim ‹False›|skip
          all_goals first|omega|rfl|(unfold zA;simp;omega)|(unfold zA;simp only;omega)|contradiction|exact⟨⟨hk0,hk1⟩,hni⟩|trace_state
        · rw [if_pos q6] at hr
          have q7: ¬ d.length=0:=fun h=>q6 (hd0.1 h)
          subst hr
          (repeat' (first|refine And.intro ?_ ?_|intro _))<;>first|omega|exact True.intro|exact False.elim ‹False›|skip
          all_goals first|omega|rfl|(unfold zA;simp;omega)|(unfold zA;simp only;omega)|contradiction|exact⟨⟨hk0,hk1⟩,hni⟩|trace_state
    · rw [if_pos q5] at hr
      subst hr
      (repeat' (first|refine And.intro ?_ ?_|intro _))<;>first|omega|exact True.intro|exact False.elim ‹False›|skip
      all_goals first|omega|rfl|(unfold zA;simp;omega)|(unfold zA;simp only;omega)|contradiction|exact⟨⟨hk0,hk1⟩,hni⟩|trace_state
  rw [if_neg q4] at hr
  by_cases q8:p=0∨p=1
  · rw [if_pos q8] at hr
    have hl: ∀ (l:Ln) (s:Str),zF ⟨⟨l.b,l.cr,l.code⟩,p,⟨m,tg,hm,hf,hl⟩,le,some ch,true,out⟩ s=zF ⟨l,p,⟨m,tg,hm,hf,hl⟩,le,some ch,true,out⟩ s:=fun l s=>rfl
    simp only [hl]
    clear hl
    generalize lnF ln c=z at *
    obtain⟨l2,s,is,e⟩:=z
    simp only at hr hll ⊢
    have hlo:(zF ⟨l2,p,⟨m,tg,hm,hf,hl⟩,le,some ch,true,out⟩ s).1.out.length≤out.length+2:=X8 _ _
    generalize zF ⟨l2,p,⟨m,tg,hm,hf,hl⟩,le,some ch,true,out⟩ s=y at *
    obtain⟨y,ye⟩:=y
    simp only at hr hlo ⊢
    by_cases q5:e=0
    · rw [if_neg (fun h=>h q5)] at hr
      cases is with
      | true=>
        rw [if_pos rfl] at hr
        by_cases q6:ye=0
        · rw [if_neg (fun h=>h q6)] at hr
          subst hr
          (repeat' (first|refine And.intro ?_ ?_|intro _))<;>first|omega|exact True.intro|exact False.elim ‹False›|skip
          all_goals first|omega|rfl|contradiction|exact⟨rfl,⟨hfs,by simp only;omega⟩,by omega⟩|(simp only [yM];done)|exact hfs.1|(exact(hfs.2 _ ‹_›).1)|(exact(hfs.2 _ ‹_›).2)|(unfold zA;omega)|(simp only;omega)|trace_state
        · rw [if_pos q6] at hr
          subst hr
          (repeat' (first|refine And.intro ?_ ?_|intro _))<;>first|omega|exact True.intro|exact False.elim ‹False›|skip
          all_goals first|omega|rfl|contradiction|exact⟨rfl,⟨hfs,by simp only;omega⟩,by omega⟩|(simp only [yM];done)|exact hfs.1|(exact(hfs.2 _ ‹_›).1)|(exact(hfs.2 _ ‹_›).2)|(unfold zA;omega)|(simp only;omega)|trace_state
      | false=>
        rw [if_neg Bool.false_ne_true] at hr
        subst hr
        (repeat' (first|refine And.intro ?_ ?_|intro _))<;>first|omega|exact True.intro|exact False.elim ‹False›|skip
        all_goals first|omega|rfl|contradiction|trace_state
    · rw [if_pos q5] at hr
      subst hr
      (repeat' (first|refine And.intro ?_ ?_|intro _))<;>first|omega|exact True.intro|exact False.elim ‹False›|skip
      all_goals first|omega|rfl|contradiction|(unfold zA;simp only;omega)|trace_state
  rw [if_neg q8] at hr
  subst hr
  (repeat' (first|refine And.intro ?_ ?_|intro _))<;>first|omega|exact True.intro|exact False.elim ‹False›|skip
  all_goals first|omega|rfl|contradiction|trace_state
theorem zcC (ln:Ln) (p:Int) (m tg:Str) (hm:Int) (hf:List Fld) (hl le:Int) (ch:Ch) (out:List Evt) (k:Int) (hneed:rqN ⟨ln,p,⟨m,tg,hm,hf,hl⟩,le,some ch,false,out⟩∧0≤k∧k≤255):Spc Tryz.prog 22 [.v (.one (.ptr 0 0)),.v (.one (.p (.int .u8 k)))] [.abs (.rq ⟨ln,p,⟨m,tg,hm,hf,hl⟩,le,some ch,false,out⟩)] (.ret (.tup [])) [.abs (.rq ((rqF ⟨ln,p,⟨m,tg,hm,hf,hl⟩,le,some ch,false,out⟩ (UInt8.ofNat k.toNat))))]:=by
  obtain⟨⟨i,hi,hI0⟩,hk0,hk1⟩:=hneed
  obtain⟨g1,g2,g3,g4,g5,g6,g7,g8,g9,g10⟩:=hI0
  simp only at g1 g2 g3 g4 g5 g6 g7 g8 g9 g10
  have hfs:FsOk hf:=⟨by omega,fun f hm=>by have:=g6 f hm;omega⟩
  have hll:=ZB ln (UInt8.ofNat k.toNat)
  generalize hr:rqF ⟨ln,p,⟨m,tg,hm,hf,hl⟩,le,some ch,false,out⟩ (UInt8.ofNat k.toNat)=r
  refine spcG zx mixed Tryz.func22 (by kernel_rfl) { cfgQ with fz:=[45],keep:=some [0,1,4,5,6,7,8,9,13,62]} [uO,uN,Zd,Zc,YG,YF,zQ,zO,zV,zU,zZ,zY,yh,yg,yT,yS,qC,qB,tX,tV,qw,qp] (by kernel_rfl) ?_
  intro I X hI hX
  refine zi (let y8:=I.hid (α:=Str) (Go.Ab.Ln.b (Go.Ab.Ch.ln (Prod.fst (chF (Go.Ab.Ch.mk (Go.Ab.Ln.mk (Go.Ab.Ln.b (Go.Ab.Ch.ln ch)) (Go.Ab.Ln.cr (Go.Ab.Ch.ln ch)) (Go.Ab.Ln.code (Go.Ab.Ch.ln ch))) (Go.Ab.Ch.pos ch) (Go.Ab.Ch.left ch) (Go.Ab.Ch.all ch) (Go.Ab.Ch.tails ch) (Go.Ab.Ch.code ch)) (UInt8.ofNat (Int.toNat k))))));let y7:=I.hid (α:=Bool) (Go.Ab.Ln.cr (Go.Ab.Ch.ln (Prod.fst (chF (Go.Ab.Ch.mk (Go.Ab.Ln.mk (Go.Ab.Ln.b (Go.Ab.Ch.ln ch)) (Go.Ab.Ln.cr (Go.Ab.Ch.ln ch)) (Go.Ab.Ln.code (Go.Ab.Ch.ln ch))) (Go.Ab.Ch.pos ch) (Go.Ab.Ch.left ch) (Go.Ab.Ch.all ch) (Go.Ab.Ch.tails ch) (Go.Ab.Ch.code ch)) (UInt8.ofNat (Int.toNat k))))));let y6:=I.hid (α:=Int) (Go.Ab.Ln.code (Go.Ab.Ch.ln (Prod.fst (chF (Go.Ab.Ch.mk (Go.Ab.Ln.mk (Go.Ab.Ln.b (Go.Ab.Ch.ln ch)) (Go.Ab.Ln.cr (Go.Ab.Ch.ln ch)) (Go.Ab.Ln.code (Go.Ab.Ch.ln ch))) (Go.Ab.Ch.pos ch) (Go.Ab.Ch.left ch) (Go.Ab.Ch.all ch) (Go.Ab.Ch.tails ch) (Go.Ab.Ch.code ch)) (UInt8.ofNat (Int.toNat k))))));let y12:=I.hid (α:=Int) (Go.Ab.Ch.pos (Prod.fst (chF (Go.Ab.Ch.mk (Go.Ab.Ln.mk (Go.Ab.Ln.b (Go.Ab.Ch.ln ch)) (Go.Ab.Ln.cr (Go.Ab.Ch.ln ch)) (Go.Ab.Ln.code (Go.Ab.Ch.ln ch))) (Go.Ab.Ch.pos ch) (Go.Ab.Ch.left ch) (Go.Ab.Ch.all ch) (Go.Ab.Ch.tails ch) (Go.Ab.Ch.code ch)) (UInt8.ofNat (Int.toNat k)))));let y10:=I.hid (α:=Int) (Go.Ab.Ch.left (Prod.fst (chF (Go.Ab.Ch.mk (Go.Ab.Ln.mk (Go.Ab.Ln.b (Go.Ab.Ch.ln ch)) (Go.Ab.Ln.cr (Go.Ab.Ch.ln ch)) (Go.Ab.Ln.code (Go.Ab.Ch.ln ch))) (Go.Ab.Ch.pos ch) (Go.Ab.Ch.left ch) (Go.Ab.Ch.all ch) (Go.Ab.Ch.tails ch) (Go.Ab.Ch.code ch)) (UInt8.ofNat (Int.toNat k)))));let y13:=I.hid (α:=Int) (Go.Ab.Ch.all (Prod.fst (chF (Go.Ab.Ch.mk (Go.Ab.Ln.mk (Go.Ab.Ln.b (Go.Ab.Ch.ln ch)) (Go.Ab.Ln.cr (Go.Ab.Ch.ln ch)) (Go.Ab.Ln.code (Go.Ab.Ch.ln ch))) (Go.Ab.Ch.pos ch) (Go.Ab.Ch.left ch) (Go.Ab.Ch.all ch) (Go.Ab.Ch.tails ch) (Go.Ab.Ch.code ch)) (UInt8.ofNat (Int.toNat k)))));let y9:=I.hid (α:=Int) (Go.Ab.Ch.tails (Prod.fst (chF (Go.Ab.Ch.mk (Go.Ab.Ln.mk (Go.Ab.Ln.b (Go.Ab.Ch.ln ch)) (Go.Ab.Ln.cr (Go.Ab.Ch.ln ch)) (Go.Ab.Ln.code (Go.Ab.Ch.ln ch))) (Go.Ab.Ch.pos ch) (Go.Ab.Ch.left ch) (Go.Ab.Ch.all ch) (Go.Ab.Ch.tails ch) (Go.Ab.Ch.code ch)) (UInt8.ofNat (Int.toNat k)))));let y11:=I.hid (α:=Int) (Go.Ab.Ch.code (Prod.fst (chF (Go.Ab.Ch.mk (Go.Ab.Ln.mk (Go.Ab.Ln.b (Go.Ab.Ch.ln ch)) (Go.Ab.Ln.cr (Go.Ab.Ch.ln ch)) (Go.Ab.Ln.code (Go.Ab.Ch.ln ch))) (Go.Ab.Ch.pos ch) (Go.Ab.Ch.left ch) (Go.Ab.Ch.all ch) (Go.Ab.Ch.tails ch) (Go.Ab.Ch.code ch)) (UInt8.ofNat (Int.toNat k)))));let y0:=I.hid (α:=(Prop)) (zA (Go.Ab.Rq.mk (Go.Ab.Ln.mk (Go.Ab.Ln.b ln) (Go.Ab.Ln.cr ln) (Go.Ab.Ln.code ln)) p (Hd.mk m tg hm hf hl) le (Option.some (Go.Ab.Ch.mk (Go.Ab.Ln.mk y8 y7 y6) y12 y10 y13 y9 y11)) Bool.false out));let y19:=I.hid (α:=Str) (Go.Ab.Ln.b (Prod.fst (lnF (Go.Ab.Ln.mk (Go.Ab.Ln.b ln) (Go.Ab.Ln.cr ln) (Go.Ab.Ln.code ln)) (UInt8.ofNat (Int.toNat k)))));let y18:=I.hid (α:=Bool) (Go.Ab.Ln.cr (Prod.fst (lnF (Go.Ab.Ln.mk (Go.Ab.Ln.b ln) (Go.Ab.Ln.cr ln) (Go.Ab.Ln.code ln)) (UInt8.ofNat (Int.toNat k)))));let y17:=I.hid (α:=Int) (Go.Ab.Ln.code (Prod.fst (lnF (Go.Ab.Ln.mk (Go.Ab.Ln.b ln) (Go.Ab.Ln.cr ln) (Go.Ab.Ln.code ln)) (UInt8.ofNat (Int.toNat k)))));let y1:=I.hid (α:=Go.Ab.Rq) (Prod.fst (zF (Go.Ab.Rq.mk (Go.Ab.Ln.mk y19 y18 y17) p (Hd.mk m tg hm hf hl) le (Option.some (Go.Ab.Ch.mk (Go.Ab.Ln.mk (Go.Ab.Ln.b (Go.Ab.Ch.ln ch)) (Go.Ab.Ln.cr (Go.Ab.Ch.ln ch)) (Go.Ab.Ln.code (Go.Ab.Ch.ln ch))) (Go.Ab.Ch.pos ch) (Go.Ab.Ch.left ch) (Go.Ab.Ch.all ch) (Go.Ab.Ch.tails ch) (Go.Ab.Ch.code ch))) Bool.false out) (I.hid (α:=Str) (Prod.fst (Prod.snd (lnF (Go.Ab.Ln.mk (Go.Ab.Ln.b ln) (Go.Ab.Ln.cr ln) (Go.Ab.Ln.code ln)) (UInt8.ofNat (Int.toNat k))))))));let y2:=I.hid (α:=Go.Ab.Rq) (yx (Go.Ab.Rq.mk (Go.Ab.Ln.mk y19 y18 y17) p (Hd.mk m tg hm hf hl) le (Option.some (Go.Ab.Ch.mk (Go.Ab.Ln.mk (Go.Ab.Ln.b (Go.Ab.Ch.ln ch)) (Go.Ab.Ln.cr (Go.Ab.Ch.ln ch)) (Go.Ab.Ln.code (Go.Ab.Ch.ln ch))) (Go.Ab.Ch.pos ch) (Go.Ab.Ch.left ch) (Go.Ab.Ch.all ch) (Go.Ab.Ch.tails ch) (Go.Ab.Ch.code ch))) Bool.false out) (I.hid (α:=Int) (Prod.snd (Prod.snd (Prod.snd (lnF (Go.Ab.Ln.mk (Go.Ab.Ln.b ln) (Go.Ab.Ln.cr ln) (Go.Ab.Ln.code ln)) (UInt8.ofNat (Int.toNat k))))))));let y3:=I.hid (α:=Int) (Prod.snd (zF (Go.Ab.Rq.mk (Go.Ab.Ln.mk y19 y18 y17) p (Hd.mk m tg hm hf hl) le (Option.some (Go.Ab.Ch.mk (Go.Ab.Ln.mk (Go.Ab.Ln.b (Go.Ab.Ch.ln ch)) (Go.Ab.Ln.cr (Go.Ab.Ch.ln ch)) (Go.Ab.Ln.code (Go.Ab.Ch.ln ch))) (Go.Ab.Ch.pos ch) (Go.Ab.Ch.left ch) (Go.Ab.Ch.all ch) (Go.Ab.Ch.tails ch) (Go.Ab.Ch.code ch))) Bool.false out) (I.hid (α:=Str) (Prod.fst (Prod.snd (lnF (Go.Ab.Ln.mk (Go.Ab.Ln.b ln) (Go.Ab.Ln.cr ln) (Go.Ab.Ln.code ln)) (UInt8.ofNat (Int.toNat k))))))));let y4:=I.hid (α:=(Prop)) (zA (Go.Ab.Rq.mk (Go.Ab.Ln.mk y19 y18 y17) p (Hd.mk m tg hm hf hl) le (Option.some (Go.Ab.Ch.mk (Go.Ab.Ln.mk (Go.Ab.Ln.b (Go.Ab.Ch.ln ch)) (Go.Ab.Ln.cr (Go.Ab.Ch.ln ch)) (Go.Ab.Ln.code (Go.Ab.Ch.ln ch))) (Go.Ab.Ch.pos ch) (Go.Ab.Ch.left ch) (Go.Ab.Ch.all ch) (Go.Ab.Ch.tails ch) (Go.Ab.Ch.code ch))) Bool.false out));let y5:=I.hid (α:=(Prop)) (And (yM (Go.Ab.Rq.mk (Go.Ab.Ln.mk y19 y18 y17) p (Hd.mk m tg hm hf hl) le (Option.some (Go.Ab.Ch.mk (Go.Ab.Ln.mk (Go.Ab.Ln.b (Go.Ab.Ch.ln ch)) (Go.Ab.Ln.cr (Go.Ab.Ch.ln ch)) (Go.Ab.Ln.code (Go.Ab.Ch.ln ch))) (Go.Ab.Ch.pos ch) (Go.Ab.Ch.left ch) (Go.Ab.Ch.all ch) (Go.Ab.Ch.tails ch) (Go.Ab.Ch.code ch))) Bool.false out)) (And (rqFs (Go.Ab.Rq.mk (Go.Ab.Ln.mk y19 y18 y17) p (Hd.mk m tg hm hf hl) le (Option.some (Go.Ab.Ch.mk (Go.Ab.Ln.mk (Go.Ab.Ln.b (Go.Ab.Ch.ln ch)) (Go.Ab.Ln.cr (Go.Ab.Ch.ln ch)) (Go.Ab.Ln.code (Go.Ab.Ch.ln ch))) (Go.Ab.Ch.pos ch) (Go.Ab.Ch.left ch) (Go.Ab.Ch.all ch) (Go.Ab.Ch.tails ch) (Go.Ab.Ch.code ch))) Bool.false out)) (LE.le (List.length (I.hid (α:=Str) (Prod.fst (Prod.snd (lnF (Go.Ab.Ln.mk (Go.Ab.Ln.b ln) (Go.Ab.Ln.cr ln) (Go.Ab.Ln.code ln)) (UInt8.ofNat (Int.toNat k))))))) 1000000)));let y14:=I.hid (α:=(List Go.Ab.Evt)) (HAppend.hAppend out ([(Go.Ab.Evt.mk (2:Int) (Hd.mk ([]:Str) ([]:Str) (0:Int) ([]:List Fld) (0:Int)) (I.hid (α:=Str) (Prod.fst (Prod.snd (chF (Go.Ab.Ch.mk (Go.Ab.Ln.mk (Go.Ab.Ln.b (Go.Ab.Ch.ln ch)) (Go.Ab.Ln.cr (Go.Ab.Ch.ln ch)) (Go.Ab.Ln.code (Go.Ab.Ch.ln ch))) (Go.Ab.Ch.pos ch) (Go.Ab.Ch.left ch) (Go.Ab.Ch.all ch) (Go.Ab.Ch.tails ch) (Go.Ab.Ch.code ch)) (UInt8.ofNat (Int.toNat k)))))) (Go.Ab.Prt.mk ([]:Str) ([]:Str) ([]:Str) ([]:Str)) (0:Int))]:List Go.Ab.Evt));let y15:=I.ieq (I.hid (α:=Int) (Prod.snd (Prod.snd (Prod.snd (lnF (Go.Ab.Ln.mk (Go.Ab.Ln.b ln) (Go.Ab.Ln.cr ln) (Go.Ab.Ln.code ln)) (UInt8.ofNat (Int.toNat k))))))) 0;let y16:=I.hid (α:=(List Go.Ab.Evt)) (HAppend.hAppend out ([(Go.Ab.Evt.mk (2:Int) (Hd.mk ([]:Str) ([]:Str) (0:Int) ([]:List Fld) (0:Int)) ([(I.i2b k)]:Str) (Go.Ab.Prt.mk ([]:Str) ([]:Str) ([]:Str) ([]:Str)) (0:Int))]:List Go.Ab.Evt));let y20:=I.hid (α:=Bool) (Prod.fst (Prod.snd (Prod.snd (chF (Go.Ab.Ch.mk (Go.Ab.Ln.mk (Go.Ab.Ln.b (Go.Ab.Ch.ln ch)) (Go.Ab.Ln.cr (Go.Ab.Ch.ln ch)) (Go.Ab.Ln.code (Go.Ab.Ch.ln ch))) (Go.Ab.Ch.pos ch) (Go.Ab.Ch.left ch) (Go.Ab.Ch.all ch) (Go.Ab.Ch.tails ch) (Go.Ab.Ch.code ch)) (UInt8.ofNat (Int.toNat k))))));let y21:=I.hid (α:=Int) (Prod.snd (Prod.snd (Prod.snd (chF (Go.Ab.Ch.mk (Go.Ab.Ln.mk (Go.Ab.Ln.b (Go.Ab.Ch.ln ch)) (Go.Ab.Ln.cr (Go.Ab.Ch.ln ch)) (Go.Ab.Ln.code (Go.Ab.Ch.ln ch))) (Go.Ab.Ch.pos ch) (Go.Ab.Ch.left ch) (Go.Ab.Ch.all ch) (Go.Ab.Ch.tails ch) (Go.Ab.Ch.code ch)) (UInt8.ofNat (Int.toNat k))))));let y22:=I.hid (α:=Bool) (Prod.fst (Prod.snd (Prod.snd (lnF (Go.Ab.Ln.mk (Go.Ab.Ln.b ln) (Go.Ab.Ln.cr ln) (Go.Ab.Ln.code ln)) (UInt8.ofNat (Int.toNat k))))));let y23:=I.hid (α:=(Prop)) (And (LE.le (0:Int) k) (And (LE.le k (255:Int)) (LE.le (List.length (Go.Ab.Ln.b ln)) 1000000)));let y24:=I.hid (α:=Go.Ab.Rq) (yx y1 y3);.br (I.ieq p 2) (.need (I.inr Go.IntKind.u8 k) (.need (I.hid (α:=(Prop)) (zA (Go.Ab.Rq.mk (Go.Ab.Ln.mk (Go.Ab.Ln.b ln) (Go.Ab.Ln.cr ln) (Go.Ab.Ln.code ln)) p (Hd.mk m tg hm hf hl) le (Option.some (Go.Ab.Ch.mk (Go.Ab.Ln.mk (Go.Ab.Ln.b (Go.Ab.Ch.ln ch)) (Go.Ab.Ln.cr (Go.Ab.Ch.ln ch)) (Go.Ab.Ln.code (Go.Ab.Ch.ln ch))) (Go.Ab.Ch.pos ch) (Go.Ab.Ch.left ch) (Go.Ab.Ch.all ch) (Go.Ab.Ch.tails ch) (Go.Ab.Ch.code ch))) Bool.false out))) (.need (I.inr Go.IntKind.i64 (I.sub le 1)) (.br (I.ieq (I.sub le 1) 0) (.need (I.hid (α:=(Prop)) (zA (Go.Ab.Rq.mk (Go.Ab.Ln.mk (Go.Ab.Ln.b ln) (Go.Ab.Ln.cr ln) (Go.Ab.Ln.code ln)) p (Hd.mk m tg hm hf hl) (I.sub le 1) (Option.some (Go.Ab.Ch.mk (Go.Ab.Ln.mk (Go.Ab.Ln.b (Go.Ab.Ch.ln ch)) (Go.Ab.Ln.cr (Go.Ab.Ch.ln ch)) (Go.Ab.Ln.code (Go.Ab.Ch.ln ch))) (Go.Ab.Ch.pos ch) (Go.Ab.Ch.left ch) (Go.Ab.Ch.all ch) (Go.Ab.Ch.tails ch) (Go.Ab.Ch.code ch))) Bool.false y16))) (.fin (.ret (.tup [])) [(.abs (.rq (I.hid (α:=Go.Ab.Rq) (yU (Go.Ab.Rq.mk (Go.Ab.Ln.mk (Go.Ab.Ln.b ln) (Go.Ab.Ln.cr ln) (Go.Ab.Ln.code ln)) p (Hd.mk m tg hm hf hl) (I.sub le 1) (Option.some (Go.Ab.Ch.mk (Go.Ab.Ln.mk (Go.Ab.Ln.b (Go.Ab.Ch.ln ch)) (Go.Ab.Ln.cr (Go.Ab.Ch.ln ch)) (Go.Ab.Ln.code (Go.Ab.Ch.ln ch))) (Go.Ab.Ch.pos ch) (Go.Ab.Ch.left ch) (Go.Ab.Ch.all ch) (Go.Ab.Ch.tails ch) (Go.Ab.Ch.code ch))) Bool.false y16)))))])) (.fin (.ret (.tup [])) [(.abs (.rq (Go.Ab.Rq.mk (Go.Ab.Ln.mk (Go.Ab.Ln.b ln) (Go.Ab.Ln.cr ln) (Go.Ab.Ln.code ln)) p (Hd.mk m tg hm hf hl) (I.sub le 1) (Option.some (Go.Ab.Ch.mk (Go.Ab.Ln.mk (Go.Ab.Ln.b (Go.Ab.Ch.ln ch)) (Go.Ab.Ln.cr (Go.Ab.Ch.ln ch)) (Go.Ab.Ln.code (Go.Ab.Ch.ln ch))) (Go.Ab.Ch.pos ch) (Go.Ab.Ch.left ch) (Go.Ab.Ch.all ch) (Go.Ab.Ch.tails ch) (Go.Ab.Ch.code ch))) Bool.false y16)))]))))) (.br (I.ieq p 3) (.need (I.hid (α:=(Prop)) (And (And (LE.le (0:Int) k) (LE.le k (255:Int))) (And (LE.le (List.length (Go.Ab.Ln.b (Go.Ab.Ch.ln ch))) 1000000) (And (And (LE.le (Neg.neg (1000000:Int)) (Go.Ab.Ch.left ch)) (LE.le (Go.Ab.Ch.left ch) (100000000:Int))) (And (And (LE.le (0:Int) (Go.Ab.Ch.all ch)) (LE.le (Go.Ab.Ch.all ch) (1000000:Int))) (And (LE.le (0:Int) (Go.Ab.Ch.tails ch)) (LE.le (Go.Ab.Ch.tails ch) (1000000:Int)))))))) (.br (I.bnot (I.ieq y21 0)) (.need y0 (.fin (.ret (.tup [])) [(.abs (.rq (I.hid (α:=Go.Ab.Rq) (yx (Go.Ab.Rq.mk (Go.Ab.Ln.mk (Go.Ab.Ln.b ln) (Go.Ab.Ln.cr ln) (Go.Ab.Ln.code ln)) p (Hd.mk m tg hm hf hl) le (Option.some (Go.Ab.Ch.mk (Go.Ab.Ln.mk y8 y7 y6) y12 y10 y13 y9 y11)) Bool.false out) y21))))])) (.br (I.ilt 0 (I.len (α:=UInt8) (I.hid (α:=Str) (Prod.fst (Prod.snd (chF (Go.Ab.Ch.mk (Go.Ab.Ln.mk (Go.Ab.Ln.b (Go.Ab.Ch.ln ch)) (Go.Ab.Ln.cr (Go.Ab.Ch.ln ch)) (Go.Ab.Ln.code (Go.Ab.Ch.ln ch))) (Go.Ab.Ch.pos ch) (Go.Ab.Ch.left ch) (Go.Ab.Ch.all ch) (Go.Ab.Ch.tails ch) (Go.Ab.Ch.code ch)) (UInt8.ofNat (Int.toNat k)))))))) (.need y0 (.br y20 (.need (I.hid (α:=(Prop)) (zA (Go.Ab.Rq.mk (Go.Ab.Ln.mk (Go.Ab.Ln.b ln) (Go.Ab.Ln.cr ln) (Go.Ab.Ln.code ln)) p (Hd.mk m tg hm hf hl) le (Option.some (Go.Ab.Ch.mk (Go.Ab.Ln.mk y8 y7 y6) y12 y10 y13 y9 y11)) Bool.false y14))) (.fin (.ret (.tup [])) [(.abs (.rq (I.hid (α:=Go.Ab.Rq) (yU (Go.Ab.Rq.mk (Go.Ab.Ln.mk (Go.Ab.Ln.b ln) (Go.Ab.Ln.cr ln) (Go.Ab.Ln.code ln)) p (Hd.mk m tg hm hf hl) le (Option.some (Go.Ab.Ch.mk (Go.Ab.Ln.mk y8 y7 y6) y12 y10 y13 y9 y11)) Bool.false y14)))))])) (.fin (.ret (.tup [])) [(.abs (.rq (Go.Ab.Rq.mk (Go.Ab.Ln.mk (Go.Ab.Ln.b ln) (Go.Ab.Ln.cr ln) (Go.Ab.Ln.code ln)) p (Hd.mk m tg hm hf hl) le (Option.some (Go.Ab.Ch.mk (Go.Ab.Ln.mk y8 y7 y6) y12 y10 y13 y9 y11)) Bool.false y14)))]))) (.br y20 (.need y0 (.fin (.ret (.tup [])) [(.abs (.rq (I.hid (α:=Go.Ab.Rq) (yU (Go.Ab.Rq.mk (Go.Ab.Ln.mk (Go.Ab.Ln.b ln) (Go.Ab.Ln.cr ln) (Go.Ab.Ln.code ln)) p (Hd.mk m tg hm hf hl) le (Option.some (Go.Ab.Ch.mk (Go.Ab.Ln.mk y8 y7 y6) y12 y10 y13 y9 y11)) Bool.false out)))))])) (.fin (.ret (.tup [])) [(.abs (.rq (Go.Ab.Rq.mk (Go.Ab.Ln.mk (Go.Ab.Ln.b ln) (Go.Ab.Ln.cr ln) (Go.Ab.Ln.code ln)) p (Hd.mk m tg hm hf hl) le (Option.some (Go.Ab.Ch.mk (Go.Ab.Ln.mk y8 y7 y6) y12 y10 y13 y9 y11)) Bool.false out)))]))))) (.br (I.ieq p 0) (.need y23 (.br y15 (.br y22 (.need y5 (.br (I.bnot (I.ieq y3 0)) (.need (I.hid (α:=(Prop)) (zA y1)) (.fin (.ret (.tup [])) [(.abs (.rq y24))])) (.fin (.ret (.tup [])) [(.abs (.rq y1))]))) (.br (I.bnot y15) (.need y4 (.fin (.ret (.tup [])) [(.abs (.rq y2))])) (.fin (.ret (.tup [])) [(.abs (.rq (Go.Ab.Rq.mk (Go.Ab.Ln.mk y19 y18 y17) p (Hd.mk m tg hm hf hl) le (Option.some (Go.Ab.Ch.mk (Go.Ab.Ln.mk (Go.Ab.Ln.b (Go.Ab.Ch.ln ch)) (Go.Ab.Ln.cr (Go.Ab.Ch.ln ch)) (Go.Ab.Ln.code (Go.Ab.Ch.ln ch))) (Go.Ab.Ch.pos ch) (Go.Ab.Ch.left ch) (Go.Ab.Ch.all ch) (Go.Ab.Ch.tails ch) (Go.Ab.Ch.code ch))) Bool.false out)))]))) (.br (I.bnot y15) (.need y4 (.fin (.ret (.tup [])) [(.abs (.rq y2))])) (.fin (.ret (.tup [])) [(.abs (.rq (Go.Ab.Rq.mk (Go.Ab.Ln.mk y19 y18 y17) p (Hd.mk m tg hm hf hl) le (Option.some (Go.Ab.Ch.mk (Go.Ab.Ln.mk (Go.Ab.Ln.b (Go.Ab.Ch.ln ch)) (Go.Ab.Ln.cr (Go.Ab.Ch.ln ch)) (Go.Ab.Ln.code (Go.Ab.Ch.ln ch))) (Go.Ab.Ch.pos ch) (Go.Ab.Ch.left ch) (Go.Ab.Ch.all ch) (Go.Ab.Ch.tails ch) (Go.Ab.Ch.code ch))) Bool.false out)))])))) (.br (I.ieq p 1) (.need y23 (.br y15 (.br y22 (.need y5 (.br (I.bnot (I.ieq y3 0)) (.need (I.hid (α:=(Prop)) (zA y1)) (.fin (.ret (.tup [])) [(.abs (.rq y24))])) (.fin (.ret (.tup [])) [(.abs (.rq y1))]))) (.br (I.bnot y15) (.need y4 (.fin (.ret (.tup [])) [(.abs (.rq y2))])) (.fin (.ret (.tup [])) [(.abs (.rq (Go.Ab.Rq.mk (Go.Ab.Ln.mk y19 y18 y17) p (Hd.mk m tg hm hf hl) le (Option.some (Go.Ab.Ch.mk (Go.Ab.Ln.mk (Go.Ab.Ln.b (Go.Ab.Ch.ln ch)) (Go.Ab.Ln.cr (Go.Ab.Ch.ln ch)) (Go.Ab.Ln.code (Go.Ab.Ch.ln ch))) (Go.Ab.Ch.pos ch) (Go.Ab.Ch.left ch) (Go.Ab.Ch.all ch) (Go.Ab.Ch.tails ch) (Go.Ab.Ch.code ch))) Bool.false out)))]))) (.br (I.bnot y15) (.need y4 (.fin (.ret (.tup [])) [(.abs (.rq y2))])) (.fin (.ret (.tup [])) [(.abs (.rq (Go.Ab.Rq.mk (Go.Ab.Ln.mk y19 y18 y17) p (Hd.mk m tg hm hf hl) le (Option.some (Go.Ab.Ch.mk (Go.Ab.Ln.mk (Go.Ab.Ln.b (Go.Ab.Ch.ln ch)) (Go.Ab.Ln.cr (Go.Ab.Ch.ln ch)) (Go.Ab.Ln.code (Go.Ab.Ch.ln ch))) (Go.Ab.Ch.pos ch) (Go.Ab.Ch.left ch) (Go.Ab.Ch.all ch) (Go.Ab.Ch.tails ch) (Go.Ab.Ch.code ch))) Bool.false out)))])))) (.fin (.ret (.tup [])) [(.abs (.rq (Go.Ab.Rq.mk (Go.Ab.Ln.mk (Go.Ab.Ln.b ln) (Go.Ab.Ln.cr ln) (Go.Ab.Ln.code ln)) p (Hd.mk m tg hm hf hl) le (Option.some (Go.Ab.Ch.mk (Go.Ab.Ln.mk (Go.Ab.Ln.b (Go.Ab.Ch.ln ch)) (Go.Ab.Ln.cr (Go.Ab.Ch.ln ch)) (Go.Ab.Ln.code (Go.Ab.Ch.ln ch))) (Go.Ab.Ch.pos ch) (Go.Ab.Ch.left ch) (Go.Ab.Ch.all ch) (Go.Ab.Ch.tails ch) (Go.Ab.Ch.code ch))) Bool.false out)))]))))) (by kernel_rfl) ?_
  simp only [zC]
  subst hI
  unfold rqF at hr
  simp only at hr
  simp only [nrmA,nrmB,nrlB,reduceCtorEq,HO.abs.injEq,Gh.rq.injEq,Rq.mk.injEq]
  generalize UInt8.ofNat k.toNat=c at *
  have hni:=zaQ (g2 ch rfl) hi
  have hz:chF ⟨⟨ch.ln.b,ch.ln.cr,ch.ln.code⟩,ch.pos,ch.left,ch.all,ch.tails,ch.code⟩ c=chF ch c:=rfl
  have hck:ckOf ⟨ln,p,⟨m,tg,hm,hf,hl⟩,le,some ch,false,out⟩=ch:=rfl
  simp only [hz]
  rw [hck] at hr
  clear hz hck
  have hz2:lnF ⟨ln.b,ln.cr,ln.code⟩ c=lnF ln c:=rfl
  simp only [hz2]
  clear hz2 g2
  by_cases q1:p=2
  · rw [if_pos q1] at hr
    have h9:=g9 q1
    by_cases q2:le - 1=0
    · rw [if_pos q2] at hr
      subst hr
      have q3:le=1:=by omega
      subst q3
      (repeat' (first|refine And.intro ?_ ?_|intro _))<;>first|omega|exact True.intro|exact False.elim ‹False›|skip
      all_goals first|omega|rfl|(unfold zA;simp;omega)|(unfold zA;simp only;omega)|trace_state
    · rw [if_neg q2] at hr
      subst hr
      (repeat' (first|refine And.intro ?_ ?_|intro _))<;>first|omega|exact True.intro|exact False.elim ‹False›|skip
      all_goals first|omega|rfl|(unfold zA;simp;omega)|(unfold zA;simp only;omega)|trace_state
  rw [if_neg q1] at hr
  by_cases q4:p=3
  · rw [if_pos q4] at hr
    generalize chF ch c=z at *
    obtain⟨⟨⟨zb,zc,zo⟩,z1,z2,z3,z4,z5⟩,d,ov,e⟩:=z
    simp only at hr ⊢
    have hd0:d.length=0↔d=[]:=List.length_eq_zero_iff
    by_cases q5:e=0
    · rw [if_neg (fun h=>h q5)] at hr
      cases ov with
      | true=>
        rw [if_pos rfl] at hr
        by_cases q6:d=[]
        · rw [if_neg (fun h=>h q6)] at hr
          have q7:=hd0.2 q6
          subst hr
          (repeat' (first|refine And.intro ?_ ?_|intro _))<;>first|omega|exact True.intro|exact False.elim ‹False›|skip
          all_goals first|omega|rfl|(unfold zA;simp;omega)|(unfold zA;simp only;omega)|contradiction|exact⟨⟨hk0,hk1⟩,hni⟩|trace_state
        · rw [if_pos q6] at hr
          have q7: ¬ d.length=0:=fun h=>q6 (hd0.1 h)
          subst hr
          (repeat' (first|refine And.intro ?_ ?_|intro _))<;>first|omega|exact True.intro|exact False.elim ‹False›|skip
          all_goals first|omega|rfl|(unfold zA;simp;omega)|(unfold zA;simp only;omega)|contradiction|exact⟨⟨hk0,hk1⟩,hni⟩|trace_state
      | false=>
        rw [if_neg Bool.false_ne_true] at hr
        by_cases q6:d=[]
        · rw [if_neg (fun h=>h q6)] at hr
          have q7:=hd0.2 q6
          subst hr
          (repeat' (first|refine And.intro ?_ ?_|intro _))<;>first|omega|exact True.intro|exact False.elim ‹False›|skip
          all_goals first|omega|rfl|(unfold zA;simp;omega)|(unfold zA;simp only;omega)|contradiction|exact⟨⟨hk0,hk1⟩,hni⟩|trace_state
        · rw [if_pos q6] at hr
          have q7: ¬ d.length=0:=fun h=>q6 (hd0.1 h)
          subst hr
          (repeat' (first|refine And.intro ?_ ?_|intro _))<;>first|omega|exact True.intro|exact False.elim ‹False›|skip
          all_goals first|omega|rfl|(unfold zA;simp;omega)|(unfold zA;simp only;omega)|contradiction|exact⟨⟨hk0,hk1⟩,hni⟩|trace_state
    · rw [if_pos q5] at hr
      subst hr
      (repeat' (first|refine And.intro ?_ ?_|intro _))<;>first|omega|exact True.intro|exact False.elim ‹False›|skip
      all_goals first|omega|rfl|(unfold zA;simp;omega)|(unfold zA;simp only;omega)|contradiction|exact⟨⟨hk0,hk1⟩,hni⟩|trace_state
  rw [if_neg q4] at hr
  by_cases q8:p=0∨p=1
  · exact absurd (g4 q8) (by simp)
  rw [if_neg q8] at hr
  subst hr
  (repeat' (first|refine And.intro ?_ ?_|intro _))<;>first|omega|exact True.intro|exact False.elim ‹False›|skip
  all_goals first|omega|rfl|contradiction|trace_state
theorem zfC (q:Rq) (k:Int) (hneed:rqN q∧0≤k∧k≤255):Spc Tryz.prog 22 [.v (.one (.ptr 0 0)),.v (.one (.p (.int .u8 k)))] [.abs (.rq q)] (.ret (.tup [])) [.abs (.rq ((rqF q (UInt8.ofNat k.toNat))))]:=by
  obtain⟨ln,p,⟨m,tg,hm,hf,hl⟩,le,ck,own,out⟩:=q
  cases ck with
  | none=>cases own with
    |true=>exact zcD ln p m tg hm hf hl le out k hneed
    |false=>exact zcE ln p m tg hm hf hl le out k hneed
  | some ch=>cases own with
    |true=>exact zcB ln p m tg hm hf hl le ch out k hneed
    |false=>exact zcC ln p m tg hm hf hl le ch out k hneed
def qH (I:Alg) (args:List D) (hp:List HO):Option CT:=match args,hp with
  |[.v (.one (.ptr 0 0)),.v (.one (.p (.int .u8 k)))],[.abs (.rq q)]=>(fun(q:Rq) (k:Int)=>(some (.one ⟨I.hid (rqN q∧0≤k∧k≤255),(.ret (.tup [])),[.abs (.rq (I.hid ((rqF q (UInt8.ofNat k.toNat)))))]⟩):Option CT)) q k
  |_,_=>none
theorem UJ:zI Tryz.prog 22 (qH alg):=by
  intro args hp r h
  unfold qH at h
  split at h
  · cases h;exact fun hn=>zfC _ _ hn
  · cases h
def xM:Know Tryz.prog:=⟨22,qH,UJ⟩
def xK:Know Tryz.prog:=⟨22,fun I=>zL I (qH I),zf UJ⟩
end Go.Proofs.YtmibhbdfigpkmaaGreatDoor
namespace Go.Proofs.YtmibhbdfigpkmaaGreatDoor
open Go Go.Sep Go.Ab
set_option maxRecDepth 100000
def zN (l:List Evt):Nat:=(l.map fun e=>e.bytes.length).sum
theorem yF (a b:List Evt):zN (a++b)=zN a+zN b:=by simp [zN]
theorem yP (e:Evt):zN [e]=e.bytes.length:=by simp [zN]
theorem zc1 (o:List Evt) (e:Evt):zN (xO o e)≤zN o+e.bytes.length:=by
  rcases List.eq_nil_or_concat o with rfl|⟨z,x,rfl⟩
  · rw [uQ,yP];omega
  · rw [List.concat_eq_append,yQ]
    split
    · rw [yF,yF,yP,yP];simp only [evB,List.length_append];omega
    · rw [yF _ [e],yP e];exact Nat.le_refl _
theorem zby (l:List Evt) (e:Evt):zH (l++[e])=xO (zH l) e:=by simp [zH,List.foldl_append]
theorem Tc (l:List Evt):zN (zH l)≤zN l:=by
  suffices ∀ l o:List Evt,zN (l.foldl xO o)≤zN o+zN l by have:=this l [];simpa [zH,zN] using this
  intro l
  induction l with
  |nil=>intro o;simp [zN]
  | cons e r ih=>
    intro o
    have h1:=ih (xO o e)
    have h2:=zc1 o e
    have h3:zN (e::r)=e.bytes.length+zN r:=by simp [zN]
    rw [List.foldl_cons];omega
theorem zc2 (o:List Evt) (e:Evt):(xO o e).length≤o.length+1:=by
  rcases List.eq_nil_or_concat o with rfl|⟨z,x,rfl⟩
  · simp [uQ]
  · rw [List.concat_eq_append,yQ]
    split<;>simp
theorem zbG (l:List Evt) (i:Nat):zN (l.take i)≤zN l:=by
  have:=yF (l.take i) (l.drop i)
  rw [List.take_append_drop] at this
  omega
theorem TR {l:List Evt} {e:Evt} (h:e ∈ l):e.bytes.length≤zN l:=by
  obtain⟨a,b,rfl⟩:=List.append_of_mem h
  have:=yF a (e::b)
  have h3:zN (e::b)=e.bytes.length+zN b:=by simp [zN]
  omega
theorem qW (l:List Evt):(zH l).length≤l.length:=by
  suffices ∀ l o:List Evt,(l.foldl xO o).length≤o.length+l.length by have:=this l [];simpa [zH] using this
  intro l
  induction l with
  |nil=>intro o;simp
  | cons e r ih=>
    intro o
    have h1:=ih (xO o e)
    have h2:=zc2 o e
    rw [List.foldl_cons,List.length_cons];omega
theorem zfw (l:List Evt) (hneed:zN l≤1000000∧l.length≤10000000):Spc Tryz.prog 17 [.v (.one (.row 0))] [.row .evt 32 l] (.ret (.v (.one (.row 1)))) [.row .evt 32 l,.row .evt 32 ((zH l))]:=by
  obtain⟨hn1,hn2⟩:=hneed
  refine spcG zx mixed Tryz.func17 (by kernel_rfl) { nr:=[3],keep:=some [0,2,3,5,6,7,8,9,10]} [] (by kernel_rfl) ?_
  intro I X hI hX
  refine zi (.code 0 [1,1,0,1,0] ⟨[(10,(.v (.one (.p (.int .i64 0))))),(9,(.v (.one (.p (.int .i64 (I.len (α:=Go.Ab.Evt) l)))))),(8,(.v (.one (.row 0)))),(3,(.v (.one (.row 1)))),(2,(.v (.one .nilS))),(0,(.v (.one (.row 0))))],[(.row .evt 32 l),(.row .evt 32 ([]:List Go.Ab.Evt))],52,none⟩) (by kernel_rfl) ?_
  simp only [zC]
  refine yE hI zx mixed [] hX [0,3,8,9,10] (fun(g:Nat × List Evt)=>match g with|(i,o)=>i≤l.length∧o=zH (l.take i)) (fun(g:Nat × List Evt)=>match g with|(i,o)=>⟨[(0,.v (.one (.row 0))),(3,.v (.one (.row 1))),(8,.v (.one (.row 0))),(9,.v (.one (.p (.int .i64 ((I.len (α:=Evt) l)))))),(10,.v (.one (.p (.int .i64 i))))],[.row .evt 32 l,.row .evt 32 o],52,none⟩) (fun(g:Nat × List Evt)=>match g with|(i,o)=>l.length - i) (0,[]) (by kernel_rfl) (by kernel_rfl) ?_ ?_
  · exact⟨Nat.zero_le _,rfl⟩
  rintro⟨i,o⟩ ⟨h1,h2⟩ A hA
  simp only at hA h1 h2
  refine zi (let y0:=I.get (α:=Go.Ab.Evt) l (Go.Ab.Evt.mk (0:Int) (Hd.mk ([]:Str) ([]:Str) (0:Int) ([]:List Fld) (0:Int)) ([]:Str) (Go.Ab.Prt.mk ([]:Str) ([]:Str) ([]:Str) ([]:Str)) (0:Int)) (Nat.cast i);let y1:=I.few (I.add (I.len (α:=Go.Ab.Evt) o) (I.len (α:=Go.Ab.Evt) ([(Go.Ab.Evt.mk (Go.Ab.Evt.kind y0) (Hd.mk (Hd.method (Go.Ab.Evt.head y0)) (Hd.target (Go.Ab.Evt.head y0)) (Hd.minor (Go.Ab.Evt.head y0)) (Hd.fields (Go.Ab.Evt.head y0)) (Hd.length (Go.Ab.Evt.head y0))) (Go.Ab.Evt.bytes y0) (Go.Ab.Prt.mk (Go.Ab.Prt.name (Go.Ab.Evt.part y0)) (Go.Ab.Prt.file (Go.Ab.Evt.part y0)) (Go.Ab.Prt.type (Go.Ab.Evt.part y0)) (Go.Ab.Prt.bytes (Go.Ab.Evt.part y0))) (Go.Ab.Evt.code y0))]:List Go.Ab.Evt))) 100000000;let y2:HO:=.row .evt 32 (I.app (α:=Go.Ab.Evt) o ([(Go.Ab.Evt.mk (Go.Ab.Evt.kind y0) (Hd.mk (Hd.method (Go.Ab.Evt.head y0)) (Hd.target (Go.Ab.Evt.head y0)) (Hd.minor (Go.Ab.Evt.head y0)) (Hd.fields (Go.Ab.Evt.head y0)) (Hd.length (Go.Ab.Evt.head y0))) (Go.Ab.Evt.bytes y0) (Go.Ab.Prt.mk (Go.Ab.Prt.name (Go.Ab.Evt.part y0)) (Go.Ab.Prt.file (Go.Ab.Evt.part y0)) (Go.Ab.Prt.type (Go.Ab.Evt.part y0)) (Go.Ab.Prt.bytes (Go.Ab.Evt.part y0))) (Go.Ab.Evt.code y0))]:List Go.Ab.Evt));let y6:=I.sub (I.len (α:=Go.Ab.Evt) o) 1;let y3:=I.get (α:=Go.Ab.Evt) o (Go.Ab.Evt.mk (0:Int) (Hd.mk ([]:Str) ([]:Str) (0:Int) ([]:List Fld) (0:Int)) ([]:Str) (Go.Ab.Prt.mk ([]:Str) ([]:Str) ([]:Str) ([]:Str)) (0:Int)) y6;let y4:=I.inb y6 (I.len (α:=Go.Ab.Evt) o);let y5:=I.inr Go.IntKind.i64 (I.add (Nat.cast i) 1);let y7:=I.inb (Nat.cast i) (I.len (α:=Go.Ab.Evt) l);let y8:=I.len (α:=UInt8) (Go.Ab.Evt.bytes y3);.br (I.ilt (Nat.cast i) (I.len (α:=Go.Ab.Evt) l)) (.need y7 (.need y7 (.need (I.inr Go.IntKind.i64 y6) (.br (I.ieq (Go.Ab.Evt.kind y0) 2) (.br (I.ile 0 y6) (.need y4 (.need y4 (.br (I.ieq (Go.Ab.Evt.kind y3) 2) (.need y4 (.need y4 (.need (I.few y8 140737488355328) (.need (I.few (I.add y8 (I.len (α:=UInt8) (Go.Ab.Evt.bytes y0))) 140737488355328) (.need y4 (.need y4 (.need y5 (.need (A ⟨[(0,(.v (.one (.row 0)))),(3,(.v (.one (.row 1)))),(8,(.v (.one (.row 0)))),(9,(.v (.one (.p (.int .i64 (I.len (α:=Go.Ab.Evt) l)))))),(10,(.v (.one (.p (.int .i64 (I.add (Nat.cast i) 1))))))],[(.row .evt 32 l),(.row .evt 32 (I.set (α:=Go.Ab.Evt) o y6 (Go.Ab.Evt.mk (2:Int) (Hd.mk ([]:Str) ([]:Str) (0:Int) ([]:List Fld) (0:Int)) (I.app (α:=UInt8) (Go.Ab.Evt.bytes y3) (Go.Ab.Evt.bytes y0)) (Go.Ab.Prt.mk ([]:Str) ([]:Str) ([]:Str) ([]:Str)) (0:Int))))],52,none⟩) .qed)))))))) (.need y1 (.need y5 (.need (A ⟨[(0,(.v (.one (.row 0)))),(3,(.v (.one (.row 1)))),(8,(.v (.one (.row 0)))),(9,(.v (.one (.p (.int .i64 (I.len (α:=Go.Ab.Evt) l)))))),(10,(.v (.one (.p (.int .i64 (I.add (Nat.cast i) 1))))))],[(.row .evt 32 l),y2],52,none⟩) .qed)))))) (.need y1 (.need y5 (.need (A ⟨[(0,(.v (.one (.row 0)))),(3,(.v (.one (.row 1)))),(8,(.v (.one (.row 0)))),(9,(.v (.one (.p (.int .i64 (I.len (α:=Go.Ab.Evt) l)))))),(10,(.v (.one (.p (.int .i64 (I.add (Nat.cast i) 1))))))],[(.row .evt 32 l),y2],52,none⟩) .qed)))) (.need y1 (.need y5 (.need (A ⟨[(0,(.v (.one (.row 0)))),(3,(.v (.one (.row 1)))),(8,(.v (.one (.row 0)))),(9,(.v (.one (.p (.int .i64 (I.len (α:=Go.Ab.Evt) l)))))),(10,(.v (.one (.p (.int .i64 (I.add (Nat.cast i) 1))))))],[(.row .evt 32 l),y2],52,none⟩) .qed))))))) (.fin (.ret (.v (.one (.row 1)))) [(.row .evt 32 l),(.row .evt 32 o)])) (by kernel_rfl) ?_
  simp only [zC]
  subst hI
  simp only [nrmA,nrmB,nrlB,reduceCtorEq]
  have hl1:=qW (l.take i)
  have hl2:(l.take i).length≤i:=by rw [List.length_take];omega
  have hl3:=Tc (l.take i)
  have hl4: ∀ x ∈ zH (l.take i),x.bytes.length≤1000000:=fun x h=>by
    have a:=TR h
    have b:=zbG l i
    omega
  have hw: ¬ i<l.length→o=zH l:=fun h=>by rw [h2,List.take_of_length_le (by omega)]
  have hy:i<l.length→zH (l.take (i+1))=xO o (l.getD i ⟨0,⟨[],[],0,[],0⟩,[],⟨[],[],[],[]⟩,0⟩):=fun h=>by rw [List.take_succ_eq_append_getElem h,zby,h2];simp [h]
  have hl5:i<l.length→(l.getD i ⟨0,⟨[],[],0,[],0⟩,[],⟨[],[],[],[]⟩,0⟩).bytes.length≤1000000:=fun h=>by
    have:l.getD i ⟨0,⟨[],[],0,[],0⟩,[],⟨[],[],[],[]⟩,0⟩ ∈ l:=by simp [h]
    have:=TR this
    omega
  rw [← h2] at hl1 hl4
  refine⟨fun c=> ?_,fun c=>hw (by omega)⟩
  have hlt:i<l.length:=by omega
  have hy:=hy hlt
  have hl5:=hl5 hlt
  generalize l.getD i ⟨0,⟨[],[],0,[],0⟩,[],⟨[],[],[],[]⟩,0⟩=e at *
  have hgo: ∀ r:List Evt,r=xO o e→(fun p:Nat × List Evt=>p.1≤l.length∧p.2=zH (l.take p.1)) (i+1,r):=fun r h=>⟨by simp only;omega,by simp only;rw [hy,h]⟩
  rcases List.eq_nil_or_concat o with he|⟨z,x,he⟩
  · subst he
    rw [uQ] at hgo
    simp only [List.length_cons,List.length_nil]
    (repeat' (first|refine And.intro ?_ ?_|intro _))<;>first|omega|exact True.intro|exact False.elim ‹False›|skip
    all_goals first
      |omega
      |exact hA (i+1,_) (hgo _ rfl) (by simp only;omega)
  · rw [List.concat_eq_append] at he
    subst he
    have hx:=hl4 x (List.mem_append_right _ (List.mem_singleton.2 rfl))
    have hz:(((z++[x]).length:Int) - 1).toNat=z.length:=by rw [List.length_append,List.length_singleton];omega
    have hg: ∀ d,(z++[x]).getD z.length d=x:=fun d=>by simp
    have hs: ∀ d,(z++[x]).set z.length d=z++[d]:=fun d=>by simp
    rw [yQ] at hgo
    rw [List.length_append,List.length_singleton] at hl1
    simp only [hz,hg,hs]
    simp only [List.length_append,List.length_cons,List.length_nil]
    clear hz hg hs
    (repeat' (first|refine And.intro ?_ ?_|intro _))<;>first|omega|exact True.intro|exact False.elim ‹False›|skip
    all_goals first
      |omega
      |(rw [if_pos ⟨‹e.kind=2›,‹x.kind=2›⟩] at hgo;exact hA (i+1,_) (hgo _ rfl) (by simp only;omega))
      |(rw [if_neg (fun h=>‹¬ e.kind=2› h.1)] at hgo;exact hA (i+1,_) (hgo _ rfl) (by simp only;omega))
      |(rw [if_neg (fun h=>‹¬ x.kind=2› h.2)] at hgo;exact hA (i+1,_) (hgo _ rfl) (by simp only;omega))
def qy (I:Alg) (args:List D) (hp:List HO):Option CT:=match args,hp with
  |[.v (.one (.row 0))],[.row .evt 32 l]=>(fun(l:List Evt)=>(some (.one ⟨I.hid (zN l≤1000000∧l.length≤10000000),(.ret (.v (.one (.row 1)))),[.row .evt 32 l,.row .evt 32 (I.hid ((zH l)))]⟩):Option CT)) l
  |_,_=>none
theorem UA:zI Tryz.prog 17 (qy alg):=by
  intro args hp r h
  unfold qy at h
  split at h
  · cases h;exact fun hn=>zfw _ hn
  · cases h
def xg:Know Tryz.prog:=⟨17,qy,UA⟩
def yZ:Know Tryz.prog:=⟨17,fun I=>zL I (qy I),zf UA⟩
end Go.Proofs.YtmibhbdfigpkmaaGreatDoor
namespace Go.Proofs.YtmibhbdfigpkmaaGreatDoor
open Go Go.Sep Go.Ab
set_option maxRecDepth 100000
theorem zbg (q:Rq):zN (zT q).1.out≤zN q.out:=by
  unfold zT yU
  repeat' split
  all_goals simp [zN,evH,evE]
theorem zbd (q:Rq) (s:Str):zN (zF q s).1.out≤zN q.out:=by
  have hd:=zbg q
  unfold zF
  repeat' split
  all_goals first|exact hd|exact Nat.le_refl _
theorem YX (q:Rq) (c:UInt8):zN (rqF q c).out≤zN q.out+1:=by
  have hl:=zbd { q with ln:=(lnF q.ln c).1} (lnF q.ln c).2.1
  have hd:=(zeT (s:=ckOf q) (c:=c)).1
  unfold rqF
  split
  · split
    · simp only [yU,yF,yP,evB,evE,List.length_cons,List.length_nil];omega
    · simp only [yF,yP,evB,List.length_cons,List.length_nil];omega
  split
  · split
    · simp only [yx,yF,yP,evF,List.length_nil];omega
    split
    · simp only [yU,yF,yP,evE,List.length_nil]
      split
      · simp only [yF,yP,evB];omega
      · omega
    · show zN (if(chF (ckOf q) c).2.1≠[] then q.out++[evB (chF (ckOf q) c).2.1] else q.out)≤_
      split
      · simp only [yF,yP,evB];omega
      · omega
  split
  · split
    · simp only [yx,yF,yP,evF,List.length_nil];omega
    split
    · split
      · simp only [yx,yF,yP,evF,List.length_nil];simp only at hl;omega
      · simp only at hl;omega
    · exact Nat.le_succ _
  · exact Nat.le_succ _
def rqAt (q:Rq) (b:Str) (n i:Nat):Prop:=RqI (xA { q with out:=[]} (b.take i)) (n+i)∧zN (xA { q with out:=[]} (b.take i)).out≤i
theorem QY {q:Rq} {n:Nat} (h:RqI { q with out:=[]} n) (b:Str):rqAt q b n 0:=⟨h,by simp [xA,zN]⟩
theorem Vk (q:Rq) (b:Str) {i:Nat} (h:i<b.length):xA q (b.take (i+1))=rqF (xA q (b.take i)) (b.getD i 0):=by
  rw [show b.getD i 0=b[i] by simp [h],List.take_succ_eq_append_getElem h]
  unfold xA
  rw [List.foldl_append]
  rfl
def rqN0 (q:Rq) (b:Str):Prop:=∃ n,RqI { q with out:=[]} n∧n+b.length≤1000000
theorem zcn (ln:Ln) (p:Int) (m tg:Str) (hm:Int) (hf:List Fld) (hl le:Int) (out:List Evt) (b:Str) (hneed:rqN0 ⟨ln,p,⟨m,tg,hm,hf,hl⟩,le,none,true,out⟩ b):Spc Tryz.prog 9 [.v (.one (.ptr 0 0)),.v (.one (.p (.list .byte b)))] [.abs (.rq ⟨ln,p,⟨m,tg,hm,hf,hl⟩,le,none,true,out⟩)] (.ret (.v (.one (.row 1)))) [.abs (.rq ((zB ⟨ln,p,⟨m,tg,hm,hf,hl⟩,le,none,true,out⟩ b))),.row .evt 32 ((zH (zB ⟨ln,p,⟨m,tg,hm,hf,hl⟩,le,none,true,out⟩ b).out))]:=by
  obtain⟨n,hI0,hnb⟩:=hneed
  have hat:=QY hI0 b
  refine spcG zx mixed Tryz.func9 (by kernel_rfl) { cfgQ with fz:=[],keep:=some [0,1,4,6,10,11,12]} [xM,xK,xg,yZ] (by kernel_rfl) ?_
  intro I X hI hX
  refine zi (.code 0 [1,1,0,1,0] ⟨[(12,(.v (.one (.p (.int .i64 0))))),(11,(.v (.one (.p (.int .i64 (I.len (α:=UInt8) b)))))),(10,(.v (.one (.p (.list .byte b))))),(4,(.v (.one .nilS))),(0,(.v (.one (.ptr 0 0)))),(1,(.v (.one (.p (.list .byte b)))))],[(.obj 57 [(.ptr 1 0),(.p (.int .i64 p)),(.p (.str m)),(.p (.str tg)),(.p (.int .i64 hm)),(.row 2),(.p (.int .i64 hl)),(.p (.int .i64 le)),(.p (.val (.pointer .none))),.nilS]),(.pack [(.obj 82 [(.row 1),(.p (.bool (Go.Ab.Ln.cr ln))),(.p (.int .i64 (Go.Ab.Ln.code ln)))]),(.row .byte 5 (Go.Ab.Ln.b ln))]),(.row .fld 51 hf),(.row .evt 32 out)],25,none⟩) (by kernel_rfl) ?_
  simp only [zC]
  have hr:({ (⟨ln,p,⟨m,tg,hm,hf,hl⟩,le,none,true,out⟩:Rq) with out:=[]}:Rq)=(⟨ln,p,⟨m,tg,hm,hf,hl⟩,le,none,true,[]⟩:Rq):=rfl
  unfold rqAt at hat
  unfold zB
  rw [hr] at hat ⊢
  refine yE hI zx mixed [xM,xK,xg,yZ] hX [0,1,10,11,12] (fun(g:Nat × Rq)=>match g with|(i,r)=>i≤b.length∧r=xA (⟨ln,p,⟨m,tg,hm,hf,hl⟩,le,none,true,[]⟩:Rq) (b.take i)∧RqI r (n+i)∧zN r.out≤i) (fun(g:Nat × Rq)=>match g with|(i,r)=>⟨[(0,.v (.one (.ptr 0 0))),(1,.v (.one (.p (.list .byte b)))),(10,.v (.one (.p (.list .byte b)))),(11,.v (.one (.p (.int .i64 ((I.len (α:=UInt8) b)))))),(12,.v (.one (.p (.int .i64 i))))],[.abs (.rq r)],25,none⟩) (fun(g:Nat × Rq)=>match g with|(i,r)=>b.length - i) (0,(⟨ln,p,⟨m,tg,hm,hf,hl⟩,le,none,true,[]⟩:Rq)) (by kernel_rfl) (by kernel_rfl) ?_ ?_
  · exact⟨Nat.zero_le _,rfl,hat.1,hat.2⟩
  rintro⟨i,⟨ln2,p2,⟨m2,t2,hm2,hf2,hl2⟩,le2,ck2,own2,out2⟩⟩ ⟨h1,h2,h3,h4⟩ A hA
  simp only at hA h1 h2 h3 h4
  have hrn:i<b.length→rqN _:=fun h=>⟨n+i,by omega,h3⟩
  have hgo:i<b.length→_:=fun h=>hA (i+1,rqF ⟨ln2,p2,⟨m2,t2,hm2,hf2,hl2⟩,le2,ck2,own2,out2⟩ (b.getD i 0)) ⟨by simp only;omega,by simp only;rw [Vk _ _ h,← h2],by simp only;exact SX h3 _,by simp only;have:=YX ⟨ln2,p2,⟨m2,t2,hm2,hf2,hl2⟩,le2,ck2,own2,out2⟩ (b.getD i 0);simp only at this;omega⟩ (by simp only;omega)
  have hend: ¬ i<b.length→_:=fun h=>h2.trans (by rw [List.take_of_length_le (by omega)])
  rcases ck2 with _|ch2<;>rcases own2 with _|_
  · have h0:=h1
    refine zi (let y0:=I.b2i (I.get (α:=UInt8) b 0 (Nat.cast i));let y1:=I.inb (Nat.cast i) (I.len (α:=UInt8) b);.br (I.ilt (Nat.cast i) (I.len (α:=UInt8) b)) (.need y1 (.need y1 (.need (I.hid (α:=(Prop)) (And (rqN (Go.Ab.Rq.mk ln2 p2 (Hd.mk m2 t2 hm2 hf2 hl2) le2 (Option.none) Bool.false out2)) (And (LE.le (0:Int) y0) (LE.le y0 (255:Int))))) (.need (I.inr Go.IntKind.i64 (I.add (Nat.cast i) 1)) (.need (A ⟨[(0,(.v (.one (.ptr 0 0)))),(1,(.v (.one (.p (.list .byte b))))),(10,(.v (.one (.p (.list .byte b))))),(11,(.v (.one (.p (.int .i64 (I.len (α:=UInt8) b)))))),(12,(.v (.one (.p (.int .i64 (I.add (Nat.cast i) 1))))))],[(.abs (.rq (I.hid (α:=Go.Ab.Rq) (rqF (Go.Ab.Rq.mk ln2 p2 (Hd.mk m2 t2 hm2 hf2 hl2) le2 (Option.none) Bool.false out2) (UInt8.ofNat (Int.toNat y0))))))],25,none⟩) .qed))))) (.need (I.hid (α:=(Prop)) (And (LE.le (zN out2) 1000000) (LE.le (List.length out2) 10000000))) (.fin (.ret (.v (.one (.row 1)))) [(.abs (.rq (Go.Ab.Rq.mk (Go.Ab.Ln.mk (Go.Ab.Ln.b ln2) (Go.Ab.Ln.cr ln2) (Go.Ab.Ln.code ln2)) p2 (Hd.mk m2 t2 hm2 hf2 hl2) le2 (Option.none) Bool.false out2))),(.row .evt 32 (I.hid (α:=(List Go.Ab.Evt)) (zH out2)))]))) (by kernel_rfl) ?_
    simp only [zC]
    subst hI
    simp only [nrmA,nrmB,nrlB,reduceCtorEq,HO.abs.injEq,Gh.rq.injEq,Rq.mk.injEq]
    by_cases hi:i<b.length
    · have hg:=hgo hi
      have hn:=hrn hi
      (repeat' (first|refine And.intro ?_ ?_|intro _))<;>first|omega|exact True.intro|exact False.elim ‹False›|skip
      all_goals first|omega|exact hg|exact hn|contradiction|(have:=(b.getD i 0).toNat_lt;omega)|trace_state
    · have hg:=hend hi
      rw [← hg]
      have hon:=h3.on
      simp only at hon
      (repeat' (first|refine And.intro ?_ ?_|intro _))<;>first|omega|exact True.intro|exact False.elim ‹False›|skip
      all_goals first|omega|rfl|contradiction|exact⟨by omega,by omega⟩|trace_state
  · have h0:=h1
    refine zi (let y0:=I.b2i (I.get (α:=UInt8) b 0 (Nat.cast i));let y1:=I.inb (Nat.cast i) (I.len (α:=UInt8) b);.br (I.ilt (Nat.cast i) (I.len (α:=UInt8) b)) (.need y1 (.need y1 (.need (I.hid (α:=(Prop)) (And (rqN (Go.Ab.Rq.mk ln2 p2 (Hd.mk m2 t2 hm2 hf2 hl2) le2 (Option.none) Bool.true out2)) (And (LE.le (0:Int) y0) (LE.le y0 (255:Int))))) (.need (I.inr Go.IntKind.i64 (I.add (Nat.cast i) 1)) (.need (A ⟨[(0,(.v (.one (.ptr 0 0)))),(1,(.v (.one (.p (.list .byte b))))),(10,(.v (.one (.p (.list .byte b))))),(11,(.v (.one (.p (.int .i64 (I.len (α:=UInt8) b)))))),(12,(.v (.one (.p (.int .i64 (I.add (Nat.cast i) 1))))))],[(.abs (.rq (I.hid (α:=Go.Ab.Rq) (rqF (Go.Ab.Rq.mk ln2 p2 (Hd.mk m2 t2 hm2 hf2 hl2) le2 (Option.none) Bool.true out2) (UInt8.ofNat (Int.toNat y0))))))],25,none⟩) .qed))))) (.need (I.hid (α:=(Prop)) (And (LE.le (zN out2) 1000000) (LE.le (List.length out2) 10000000))) (.fin (.ret (.v (.one (.row 1)))) [(.abs (.rq (Go.Ab.Rq.mk (Go.Ab.Ln.mk (Go.Ab.Ln.b ln2) (Go.Ab.Ln.cr ln2) (Go.Ab.Ln.code ln2)) p2 (Hd.mk m2 t2 hm2 hf2 hl2) le2 (Option.none) Bool.true out2))),(.row .evt 32 (I.hid (α:=(List Go.Ab.Evt)) (zH out2)))]))) (by kernel_rfl) ?_
    simp only [zC]
    subst hI
    simp only [nrmA,nrmB,nrlB,reduceCtorEq,HO.abs.injEq,Gh.rq.injEq,Rq.mk.injEq]
    by_cases hi:i<b.length
    · have hg:=hgo hi
      have hn:=hrn hi
      (repeat' (first|refine And.intro ?_ ?_|intro _))<;>first|omega|exact True.intro|exact False.elim ‹False›|skip
      all_goals first|omega|exact hg|exact hn|contradiction|(have:=(b.getD i 0).toNat_lt;omega)|trace_state
    · have hg:=hend hi
      rw [← hg]
      have hon:=h3.on
      simp only at hon
      (repeat' (first|refine And.intro ?_ ?_|intro _))<;>first|omega|exact True.intro|exact False.elim ‹False›|skip
      all_goals first|omega|rfl|contradiction|exact⟨by omega,by omega⟩|trace_state
  · have h0:=h1
    refine zi (let y0:=I.b2i (I.get (α:=UInt8) b 0 (Nat.cast i));let y1:=I.inb (Nat.cast i) (I.len (α:=UInt8) b);.br (I.ilt (Nat.cast i) (I.len (α:=UInt8) b)) (.need y1 (.need y1 (.need (I.hid (α:=(Prop)) (And (rqN (Go.Ab.Rq.mk ln2 p2 (Hd.mk m2 t2 hm2 hf2 hl2) le2 (Option.some ch2) Bool.false out2)) (And (LE.le (0:Int) y0) (LE.le y0 (255:Int))))) (.need (I.inr Go.IntKind.i64 (I.add (Nat.cast i) 1)) (.need (A ⟨[(0,(.v (.one (.ptr 0 0)))),(1,(.v (.one (.p (.list .byte b))))),(10,(.v (.one (.p (.list .byte b))))),(11,(.v (.one (.p (.int .i64 (I.len (α:=UInt8) b)))))),(12,(.v (.one (.p (.int .i64 (I.add (Nat.cast i) 1))))))],[(.abs (.rq (I.hid (α:=Go.Ab.Rq) (rqF (Go.Ab.Rq.mk ln2 p2 (Hd.mk m2 t2 hm2 hf2 hl2) le2 (Option.some ch2) Bool.false out2) (UInt8.ofNat (Int.toNat y0))))))],25,none⟩) .qed))))) (.need (I.hid (α:=(Prop)) (And (LE.le (zN out2) 1000000) (LE.le (List.length out2) 10000000))) (.fin (.ret (.v (.one (.row 1)))) [(.abs (.rq (Go.Ab.Rq.mk (Go.Ab.Ln.mk (Go.Ab.Ln.b ln2) (Go.Ab.Ln.cr ln2) (Go.Ab.Ln.code ln2)) p2 (Hd.mk m2 t2 hm2 hf2 hl2) le2 (Option.some (Go.Ab.Ch.mk (Go.Ab.Ln.mk (Go.Ab.Ln.b (Go.Ab.Ch.ln ch2)) (Go.Ab.Ln.cr (Go.Ab.Ch.ln ch2)) (Go.Ab.Ln.code (Go.Ab.Ch.ln ch2))) (Go.Ab.Ch.pos ch2) (Go.Ab.Ch.left ch2) (Go.Ab.Ch.all ch2) (Go.Ab.Ch.tails ch2) (Go.Ab.Ch.code ch2))) Bool.false out2))),(.row .evt 32 (I.hid (α:=(List Go.Ab.Evt)) (zH out2)))]))) (by kernel_rfl) ?_
    simp only [zC]
    subst hI
    simp only [nrmA,nrmB,nrlB,reduceCtorEq,HO.abs.injEq,Gh.rq.injEq,Rq.mk.injEq]
    by_cases hi:i<b.length
    · have hg:=hgo hi
      have hn:=hrn hi
      (repeat' (first|refine And.intro ?_ ?_|intro _))<;>first|omega|exact True.intro|exact False.elim ‹False›|skip
      all_goals first|omega|exact hg|exact hn|contradiction|(have:=(b.getD i 0).toNat_lt;omega)|trace_state
    · have hg:=hend hi
      rw [← hg]
      have hon:=h3.on
      simp only at hon
      (repeat' (first|refine And.intro ?_ ?_|intro _))<;>first|omega|exact True.intro|exact False.elim ‹False›|skip
      all_goals first|omega|rfl|contradiction|exact⟨by omega,by omega⟩|trace_state
  · have h0:=h1
    refine zi (let y0:=I.b2i (I.get (α:=UInt8) b 0 (Nat.cast i));let y1:=I.inb (Nat.cast i) (I.len (α:=UInt8) b);.br (I.ilt (Nat.cast i) (I.len (α:=UInt8) b)) (.need y1 (.need y1 (.need (I.hid (α:=(Prop)) (And (rqN (Go.Ab.Rq.mk ln2 p2 (Hd.mk m2 t2 hm2 hf2 hl2) le2 (Option.some ch2) Bool.true out2)) (And (LE.le (0:Int) y0) (LE.le y0 (255:Int))))) (.need (I.inr Go.IntKind.i64 (I.add (Nat.cast i) 1)) (.need (A ⟨[(0,(.v (.one (.ptr 0 0)))),(1,(.v (.one (.p (.list .byte b))))),(10,(.v (.one (.p (.list .byte b))))),(11,(.v (.one (.p (.int .i64 (I.len (α:=UInt8) b)))))),(12,(.v (.one (.p (.int .i64 (I.add (Nat.cast i) 1))))))],[(.abs (.rq (I.hid (α:=Go.Ab.Rq) (rqF (Go.Ab.Rq.mk ln2 p2 (Hd.mk m2 t2 hm2 hf2 hl2) le2 (Option.some ch2) Bool.true out2) (UInt8.ofNat (Int.toNat y0))))))],25,none⟩) .qed))))) (.need (I.hid (α:=(Prop)) (And (LE.le (zN out2) 1000000) (LE.le (List.length out2) 10000000))) (.fin (.ret (.v (.one (.row 1)))) [(.abs (.rq (Go.Ab.Rq.mk (Go.Ab.Ln.mk (Go.Ab.Ln.b ln2) (Go.Ab.Ln.cr ln2) (Go.Ab.Ln.code ln2)) p2 (Hd.mk m2 t2 hm2 hf2 hl2) le2 (Option.some (Go.Ab.Ch.mk (Go.Ab.Ln.mk (Go.Ab.Ln.b (Go.Ab.Ch.ln ch2)) (Go.Ab.Ln.cr (Go.Ab.Ch.ln ch2)) (Go.Ab.Ln.code (Go.Ab.Ch.ln ch2))) (Go.Ab.Ch.pos ch2) (Go.Ab.Ch.left ch2) (Go.Ab.Ch.all ch2) (Go.Ab.Ch.tails ch2) (Go.Ab.Ch.code ch2))) Bool.true out2))),(.row .evt 32 (I.hid (α:=(List Go.Ab.Evt)) (zH out2)))]))) (by kernel_rfl) ?_
    simp only [zC]
    subst hI
    simp only [nrmA,nrmB,nrlB,reduceCtorEq,HO.abs.injEq,Gh.rq.injEq,Rq.mk.injEq]
    by_cases hi:i<b.length
    · have hg:=hgo hi
      have hn:=hrn hi
      (repeat' (first|refine And.intro ?_ ?_|intro _))<;>first|omega|exact True.intro|exact False.elim ‹False›|skip
      all_goals first|omega|exact hg|exact hn|contradiction|(have:=(b.getD i 0).toNat_lt;omega)|trace_state
    · have hg:=hend hi
      rw [← hg]
      have hon:=h3.on
      simp only at hon
      (repeat' (first|refine And.intro ?_ ?_|intro _))<;>first|omega|exact True.intro|exact False.elim ‹False›|skip
      all_goals first|omega|rfl|contradiction|exact⟨by omega,by omega⟩|trace_state
theorem zco (ln:Ln) (p:Int) (m tg:Str) (hm:Int) (hf:List Fld) (hl le:Int) (out:List Evt) (b:Str) (hneed:rqN0 ⟨ln,p,⟨m,tg,hm,hf,hl⟩,le,none,false,out⟩ b):Spc Tryz.prog 9 [.v (.one (.ptr 0 0)),.v (.one (.p (.list .byte b)))] [.abs (.rq ⟨ln,p,⟨m,tg,hm,hf,hl⟩,le,none,false,out⟩)] (.ret (.v (.one (.row 1)))) [.abs (.rq ((zB ⟨ln,p,⟨m,tg,hm,hf,hl⟩,le,none,false,out⟩ b))),.row .evt 32 ((zH (zB ⟨ln,p,⟨m,tg,hm,hf,hl⟩,le,none,false,out⟩ b).out))]:=by
  obtain⟨n,hI0,hnb⟩:=hneed
  have hat:=QY hI0 b
  refine spcG zx mixed Tryz.func9 (by kernel_rfl) { cfgQ with fz:=[],keep:=some [0,1,4,6,10,11,12]} [xM,xK,xg,yZ] (by kernel_rfl) ?_
  intro I X hI hX
  refine zi (.code 0 [1,1,0,1,0] ⟨[(12,(.v (.one (.p (.int .i64 0))))),(11,(.v (.one (.p (.int .i64 (I.len (α:=UInt8) b)))))),(10,(.v (.one (.p (.list .byte b))))),(4,(.v (.one .nilS))),(0,(.v (.one (.ptr 0 0)))),(1,(.v (.one (.p (.list .byte b)))))],[(.obj 57 [(.ptr 1 0),(.p (.int .i64 p)),(.p (.str m)),(.p (.str tg)),(.p (.int .i64 hm)),(.p (.list .fld hf)),(.p (.int .i64 hl)),(.p (.int .i64 le)),(.p (.val (.pointer .none))),.nilS]),(.pack [(.obj 82 [(.row 1),(.p (.bool (Go.Ab.Ln.cr ln))),(.p (.int .i64 (Go.Ab.Ln.code ln)))]),(.row .byte 5 (Go.Ab.Ln.b ln))]),(.row .evt 32 out)],25,none⟩) (by kernel_rfl) ?_
  simp only [zC]
  have hr:({ (⟨ln,p,⟨m,tg,hm,hf,hl⟩,le,none,false,out⟩:Rq) with out:=[]}:Rq)=(⟨ln,p,⟨m,tg,hm,hf,hl⟩,le,none,false,[]⟩:Rq):=rfl
  unfold rqAt at hat
  unfold zB
  rw [hr] at hat ⊢
  refine yE hI zx mixed [xM,xK,xg,yZ] hX [0,1,10,11,12] (fun(g:Nat × Rq)=>match g with|(i,r)=>i≤b.length∧r=xA (⟨ln,p,⟨m,tg,hm,hf,hl⟩,le,none,false,[]⟩:Rq) (b.take i)∧RqI r (n+i)∧zN r.out≤i) (fun(g:Nat × Rq)=>match g with|(i,r)=>⟨[(0,.v (.one (.ptr 0 0))),(1,.v (.one (.p (.list .byte b)))),(10,.v (.one (.p (.list .byte b)))),(11,.v (.one (.p (.int .i64 ((I.len (α:=UInt8) b)))))),(12,.v (.one (.p (.int .i64 i))))],[.abs (.rq r)],25,none⟩) (fun(g:Nat × Rq)=>match g with|(i,r)=>b.length - i) (0,(⟨ln,p,⟨m,tg,hm,hf,hl⟩,le,none,false,[]⟩:Rq)) (by kernel_rfl) (by kernel_rfl) ?_ ?_
  · exact⟨Nat.zero_le _,rfl,hat.1,hat.2⟩
  rintro⟨i,⟨ln2,p2,⟨m2,t2,hm2,hf2,hl2⟩,le2,ck2,own2,out2⟩⟩ ⟨h1,h2,h3,h4⟩ A hA
  simp only at hA h1 h2 h3 h4
  have hrn:i<b.length→rqN _:=fun h=>⟨n+i,by omega,h3⟩
  have hgo:i<b.length→_:=fun h=>hA (i+1,rqF ⟨ln2,p2,⟨m2,t2,hm2,hf2,hl2⟩,le2,ck2,own2,out2⟩ (b.getD i 0)) ⟨by simp only;omega,by simp only;rw [Vk _ _ h,← h2],by simp only;exact SX h3 _,by simp only;have:=YX ⟨ln2,p2,⟨m2,t2,hm2,hf2,hl2⟩,le2,ck2,own2,out2⟩ (b.getD i 0);simp only at this;omega⟩ (by simp only;omega)
  have hend: ¬ i<b.length→_:=fun h=>h2.trans (by rw [List.take_of_length_le (by omega)])
  rcases ck2 with _|ch2<;>rcases own2 with _|_
  · have h0:=h1
    refine zi (let y0:=I.b2i (I.get (α:=UInt8) b 0 (Nat.cast i));let y1:=I.inb (Nat.cast i) (I.len (α:=UInt8) b);.br (I.ilt (Nat.cast i) (I.len (α:=UInt8) b)) (.need y1 (.need y1 (.need (I.hid (α:=(Prop)) (And (rqN (Go.Ab.Rq.mk ln2 p2 (Hd.mk m2 t2 hm2 hf2 hl2) le2 (Option.none) Bool.false out2)) (And (LE.le (0:Int) y0) (LE.le y0 (255:Int))))) (.need (I.inr Go.IntKind.i64 (I.add (Nat.cast i) 1)) (.need (A ⟨[(0,(.v (.one (.ptr 0 0)))),(1,(.v (.one (.p (.list .byte b))))),(10,(.v (.one (.p (.list .byte b))))),(11,(.v (.one (.p (.int .i64 (I.len (α:=UInt8) b)))))),(12,(.v (.one (.p (.int .i64 (I.add (Nat.cast i) 1))))))],[(.abs (.rq (I.hid (α:=Go.Ab.Rq) (rqF (Go.Ab.Rq.mk ln2 p2 (Hd.mk m2 t2 hm2 hf2 hl2) le2 (Option.none) Bool.false out2) (UInt8.ofNat (Int.toNat y0))))))],25,none⟩) .qed))))) (.need (I.hid (α:=(Prop)) (And (LE.le (zN out2) 1000000) (LE.le (List.length out2) 10000000))) (.fin (.ret (.v (.one (.row 1)))) [(.abs (.rq (Go.Ab.Rq.mk (Go.Ab.Ln.mk (Go.Ab.Ln.b ln2) (Go.Ab.Ln.cr ln2) (Go.Ab.Ln.code ln2)) p2 (Hd.mk m2 t2 hm2 hf2 hl2) le2 (Option.none) Bool.false out2))),(.row .evt 32 (I.hid (α:=(List Go.Ab.Evt)) (zH out2)))]))) (by kernel_rfl) ?_
    simp only [zC]
    subst hI
    simp only [nrmA,nrmB,nrlB,reduceCtorEq,HO.abs.injEq,Gh.rq.injEq,Rq.mk.injEq]
    by_cases hi:i<b.length
    · have hg:=hgo hi
      have hn:=hrn hi
      (repeat' (first|refine And.intro ?_ ?_|intro _))<;>first|omega|exact True.intro|exact False.elim ‹False›|skip
      all_goals first|omega|exact hg|exact hn|contradiction|(have:=(b.getD i 0).toNat_lt;omega)|trace_state
    · have hg:=hend hi
      rw [← hg]
      have hon:=h3.on
      simp only at hon
      (repeat' (first|refine And.intro ?_ ?_|intro _))<;>first|omega|exact True.intro|exact False.elim ‹False›|skip
      all_goals first|omega|rfl|contradiction|exact⟨by omega,by omega⟩|trace_state
  · have h0:=h1
    refine zi (let y0:=I.b2i (I.get (α:=UInt8) b 0 (Nat.cast i));let y1:=I.inb (Nat.cast i) (I.len (α:=UInt8) b);.br (I.ilt (Nat.cast i) (I.len (α:=UInt8) b)) (.need y1 (.need y1 (.need (I.hid (α:=(Prop)) (And (rqN (Go.Ab.Rq.mk ln2 p2 (Hd.mk m2 t2 hm2 hf2 hl2) le2 (Option.none) Bool.true out2)) (And (LE.le (0:Int) y0) (LE.le y0 (255:Int))))) (.need (I.inr Go.IntKind.i64 (I.add (Nat.cast i) 1)) (.need (A ⟨[(0,(.v (.one (.ptr 0 0)))),(1,(.v (.one (.p (.list .byte b))))),(10,(.v (.one (.p (.list .byte b))))),(11,(.v (.one (.p (.int .i64 (I.len (α:=UInt8) b)))))),(12,(.v (.one (.p (.int .i64 (I.add (Nat.cast i) 1))))))],[(.abs (.rq (I.hid (α:=Go.Ab.Rq) (rqF (Go.Ab.Rq.mk ln2 p2 (Hd.mk m2 t2 hm2 hf2 hl2) le2 (Option.none) Bool.true out2) (UInt8.ofNat (Int.toNat y0))))))],25,none⟩) .qed))))) (.need (I.hid (α:=(Prop)) (And (LE.le (zN out2) 1000000) (LE.le (List.length out2) 10000000))) (.fin (.ret (.v (.one (.row 1)))) [(.abs (.rq (Go.Ab.Rq.mk (Go.Ab.Ln.mk (Go.Ab.Ln.b ln2) (Go.Ab.Ln.cr ln2) (Go.Ab.Ln.code ln2)) p2 (Hd.mk m2 t2 hm2 hf2 hl2) le2 (Option.none) Bool.true out2))),(.row .evt 32 (I.hid (α:=(List Go.Ab.Evt)) (zH out2)))]))) (by kernel_rfl) ?_
    simp only [zC]
    subst hI
    simp only [nrmA,nrmB,nrlB,reduceCtorEq,HO.abs.injEq,Gh.rq.injEq,Rq.mk.injEq]
    by_cases hi:i<b.length
    · have hg:=hgo hi
      have hn:=hrn hi
      (repeat' (first|refine And.intro ?_ ?_|intro _))<;>first|omega|exact True.intro|exact False.elim ‹False›|skip
      all_goals first|omega|exact hg|exact hn|contradiction|(have:=(b.getD i 0).toNat_lt;omega)|trace_state
    · have hg:=hend hi
      rw [← hg]
      have hon:=h3.on
      simp only at hon
      (repeat' (first|refine And.intro ?_ ?_|intro _))<;>first|omega|exact True.intro|exact False.elim ‹False›|skip
      all_goals first|omega|rfl|contradiction|exact⟨by omega,by omega⟩|trace_state
  · have h0:=h1
    refine zi (let y0:=I.b2i (I.get (α:=UInt8) b 0 (Nat.cast i));let y1:=I.inb (Nat.cast i) (I.len (α:=UInt8) b);.br (I.ilt (Nat.cast i) (I.len (α:=UInt8) b)) (.need y1 (.need y1 (.need (I.hid (α:=(Prop)) (And (rqN (Go.Ab.Rq.mk ln2 p2 (Hd.mk m2 t2 hm2 hf2 hl2) le2 (Option.some ch2) Bool.false out2)) (And (LE.le (0:Int) y0) (LE.le y0 (255:Int))))) (.need (I.inr Go.IntKind.i64 (I.add (Nat.cast i) 1)) (.need (A ⟨[(0,(.v (.one (.ptr 0 0)))),(1,(.v (.one (.p (.list .byte b))))),(10,(.v (.one (.p (.list .byte b))))),(11,(.v (.one (.p (.int .i64 (I.len (α:=UInt8) b)))))),(12,(.v (.one (.p (.int .i64 (I.add (Nat.cast i) 1))))))],[(.abs (.rq (I.hid (α:=Go.Ab.Rq) (rqF (Go.Ab.Rq.mk ln2 p2 (Hd.mk m2 t2 hm2 hf2 hl2) le2 (Option.some ch2) Bool.false out2) (UInt8.ofNat (Int.toNat y0))))))],25,none⟩) .qed))))) (.need (I.hid (α:=(Prop)) (And (LE.le (zN out2) 1000000) (LE.le (List.length out2) 10000000))) (.fin (.ret (.v (.one (.row 1)))) [(.abs (.rq (Go.Ab.Rq.mk (Go.Ab.Ln.mk (Go.Ab.Ln.b ln2) (Go.Ab.Ln.cr ln2) (Go.Ab.Ln.code ln2)) p2 (Hd.mk m2 t2 hm2 hf2 hl2) le2 (Option.some (Go.Ab.Ch.mk (Go.Ab.Ln.mk (Go.Ab.Ln.b (Go.Ab.Ch.ln ch2)) (Go.Ab.Ln.cr (Go.Ab.Ch.ln ch2)) (Go.Ab.Ln.code (Go.Ab.Ch.ln ch2))) (Go.Ab.Ch.pos ch2) (Go.Ab.Ch.left ch2) (Go.Ab.Ch.all ch2) (Go.Ab.Ch.tails ch2) (Go.Ab.Ch.code ch2))) Bool.false out2))),(.row .evt 32 (I.hid (α:=(List Go.Ab.Evt)) (zH out2)))]))) (by kernel_rfl) ?_
    simp only [zC]
    subst hI
    simp only [nrmA,nrmB,nrlB,reduceCtorEq,HO.abs.injEq,Gh.rq.injEq,Rq.mk.injEq]
    by_cases hi:i<b.length
    · have hg:=hgo hi
      have hn:=hrn hi
      (repeat' (first|refine And.intro ?_ ?_|intro _))<;>first|omega|exact True.intro|exact False.elim ‹False›|skip
      all_goals first|omega|exact hg|exact hn|contradiction|(have:=(b.getD i 0).toNat_lt;omega)|trace_state
    · have hg:=hend hi
      rw [← hg]
      have hon:=h3.on
      simp only at hon
      (repeat' (first|refine And.intro ?_ ?_|intro _))<;>first|omega|exact True.intro|exact False.elim ‹False›|skip
      all_goals first|omega|rfl|contradiction|exact⟨by omega,by omega⟩|trace_state
  · have h0:=h1
    refine zi (let y0:=I.b2i (I.get (α:=UInt8) b 0 (Nat.cast i));let y1:=I.inb (Nat.cast i) (I.len (α:=UInt8) b);.br (I.ilt (Nat.cast i) (I.len (α:=UInt8) b)) (.need y1 (.need y1 (.need (I.hid (α:=(Prop)) (And (rqN (Go.Ab.Rq.mk ln2 p2 (Hd.mk m2 t2 hm2 hf2 hl2) le2 (Option.some ch2) Bool.true out2)) (And (LE.le (0:Int) y0) (LE.le y0 (255:Int))))) (.need (I.inr Go.IntKind.i64 (I.add (Nat.cast i) 1)) (.need (A ⟨[(0,(.v (.one (.ptr 0 0)))),(1,(.v (.one (.p (.list .byte b))))),(10,(.v (.one (.p (.list .byte b))))),(11,(.v (.one (.p (.int .i64 (I.len (α:=UInt8) b)))))),(12,(.v (.one (.p (.int .i64 (I.add (Nat.cast i) 1))))))],[(.abs (.rq (I.hid (α:=Go.Ab.Rq) (rqF (Go.Ab.Rq.mk ln2 p2 (Hd.mk m2 t2 hm2 hf2 hl2) le2 (Option.some ch2) Bool.true out2) (UInt8.ofNat (Int.toNat y0))))))],25,none⟩) .qed))))) (.need (I.hid (α:=(Prop)) (And (LE.le (zN out2) 1000000) (LE.le (List.length out2) 10000000))) (.fin (.ret (.v (.one (.row 1)))) [(.abs (.rq (Go.Ab.Rq.mk (Go.Ab.Ln.mk (Go.Ab.Ln.b ln2) (Go.Ab.Ln.cr ln2) (Go.Ab.Ln.code ln2)) p2 (Hd.mk m2 t2 hm2 hf2 hl2) le2 (Option.some (Go.Ab.Ch.mk (Go.Ab.Ln.mk (Go.Ab.Ln.b (Go.Ab.Ch.ln ch2)) (Go.Ab.Ln.cr (Go.Ab.Ch.ln ch2)) (Go.Ab.Ln.code (Go.Ab.Ch.ln ch2))) (Go.Ab.Ch.pos ch2) (Go.Ab.Ch.left ch2) (Go.Ab.Ch.all ch2) (Go.Ab.Ch.tails ch2) (Go.Ab.Ch.code ch2))) Bool.true out2))),(.row .evt 32 (I.hid (α:=(List Go.Ab.Evt)) (zH out2)))]))) (by kernel_rfl) ?_
    simp only [zC]
    subst hI
    simp only [nrmA,nrmB,nrlB,reduceCtorEq,HO.abs.injEq,Gh.rq.injEq,Rq.mk.injEq]
    by_cases hi:i<b.length
    · have hg:=hgo hi
      have hn:=hrn hi
      (repeat' (first|refine And.intro ?_ ?_|intro _))<;>first|omega|exact True.intro|exact False.elim ‹False›|skip
      all_goals first|omega|exact hg|exact hn|contradiction|(have:=(b.getD i 0).toNat_lt;omega)|trace_state
    · have hg:=hend hi
      rw [← hg]
      have hon:=h3.on
      simp only at hon
      (repeat' (first|refine And.intro ?_ ?_|intro _))<;>first|omega|exact True.intro|exact False.elim ‹False›|skip
      all_goals first|omega|rfl|contradiction|exact⟨by omega,by omega⟩|trace_state
theorem zcl (ln:Ln) (p:Int) (m tg:Str) (hm:Int) (hf:List Fld) (hl le:Int) (ch:Ch) (out:List Evt) (b:Str) (hneed:rqN0 ⟨ln,p,⟨m,tg,hm,hf,hl⟩,le,some ch,true,out⟩ b):Spc Tryz.prog 9 [.v (.one (.ptr 0 0)),.v (.one (.p (.list .byte b)))] [.abs (.rq ⟨ln,p,⟨m,tg,hm,hf,hl⟩,le,some ch,true,out⟩)] (.ret (.v (.one (.row 1)))) [.abs (.rq ((zB ⟨ln,p,⟨m,tg,hm,hf,hl⟩,le,some ch,true,out⟩ b))),.row .evt 32 ((zH (zB ⟨ln,p,⟨m,tg,hm,hf,hl⟩,le,some ch,true,out⟩ b).out))]:=by
  obtain⟨n,hI0,hnb⟩:=hneed
  have hat:=QY hI0 b
  refine spcG zx mixed Tryz.func9 (by kernel_rfl) { cfgQ with fz:=[],keep:=some [0,1,4,6,10,11,12]} [xM,xK,xg,yZ] (by kernel_rfl) ?_
  intro I X hI hX
  refine zi (.code 0 [1,1,0,1,0] ⟨[(12,(.v (.one (.p (.int .i64 0))))),(11,(.v (.one (.p (.int .i64 (I.len (α:=UInt8) b)))))),(10,(.v (.one (.p (.list .byte b))))),(4,(.v (.one .nilS))),(0,(.v (.one (.ptr 0 0)))),(1,(.v (.one (.p (.list .byte b)))))],[(.obj 57 [(.ptr 1 0),(.p (.int .i64 p)),(.p (.str m)),(.p (.str tg)),(.p (.int .i64 hm)),(.row 2),(.p (.int .i64 hl)),(.p (.int .i64 le)),(.ptr 3 0),.nilS]),(.pack [(.obj 82 [(.row 1),(.p (.bool (Go.Ab.Ln.cr ln))),(.p (.int .i64 (Go.Ab.Ln.code ln)))]),(.row .byte 5 (Go.Ab.Ln.b ln))]),(.row .fld 51 hf),(.pack [(.obj 98 [(.ptr 1 0),(.p (.int .i64 (Go.Ab.Ch.pos ch))),(.p (.int .i64 (Go.Ab.Ch.left ch))),(.p (.int .i64 (Go.Ab.Ch.all ch))),(.p (.int .i64 (Go.Ab.Ch.tails ch))),(.p (.int .i64 (Go.Ab.Ch.code ch)))]),(.pack [(.obj 82 [(.row 1),(.p (.bool (Go.Ab.Ln.cr (Go.Ab.Ch.ln ch)))),(.p (.int .i64 (Go.Ab.Ln.code (Go.Ab.Ch.ln ch))))]),(.row .byte 5 (Go.Ab.Ln.b (Go.Ab.Ch.ln ch)))])]),(.row .evt 32 out)],25,none⟩) (by kernel_rfl) ?_
  simp only [zC]
  have hr:({ (⟨ln,p,⟨m,tg,hm,hf,hl⟩,le,some ch,true,out⟩:Rq) with out:=[]}:Rq)=(⟨ln,p,⟨m,tg,hm,hf,hl⟩,le,some ch,true,[]⟩:Rq):=rfl
  unfold rqAt at hat
  unfold zB
  rw [hr] at hat ⊢
  refine yE hI zx mixed [xM,xK,xg,yZ] hX [0,1,10,11,12] (fun(g:Nat × Rq)=>match g with|(i,r)=>i≤b.length∧r=xA (⟨ln,p,⟨m,tg,hm,hf,hl⟩,le,some ch,true,[]⟩:Rq) (b.take i)∧RqI r (n+i)∧zN r.out≤i) (fun(g:Nat × Rq)=>match g with|(i,r)=>⟨[(0,.v (.one (.ptr 0 0))),(1,.v (.one (.p (.list .byte b)))),(10,.v (.one (.p (.list .byte b)))),(11,.v (.one (.p (.int .i64 ((I.len (α:=UInt8) b)))))),(12,.v (.one (.p (.int .i64 i))))],[.abs (.rq r)],25,none⟩) (fun(g:Nat × Rq)=>match g with|(i,r)=>b.length - i) (0,(⟨ln,p,⟨m,tg,hm,hf,hl⟩,le,some ch,true,[]⟩:Rq)) (by kernel_rfl) (by kernel_rfl) ?_ ?_
  · exact⟨Nat.zero_le _,rfl,hat.1,hat.2⟩
  rintro⟨i,⟨ln2,p2,⟨m2,t2,hm2,hf2,hl2⟩,le2,ck2,own2,out2⟩⟩ ⟨h1,h2,h3,h4⟩ A hA
  simp only at hA h1 h2 h3 h4
  have hrn:i<b.length→rqN _:=fun h=>⟨n+i,by omega,h3⟩
  have hgo:i<b.length→_:=fun h=>hA (i+1,rqF ⟨ln2,p2,⟨m2,t2,hm2,hf2,hl2⟩,le2,ck2,own2,out2⟩ (b.getD i 0)) ⟨by simp only;omega,by simp only;rw [Vk _ _ h,← h2],by simp only;exact SX h3 _,by simp only;have:=YX ⟨ln2,p2,⟨m2,t2,hm2,hf2,hl2⟩,le2,ck2,own2,out2⟩ (b.getD i 0);simp only at this;omega⟩ (by simp only;omega)
  have hend: ¬ i<b.length→_:=fun h=>h2.trans (by rw [List.take_of_length_le (by omega)])
  rcases ck2 with _|ch2<;>rcases own2 with _|_
  · have h0:=h1
    refine zi (let y0:=I.b2i (I.get (α:=UInt8) b 0 (Nat.cast i));let y1:=I.inb (Nat.cast i) (I.len (α:=UInt8) b);.br (I.ilt (Nat.cast i) (I.len (α:=UInt8) b)) (.need y1 (.need y1 (.need (I.hid (α:=(Prop)) (And (rqN (Go.Ab.Rq.mk ln2 p2 (Hd.mk m2 t2 hm2 hf2 hl2) le2 (Option.none) Bool.false out2)) (And (LE.le (0:Int) y0) (LE.le y0 (255:Int))))) (.need (I.inr Go.IntKind.i64 (I.add (Nat.cast i) 1)) (.need (A ⟨[(0,(.v (.one (.ptr 0 0)))),(1,(.v (.one (.p (.list .byte b))))),(10,(.v (.one (.p (.list .byte b))))),(11,(.v (.one (.p (.int .i64 (I.len (α:=UInt8) b)))))),(12,(.v (.one (.p (.int .i64 (I.add (Nat.cast i) 1))))))],[(.abs (.rq (I.hid (α:=Go.Ab.Rq) (rqF (Go.Ab.Rq.mk ln2 p2 (Hd.mk m2 t2 hm2 hf2 hl2) le2 (Option.none) Bool.false out2) (UInt8.ofNat (Int.toNat y0))))))],25,none⟩) .qed))))) (.need (I.hid (α:=(Prop)) (And (LE.le (zN out2) 1000000) (LE.le (List.length out2) 10000000))) (.fin (.ret (.v (.one (.row 1)))) [(.abs (.rq (Go.Ab.Rq.mk (Go.Ab.Ln.mk (Go.Ab.Ln.b ln2) (Go.Ab.Ln.cr ln2) (Go.Ab.Ln.code ln2)) p2 (Hd.mk m2 t2 hm2 hf2 hl2) le2 (Option.none) Bool.false out2))),(.row .evt 32 (I.hid (α:=(List Go.Ab.Evt)) (zH out2)))]))) (by kernel_rfl) ?_
    simp only [zC]
    subst hI
    simp only [nrmA,nrmB,nrlB,reduceCtorEq,HO.abs.injEq,Gh.rq.injEq,Rq.mk.injEq]
    by_cases hi:i<b.length
    · have hg:=hgo hi
      have hn:=hrn hi
      (repeat' (first|refine And.intro ?_ ?_|intro _))<;>first|omega|exact True.intro|exact False.elim ‹False›|skip
      all_goals first|omega|exact hg|exact hn|contradiction|(have:=(b.getD i 0).toNat_lt;omega)|trace_state
    · have hg:=hend hi
      rw [← hg]
      have hon:=h3.on
      simp only at hon
      (repeat' (first|refine And.intro ?_ ?_|intro _))<;>first|omega|exact True.intro|exact False.elim ‹False›|skip
      all_goals first|omega|rfl|contradiction|exact⟨by omega,by omega⟩|trace_state
  · have h0:=h1
    refine zi (let y0:=I.b2i (I.get (α:=UInt8) b 0 (Nat.cast i));let y1:=I.inb (Nat.cast i) (I.len (α:=UInt8) b);.br (I.ilt (Nat.cast i) (I.len (α:=UInt8) b)) (.need y1 (.need y1 (.need (I.hid (α:=(Prop)) (And (rqN (Go.Ab.Rq.mk ln2 p2 (Hd.mk m2 t2 hm2 hf2 hl2) le2 (Option.none) Bool.true out2)) (And (LE.le (0:Int) y0) (LE.le y0 (255:Int))))) (.need (I.inr Go.IntKind.i64 (I.add (Nat.cast i) 1)) (.need (A ⟨[(0,(.v (.one (.ptr 0 0)))),(1,(.v (.one (.p (.list .byte b))))),(10,(.v (.one (.p (.list .byte b))))),(11,(.v (.one (.p (.int .i64 (I.len (α:=UInt8) b)))))),(12,(.v (.one (.p (.int .i64 (I.add (Nat.cast i) 1))))))],[(.abs (.rq (I.hid (α:=Go.Ab.Rq) (rqF (Go.Ab.Rq.mk ln2 p2 (Hd.mk m2 t2 hm2 hf2 hl2) le2 (Option.none) Bool.true out2) (UInt8.ofNat (Int.toNat y0))))))],25,none⟩) .qed))))) (.need (I.hid (α:=(Prop)) (And (LE.le (zN out2) 1000000) (LE.le (List.length out2) 10000000))) (.fin (.ret (.v (.one (.row 1)))) [(.abs (.rq (Go.Ab.Rq.mk (Go.Ab.Ln.mk (Go.Ab.Ln.b ln2) (Go.Ab.Ln.cr ln2) (Go.Ab.Ln.code ln2)) p2 (Hd.mk m2 t2 hm2 hf2 hl2) le2 (Option.none) Bool.true out2))),(.row .evt 32 (I.hid (α:=(List Go.Ab.Evt)) (zH out2)))]))) (by kernel_rfl) ?_
    simp only [zC]
    subst hI
    simp only [nrmA,nrmB,nrlB,reduceCtorEq,HO.abs.injEq,Gh.rq.injEq,Rq.mk.injEq]
    by_cases hi:i<b.length
    · have hg:=hgo hi
      have hn:=hrn hi
      (repeat' (first|refine And.intro ?_ ?_|intro _))<;>first|omega|exact True.intro|exact False.elim ‹False›|skip
      all_goals first|omega|exact hg|exact hn|contradiction|(have:=(b.getD i 0).toNat_lt;omega)|trace_state
    · have hg:=hend hi
      rw [← hg]
      have hon:=h3.on
      simp only at hon
      (repeat' (first|refine And.intro ?_ ?_|intro _))<;>first|omega|exact True.intro|exact False.elim ‹False›|skip
      all_goals first|omega|rfl|contradiction|exact⟨by omega,by omega⟩|trace_state
  · have h0:=h1
    refine zi (let y0:=I.b2i (I.get (α:=UInt8) b 0 (Nat.cast i));let y1:=I.inb (Nat.cast i) (I.len (α:=UInt8) b);.br (I.ilt (Nat.cast i) (I.len (α:=UInt8) b)) (.need y1 (.need y1 (.need (I.hid (α:=(Prop)) (And (rqN (Go.Ab.Rq.mk ln2 p2 (Hd.mk m2 t2 hm2 hf2 hl2) le2 (Option.some ch2) Bool.false out2)) (And (LE.le (0:Int) y0) (LE.le y0 (255:Int))))) (.need (I.inr Go.IntKind.i64 (I.add (Nat.cast i) 1)) (.need (A ⟨[(0,(.v (.one (.ptr 0 0)))),(1,(.v (.one (.p (.list .byte b))))),(10,(.v (.one (.p (.list .byte b))))),(11,(.v (.one (.p (.int .i64 (I.len (α:=UInt8) b)))))),(12,(.v (.one (.p (.int .i64 (I.add (Nat.cast i) 1))))))],[(.abs (.rq (I.hid (α:=Go.Ab.Rq) (rqF (Go.Ab.Rq.mk ln2 p2 (Hd.mk m2 t2 hm2 hf2 hl2) le2 (Option.some ch2) Bool.false out2) (UInt8.ofNat (Int.toNat y0))))))],25,none⟩) .qed))))) (.need (I.hid (α:=(Prop)) (And (LE.le (zN out2) 1000000) (LE.le (List.length out2) 10000000))) (.fin (.ret (.v (.one (.row 1)))) [(.abs (.rq (Go.Ab.Rq.mk (Go.Ab.Ln.mk (Go.Ab.Ln.b ln2) (Go.Ab.Ln.cr ln2) (Go.Ab.Ln.code ln2)) p2 (Hd.mk m2 t2 hm2 hf2 hl2) le2 (Option.some (Go.Ab.Ch.mk (Go.Ab.Ln.mk (Go.Ab.Ln.b (Go.Ab.Ch.ln ch2)) (Go.Ab.Ln.cr (Go.Ab.Ch.ln ch2)) (Go.Ab.Ln.code (Go.Ab.Ch.ln ch2))) (Go.Ab.Ch.pos ch2) (Go.Ab.Ch.left ch2) (Go.Ab.Ch.all ch2) (Go.Ab.Ch.tails ch2) (Go.Ab.Ch.code ch2))) Bool.false out2))),(.row .evt 32 (I.hid (α:=(List Go.Ab.Evt)) (zH out2)))]))) (by kernel_rfl) ?_
    simp only [zC]
    subst hI
    simp only [nrmA,nrmB,nrlB,reduceCtorEq,HO.abs.injEq,Gh.rq.injEq,Rq.mk.injEq]
    by_cases hi:i<b.length
    · have hg:=hgo hi
      have hn:=hrn hi
      (repeat' (first|refine And.intro ?_ ?_|intro _))<;>first|omega|exact True.intro|exact False.elim ‹False›|skip
      all_goals first|omega|exact hg|exact hn|contradiction|(have:=(b.getD i 0).toNat_lt;omega)|trace_state
    · have hg:=hend hi
      rw [← hg]
      have hon:=h3.on
      simp only at hon
      (repeat' (first|refine And.intro ?_ ?_|intro _))<;>first|omega|exact True.intro|exact False.elim ‹False›|skip
      all_goals first|omega|rfl|contradiction|exact⟨by omega,by omega⟩|trace_state
  · have h0:=h1
    refine zi (let y0:=I.b2i (I.get (α:=UInt8) b 0 (Nat.cast i));let y1:=I.inb (Nat.cast i) (I.len (α:=UInt8) b);.br (I.ilt (Nat.cast i) (I.len (α:=UInt8) b)) (.need y1 (.need y1 (.need (I.hid (α:=(Prop)) (And (rqN (Go.Ab.Rq.mk ln2 p2 (Hd.mk m2 t2 hm2 hf2 hl2) le2 (Option.some ch2) Bool.true out2)) (And (LE.le (0:Int) y0) (LE.le y0 (255:Int))))) (.need (I.inr Go.IntKind.i64 (I.add (Nat.cast i) 1)) (.need (A ⟨[(0,(.v (.one (.ptr 0 0)))),(1,(.v (.one (.p (.list .byte b))))),(10,(.v (.one (.p (.list .byte b))))),(11,(.v (.one (.p (.int .i64 (I.len (α:=UInt8) b)))))),(12,(.v (.one (.p (.int .i64 (I.add (Nat.cast i) 1))))))],[(.abs (.rq (I.hid (α:=Go.Ab.Rq) (rqF (Go.Ab.Rq.mk ln2 p2 (Hd.mk m2 t2 hm2 hf2 hl2) le2 (Option.some ch2) Bool.true out2) (UInt8.ofNat (Int.toNat y0))))))],25,none⟩) .qed))))) (.need (I.hid (α:=(Prop)) (And (LE.le (zN out2) 1000000) (LE.le (List.length out2) 10000000))) (.fin (.ret (.v (.one (.row 1)))) [(.abs (.rq (Go.Ab.Rq.mk (Go.Ab.Ln.mk (Go.Ab.Ln.b ln2) (Go.Ab.Ln.cr ln2) (Go.Ab.Ln.code ln2)) p2 (Hd.mk m2 t2 hm2 hf2 hl2) le2 (Option.some (Go.Ab.Ch.mk (Go.Ab.Ln.mk (Go.Ab.Ln.b (Go.Ab.Ch.ln ch2)) (Go.Ab.Ln.cr (Go.Ab.Ch.ln ch2)) (Go.Ab.Ln.code (Go.Ab.Ch.ln ch2))) (Go.Ab.Ch.pos ch2) (Go.Ab.Ch.left ch2) (Go.Ab.Ch.all ch2) (Go.Ab.Ch.tails ch2) (Go.Ab.Ch.code ch2))) Bool.true out2))),(.row .evt 32 (I.hid (α:=(List Go.Ab.Evt)) (zH out2)))]))) (by kernel_rfl) ?_
    simp only [zC]
    subst hI
    simp only [nrmA,nrmB,nrlB,reduceCtorEq,HO.abs.injEq,Gh.rq.injEq,Rq.mk.injEq]
    by_cases hi:i<b.length
    · have hg:=hgo hi
      have hn:=hrn hi
      (repeat' (first|refine And.intro ?_ ?_|intro _))<;>first|omega|exact True.intro|exact False.elim ‹False›|skip
      all_goals first|omega|exact hg|exact hn|contradiction|(have:=(b.getD i 0).toNat_lt;omega)|trace_state
    · have hg:=hend hi
      rw [← hg]
      have hon:=h3.on
      simp only at hon
      (repeat' (first|refine And.intro ?_ ?_|intro _))<;>first|omega|exact True.intro|exact False.elim ‹False›|skip
      all_goals first|omega|rfl|contradiction|exact⟨by omega,by omega⟩|trace_state
theorem zcm (ln:Ln) (p:Int) (m tg:Str) (hm:Int) (hf:List Fld) (hl le:Int) (ch:Ch) (out:List Evt) (b:Str) (hneed:rqN0 ⟨ln,p,⟨m,tg,hm,hf,hl⟩,le,some ch,false,out⟩ b):Spc Tryz.prog 9 [.v (.one (.ptr 0 0)),.v (.one (.p (.list .byte b)))] [.abs (.rq ⟨ln,p,⟨m,tg,hm,hf,hl⟩,le,some ch,false,out⟩)] (.ret (.v (.one (.row 1)))) [.abs (.rq ((zB ⟨ln,p,⟨m,tg,hm,hf,hl⟩,le,some ch,false,out⟩ b))),.row .evt 32 ((zH (zB ⟨ln,p,⟨m,tg,hm,hf,hl⟩,le,some ch,false,out⟩ b).out))]:=by
  obtain⟨n,hI0,hnb⟩:=hneed
  have hat:=QY hI0 b
  refine spcG zx mixed Tryz.func9 (by kernel_rfl) { cfgQ with fz:=[],keep:=some [0,1,4,6,10,11,12]} [xM,xK,xg,yZ] (by kernel_rfl) ?_
  intro I X hI hX
  refine zi (.code 0 [1,1,0,1,0] ⟨[(12,(.v (.one (.p (.int .i64 0))))),(11,(.v (.one (.p (.int .i64 (I.len (α:=UInt8) b)))))),(10,(.v (.one (.p (.list .byte b))))),(4,(.v (.one .nilS))),(0,(.v (.one (.ptr 0 0)))),(1,(.v (.one (.p (.list .byte b)))))],[(.obj 57 [(.ptr 1 0),(.p (.int .i64 p)),(.p (.str m)),(.p (.str tg)),(.p (.int .i64 hm)),(.p (.list .fld hf)),(.p (.int .i64 hl)),(.p (.int .i64 le)),(.ptr 2 0),.nilS]),(.pack [(.obj 82 [(.row 1),(.p (.bool (Go.Ab.Ln.cr ln))),(.p (.int .i64 (Go.Ab.Ln.code ln)))]),(.row .byte 5 (Go.Ab.Ln.b ln))]),(.pack [(.obj 98 [(.ptr 1 0),(.p (.int .i64 (Go.Ab.Ch.pos ch))),(.p (.int .i64 (Go.Ab.Ch.left ch))),(.p (.int .i64 (Go.Ab.Ch.all ch))),(.p (.int .i64 (Go.Ab.Ch.tails ch))),(.p (.int .i64 (Go.Ab.Ch.code ch)))]),(.pack [(.obj 82 [(.row 1),(.p (.bool (Go.Ab.Ln.cr (Go.Ab.Ch.ln ch)))),(.p (.int .i64 (Go.Ab.Ln.code (Go.Ab.Ch.ln ch))))]),(.row .byte 5 (Go.Ab.Ln.b (Go.Ab.Ch.ln ch)))])]),(.row .evt 32 out)],25,none⟩) (by kernel_rfl) ?_
  simp only [zC]
  have hr:({ (⟨ln,p,⟨m,tg,hm,hf,hl⟩,le,some ch,false,out⟩:Rq) with out:=[]}:Rq)=(⟨ln,p,⟨m,tg,hm,hf,hl⟩,le,some ch,false,[]⟩:Rq):=rfl
  unfold rqAt at hat
  unfold zB
  rw [hr] at hat ⊢
  refine yE hI zx mixed [xM,xK,xg,yZ] hX [0,1,10,11,12] (fun(g:Nat × Rq)=>match g with|(i,r)=>i≤b.length∧r=xA (⟨ln,p,⟨m,tg,hm,hf,hl⟩,le,some ch,false,[]⟩:Rq) (b.take i)∧RqI r (n+i)∧zN r.out≤i) (fun(g:Nat × Rq)=>match g with|(i,r)=>⟨[(0,.v (.one (.ptr 0 0))),(1,.v (.one (.p (.list .byte b)))),(10,.v (.one (.p (.list .byte b)))),(11,.v (.one (.p (.int .i64 ((I.len (α:=UInt8) b)))))),(12,.v (.one (.p (.int .i64 i))))],[.abs (.rq r)],25,none⟩) (fun(g:Nat × Rq)=>match g with|(i,r)=>b.length - i) (0,(⟨ln,p,⟨m,tg,hm,hf,hl⟩,le,some ch,false,[]⟩:Rq)) (by kernel_rfl) (by kernel_rfl) ?_ ?_
  · exact⟨Nat.zero_le _,rfl,hat.1,hat.2⟩
  rintro⟨i,⟨ln2,p2,⟨m2,t2,hm2,hf2,hl2⟩,le2,ck2,own2,out2⟩⟩ ⟨h1,h2,h3,h4⟩ A hA
  simp only at hA h1 h2 h3 h4
  have hrn:i<b.length→rqN _:=fun h=>⟨n+i,by omega,h3⟩
  have hgo:i<b.length→_:=fun h=>hA (i+1,rqF ⟨ln2,p2,⟨m2,t2,hm2,hf2,hl2⟩,le2,ck2,own2,out2⟩ (b.getD i 0)) ⟨by simp only;omega,by simp only;rw [Vk _ _ h,← h2],by simp only;exact SX h3 _,by simp only;have:=YX ⟨ln2,p2,⟨m2,t2,hm2,hf2,hl2⟩,le2,ck2,own2,out2⟩ (b.getD i 0);simp only at this;omega⟩ (by simp only;omega)
  have hend: ¬ i<b.length→_:=fun h=>h2.trans (by rw [List.take_of_length_le (by omega)])
  rcases ck2 with _|ch2<;>rcases own2 with _|_
  · have h0:=h1
    refine zi (let y0:=I.b2i (I.get (α:=UInt8) b 0 (Nat.cast i));let y1:=I.inb (Nat.cast i) (I.len (α:=UInt8) b);.br (I.ilt (Nat.cast i) (I.len (α:=UInt8) b)) (.need y1 (.need y1 (.need (I.hid (α:=(Prop)) (And (rqN (Go.Ab.Rq.mk ln2 p2 (Hd.mk m2 t2 hm2 hf2 hl2) le2 (Option.none) Bool.false out2)) (And (LE.le (0:Int) y0) (LE.le y0 (255:Int))))) (.need (I.inr Go.IntKind.i64 (I.add (Nat.cast i) 1)) (.need (A ⟨[(0,(.v (.one (.ptr 0 0)))),(1,(.v (.one (.p (.list .byte b))))),(10,(.v (.one (.p (.list .byte b))))),(11,(.v (.one (.p (.int .i64 (I.len (α:=UInt8) b)))))),(12,(.v (.one (.p (.int .i64 (I.add (Nat.cast i) 1))))))],[(.abs (.rq (I.hid (α:=Go.Ab.Rq) (rqF (Go.Ab.Rq.mk ln2 p2 (Hd.mk m2 t2 hm2 hf2 hl2) le2 (Option.none) Bool.false out2) (UInt8.ofNat (Int.toNat y0))))))],25,none⟩) .qed))))) (.need (I.hid (α:=(Prop)) (And (LE.le (zN out2) 1000000) (LE.le (List.length out2) 10000000))) (.fin (.ret (.v (.one (.row 1)))) [(.abs (.rq (Go.Ab.Rq.mk (Go.Ab.Ln.mk (Go.Ab.Ln.b ln2) (Go.Ab.Ln.cr ln2) (Go.Ab.Ln.code ln2)) p2 (Hd.mk m2 t2 hm2 hf2 hl2) le2 (Option.none) Bool.false out2))),(.row .evt 32 (I.hid (α:=(List Go.Ab.Evt)) (zH out2)))]))) (by kernel_rfl) ?_
    simp only [zC]
    subst hI
    simp only [nrmA,nrmB,nrlB,reduceCtorEq,HO.abs.injEq,Gh.rq.injEq,Rq.mk.injEq]
    by_cases hi:i<b.length
    · have hg:=hgo hi
      have hn:=hrn hi
      (repeat' (first|refine And.intro ?_ ?_|intro _))<;>first|omega|exact True.intro|exact False.elim ‹False›|skip
      all_goals first|omega|exact hg|exact hn|contradiction|(have:=(b.getD i 0).toNat_lt;omega)|trace_state
    · have hg:=hend hi
      rw [← hg]
      have hon:=h3.on
      simp only at hon
      (repeat' (first|refine And.intro ?_ ?_|intro _))<;>first|omega|exact True.intro|exact False.elim ‹False›|skip
      all_goals first|omega|rfl|contradiction|exact⟨by omega,by omega⟩|trace_state
  · have h0:=h1
    refine zi (let y0:=I.b2i (I.get (α:=UInt8) b 0 (Nat.cast i));let y1:=I.inb (Nat.cast i) (I.len (α:=UInt8) b);.br (I.ilt (Nat.cast i) (I.len (α:=UInt8) b)) (.need y1 (.need y1 (.need (I.hid (α:=(Prop)) (And (rqN (Go.Ab.Rq.mk ln2 p2 (Hd.mk m2 t2 hm2 hf2 hl2) le2 (Option.none) Bool.true out2)) (And (LE.le (0:Int) y0) (LE.le y0 (255:Int))))) (.need (I.inr Go.IntKind.i64 (I.add (Nat.cast i) 1)) (.need (A ⟨[(0,(.v (.one (.ptr 0 0)))),(1,(.v (.one (.p (.list .byte b))))),(10,(.v (.one (.p (.list .byte b))))),(11,(.v (.one (.p (.int .i64 (I.len (α:=UInt8) b)))))),(12,(.v (.one (.p (.int .i64 (I.add (Nat.cast i) 1))))))],[(.abs (.rq (I.hid (α:=Go.Ab.Rq) (rqF (Go.Ab.Rq.mk ln2 p2 (Hd.mk m2 t2 hm2 hf2 hl2) le2 (Option.none) Bool.true out2) (UInt8.ofNat (Int.toNat y0))))))],25,none⟩) .qed))))) (.need (I.hid (α:=(Prop)) (And (LE.le (zN out2) 1000000) (LE.le (List.length out2) 10000000))) (.fin (.ret (.v (.one (.row 1)))) [(.abs (.rq (Go.Ab.Rq.mk (Go.Ab.Ln.mk (Go.Ab.Ln.b ln2) (Go.Ab.Ln.cr ln2) (Go.Ab.Ln.code ln2)) p2 (Hd.mk m2 t2 hm2 hf2 hl2) le2 (Option.none) Bool.true out2))),(.row .evt 32 (I.hid (α:=(List Go.Ab.Evt)) (zH out2)))]))) (by kernel_rfl) ?_
    simp only [zC]
    subst hI
    simp only [nrmA,nrmB,nrlB,reduceCtorEq,HO.abs.injEq,Gh.rq.injEq,Rq.mk.injEq]
    by_cases hi:i<b.length
    · have hg:=hgo hi
      have hn:=hrn hi
      (repeat' (first|refine And.intro ?_ ?_|intro _))<;>first|omega|exact True.intro|exact False.elim ‹False›|skip
      all_goals first|omega|exact hg|exact hn|contradiction|(have:=(b.getD i 0).toNat_lt;omega)|trace_state
    · have hg:=hend hi
      rw [← hg]
      have hon:=h3.on
      simp only at hon
      (repeat' (first|refine And.intro ?_ ?_|intro _))<;>first|omega|exact True.intro|exact False.elim ‹False›|skip
      all_goals first|omega|rfl|contradiction|exact⟨by omega,by omega⟩|trace_state
  · have h0:=h1
    refine zi (let y0:=I.b2i (I.get (α:=UInt8) b 0 (Nat.cast i));let y1:=I.inb (Nat.cast i) (I.len (α:=UInt8) b);.br (I.ilt (Nat.cast i) (I.len (α:=UInt8) b)) (.need y1 (.need y1 (.need (I.hid (α:=(Prop)) (And (rqN (Go.Ab.Rq.mk ln2 p2 (Hd.mk m2 t2 hm2 hf2 hl2) le2 (Option.some ch2) Bool.false out2)) (And (LE.le (0:Int) y0) (LE.le y0 (255:Int))))) (.need (I.inr Go.IntKind.i64 (I.add (Nat.cast i) 1)) (.need (A ⟨[(0,(.v (.one (.ptr 0 0)))),(1,(.v (.one (.p (.list .byte b))))),(10,(.v (.one (.p (.list .byte b))))),(11,(.v (.one (.p (.int .i64 (I.len (α:=UInt8) b)))))),(12,(.v (.one (.p (.int .i64 (I.add (Nat.cast i) 1))))))],[(.abs (.rq (I.hid (α:=Go.Ab.Rq) (rqF (Go.Ab.Rq.mk ln2 p2 (Hd.mk m2 t2 hm2 hf2 hl2) le2 (Option.some ch2) Bool.false out2) (UInt8.ofNat (Int.toNat y0))))))],25,none⟩) .qed))))) (.need (I.hid (α:=(Prop)) (And (LE.le (zN out2) 1000000) (LE.le (List.length out2) 10000000))) (.fin (.ret (.v (.one (.row 1)))) [(.abs (.rq (Go.Ab.Rq.mk (Go.Ab.Ln.mk (Go.Ab.Ln.b ln2) (Go.Ab.Ln.cr ln2) (Go.Ab.Ln.code ln2)) p2 (Hd.mk m2 t2 hm2 hf2 hl2) le2 (Option.some (Go.Ab.Ch.mk (Go.Ab.Ln.mk (Go.Ab.Ln.b (Go.Ab.Ch.ln ch2)) (Go.Ab.Ln.cr (Go.Ab.Ch.ln ch2)) (Go.Ab.Ln.code (Go.Ab.Ch.ln ch2))) (Go.Ab.Ch.pos ch2) (Go.Ab.Ch.left ch2) (Go.Ab.Ch.all ch2) (Go.Ab.Ch.tails ch2) (Go.Ab.Ch.code ch2))) Bool.false out2))),(.row .evt 32 (I.hid (α:=(List Go.Ab.Evt)) (zH out2)))]))) (by kernel_rfl) ?_
    simp only [zC]
    subst hI
    simp only [nrmA,nrmB,nrlB,reduceCtorEq,HO.abs.injEq,Gh.rq.injEq,Rq.mk.injEq]
    by_cases hi:i<b.length
    · have hg:=hgo hi
      have hn:=hrn hi
      (repeat' (first|refine And.intro ?_ ?_|intro _))<;>first|omega|exact True.intro|exact False.elim ‹False›|skip
      all_goals first|omega|exact hg|exact hn|contradiction|(have:=(b.getD i 0).toNat_lt;omega)|trace_state
    · have hg:=hend hi
      rw [← hg]
      have hon:=h3.on
      simp only at hon
      (repeat' (first|refine And.intro ?_ ?_|intro _))<;>first|omega|exact True.intro|exact False.elim ‹False›|skip
      all_goals first|omega|rfl|contradiction|exact⟨by omega,by omega⟩|trace_state
  · have h0:=h1
    refine zi (let y0:=I.b2i (I.get (α:=UInt8) b 0 (Nat.cast i));let y1:=I.inb (Nat.cast i) (I.len (α:=UInt8) b);.br (I.ilt (Nat.cast i) (I.len (α:=UInt8) b)) (.need y1 (.need y1 (.need (I.hid (α:=(Prop)) (And (rqN (Go.Ab.Rq.mk ln2 p2 (Hd.mk m2 t2 hm2 hf2 hl2) le2 (Option.some ch2) Bool.true out2)) (And (LE.le (0:Int) y0) (LE.le y0 (255:Int))))) (.need (I.inr Go.IntKind.i64 (I.add (Nat.cast i) 1)) (.need (A ⟨[(0,(.v (.one (.ptr 0 0)))),(1,(.v (.one (.p (.list .byte b))))),(10,(.v (.one (.p (.list .byte b))))),(11,(.v (.one (.p (.int .i64 (I.len (α:=UInt8) b)))))),(12,(.v (.one (.p (.int .i64 (I.add (Nat.cast i) 1))))))],[(.abs (.rq (I.hid (α:=Go.Ab.Rq) (rqF (Go.Ab.Rq.mk ln2 p2 (Hd.mk m2 t2 hm2 hf2 hl2) le2 (Option.some ch2) Bool.true out2) (UInt8.ofNat (Int.toNat y0))))))],25,none⟩) .qed))))) (.need (I.hid (α:=(Prop)) (And (LE.le (zN out2) 1000000) (LE.le (List.length out2) 10000000))) (.fin (.ret (.v (.one (.row 1)))) [(.abs (.rq (Go.Ab.Rq.mk (Go.Ab.Ln.mk (Go.Ab.Ln.b ln2) (Go.Ab.Ln.cr ln2) (Go.Ab.Ln.code ln2)) p2 (Hd.mk m2 t2 hm2 hf2 hl2) le2 (Option.some (Go.Ab.Ch.mk (Go.Ab.Ln.mk (Go.Ab.Ln.b (Go.Ab.Ch.ln ch2)) (Go.Ab.Ln.cr (Go.Ab.Ch.ln ch2)) (Go.Ab.Ln.code (Go.Ab.Ch.ln ch2))) (Go.Ab.Ch.pos ch2) (Go.Ab.Ch.left ch2) (Go.Ab.Ch.all ch2) (Go.Ab.Ch.tails ch2) (Go.Ab.Ch.code ch2))) Bool.true out2))),(.row .evt 32 (I.hid (α:=(List Go.Ab.Evt)) (zH out2)))]))) (by kernel_rfl) ?_
    simp only [zC]
    subst hI
    simp only [nrmA,nrmB,nrlB,reduceCtorEq,HO.abs.injEq,Gh.rq.injEq,Rq.mk.injEq]
    by_cases hi:i<b.length
    · have hg:=hgo hi
      have hn:=hrn hi
      (repeat' (first|refine And.intro ?_ ?_|intro _))<;>first|omega|exact True.intro|exact False.elim ‹False›|skip
      all_goals first|omega|exact hg|exact hn|contradiction|(have:=(b.getD i 0).toNat_lt;omega)|trace_state
    · have hg:=hend hi
      rw [← hg]
      have hon:=h3.on
      simp only at hon
      (repeat' (first|refine And.intro ?_ ?_|intro _))<;>first|omega|exact True.intro|exact False.elim ‹False›|skip
      all_goals first|omega|rfl|contradiction|exact⟨by omega,by omega⟩|trace_state
theorem zfx (q:Rq) (b:Str) (hneed:rqN0 q b):Spc Tryz.prog 9 [.v (.one (.ptr 0 0)),.v (.one (.p (.list .byte b)))] [.abs (.rq q)] (.ret (.v (.one (.row 1)))) [.abs (.rq ((zB q b))),.row .evt 32 ((zH (zB q b).out))]:=by
  obtain⟨ln,p,⟨m,tg,hm,hf,hl⟩,le,ck,own,out⟩:=q
  cases ck with
  | none=>cases own with
    |true=>exact zcn ln p m tg hm hf hl le out b hneed
    |false=>exact zco ln p m tg hm hf hl le out b hneed
  | some ch=>cases own with
    |true=>exact zcl ln p m tg hm hf hl le ch out b hneed
    |false=>exact zcm ln p m tg hm hf hl le ch out b hneed
def qA (I:Alg) (args:List D) (hp:List HO):Option CT:=match args,hp with
  |[.v (.one (.ptr 0 0)),.v (.one (.p (.list .byte b)))],[.abs (.rq q)]=>(fun(q:Rq) (b:Str)=>(some (.one ⟨I.hid (rqN0 q b),(.ret (.v (.one (.row 1)))),[.abs (.rq (I.hid ((zB q b)))),.row .evt 32 (I.hid ((zH (zB q b).out)))]⟩):Option CT)) q b
  |_,_=>none
theorem UB:zI Tryz.prog 9 (qA alg):=by
  intro args hp r h
  unfold qA at h
  split at h
  · cases h;exact fun hn=>zfx _ _ hn
  · cases h
def YW:Know Tryz.prog:=⟨9,qA,UB⟩
def YV:Know Tryz.prog:=⟨9,fun I=>zL I (qA I),zf UB⟩
end Go.Proofs.YtmibhbdfigpkmaaGreatDoor
namespace Go.Proofs.YtmibhbdfigpkmaaGreatDoor
open Go Go.Sep Go.Ab
set_option maxRecDepth 100000
def EvO (l:List Evt):Prop:=∀ e ∈ l,FsOk e.head.fields
theorem rW {a b:List Evt} (h:EvO a) (k:EvO b):EvO (a++b):=fun e m=>(List.mem_append.1 m).elim (h e) (k e)
theorem VD:FsOk []:=⟨by decide,fun f h=>by cases h⟩
theorem XA {e:Evt} (h:FsOk e.head.fields):EvO [e]:=fun x m=>by rw [List.mem_singleton.1 m];exact h
theorem zds {o:List Evt} {e:Evt} (h:EvO (o++[e])):EvO (xO o e):=by
  rcases List.eq_nil_or_concat o with rfl|⟨z,x,rfl⟩
  · exact h
  · rw [List.concat_eq_append] at h ⊢
    rw [yQ]
    split
    · exact rW (fun y m=>h y (by simp [m])) (XA VD)
    · exact h
theorem VL: ∀ (l o:List Evt),EvO (o++l)→EvO (l.foldl xO o)
  |[],o,h=>by rw [List.append_nil] at h;exact h
  | e::l,o,h=>by
    rw [List.foldl_cons]
    refine VL l _ ?_
    rw [show o++e::l=(o++[e])++l by simp] at h
    exact rW (zds fun y m=>h y (List.mem_append_left _ m)) (fun y m=>h y (List.mem_append_right _ m))
theorem zes {q:Rq} (h:EvO q.out) (k:FsOk q.h.fields):EvO (zT q).1.out:=by
  unfold zT yU
  repeat' split
  all_goals first
    |exact h
    |exact rW (rW h (XA k)) (XA VD)
    |exact rW h (XA k)
theorem zej {q:Rq} (h:EvO q.out) (k:FsOk q.h.fields) (s:Str):EvO (zF q s).1.out:=by
  have hd:=zes h k
  unfold zF
  repeat' split
  all_goals first|exact hd|exact h
theorem zhc {q:Rq} (h:EvO q.out) (k:FsOk q.h.fields) (c:UInt8):EvO (rqF q c).out:=by
  have hl:=zej (q:= { q with ln:=(lnF q.ln c).1}) h k (lnF q.ln c).2.1
  have h1: ∀ (o:List Evt) (e:Evt),EvO o→e.head=hd0→EvO (o++[e]):=fun o e a b=>rW a (XA (by rw [b];exact VD))
  have hd:EvO (if(chF (ckOf q) c).2.1≠[] then q.out++[evB (chF (ckOf q) c).2.1] else q.out):=by
    split
    · exact h1 _ _ h rfl
    · exact h
  unfold rqF
  split
  · split
    · exact h1 _ _ (h1 _ _ h rfl) rfl
    · exact h1 _ _ h rfl
  split
  · split
    · exact h1 _ _ h rfl
    split
    · exact h1 _ _ hd rfl
    · exact hd
  split
  · split
    · exact h1 _ _ h rfl
    split
    · split
      · exact h1 _ _ hl rfl
      · exact hl
    · exact h
  · exact h
theorem SS: ∀ (b:Str) (q:Rq) (i:Nat),RqI q i→i+b.length≤1000000→EvO q.out→EvO (xA q b).out
  |[],q,i,_,_,h=>h
  | c::b,q,i,hi,hb,h=>by
    rw [List.length_cons] at hb
    exact SS b _ (i+1) (SX hi c) (by omega) (zhc h ⟨by have:=hi.fl;omega,fun f m=>by have:=hi.ff f m;omega⟩ c)
theorem zen {b:Str} (h:b.length≤1000000):EvO (zH (zB rq0 b).out):=VL _ [] (SS b _ 0 zck (by omega) (fun e m=>by cases m))
theorem zem {b:Str} (h:b.length≤1000000):(zH (zB rq0 b).out).length≤4000000:=by
  have h1:=qW (zB rq0 b).out
  have h2: ∀ (b:Str) (q:Rq) (i:Nat),RqI q i→RqI (xA q b) (i+b.length):=by
    intro b
    induction b with
    |nil=>intro q i h;exact h
    |cons c b ih=>intro q i h;have:=ih _ _ (SX h c);rw [List.length_cons,show i+(b.length+1)=i+1+b.length by omega];exact this
  have h3:=(h2 b rq0 0 zck).on
  have h4:(zB rq0 b).out=(xA rq0 b).out:=rfl
  rw [← h4] at h3
  omega
end Go.Proofs.YtmibhbdfigpkmaaGreatDoor
namespace Go.Proofs.YtmibhbdfigpkmaaGreatDoor
open Go Go.Sep Go.Ab
def badF:List Fld→Int
  |[]=>0
  |f::l=>if(textF f).2=0 then badF l else(textF f).2
def uw:List Fld→Str
  |[]=>[]
  |f::l=>(textF f).1++[13,10]++uw l
theorem zdm (a b:List Fld):uw (a++b)=uw a++uw b:=by
  induction a with
  |nil=>rfl
  |cons f l ih=>simp only [List.cons_append,uw,ih,List.append_assoc]
def zfo (n:Int):Str:=[67,111,110,116,101,110,116,45,76,101,110,103,116,104,58,32]++decS n++[13,10,13,10]
theorem Ue (f:Fld):(textF f).1.length≤200:=by
  unfold textF
  split
  · simp
  split
  · simp
  split
  · simp
  · simp only [List.length_append,List.length_cons,List.length_nil];omega
theorem TL: ∀ l:List Fld,(uw l).length≤202 * l.length
  |[]=>by simp [uw]
  | f::l=>by
    have:=Ue f
    have:=TL l
    simp only [uw,List.length_append,List.length_cons,List.length_nil];omega
end Go.Proofs.YtmibhbdfigpkmaaGreatDoor
namespace Go.Proofs.YtmibhbdfigpkmaaGreatDoor
open Go Go.Sep Go.Ab
set_option maxRecDepth 100000
theorem zdN {fs:List Fld} {i:Nat} (h:i<fs.length):badF (fs.drop i)=if(textF (fs.getD i ⟨[],[]⟩)).2=0 then badF (fs.drop (i+1)) else(textF (fs.getD i ⟨[],[]⟩)).2:=by
  rw [List.drop_eq_getElem_cons h,badF];simp [h]
theorem zbE {fs:List Fld} {i:Nat} (h:i<fs.length):uw (fs.take (i+1))=uw (fs.take i)++(textF (fs.getD i ⟨[],[]⟩)).1++[13,10]:=by
  rw [List.take_succ_eq_append_getElem h,zdm];simp [uw,h]
end Go.Proofs.YtmibhbdfigpkmaaGreatDoor
namespace Go.Proofs.YtmibhbdfigpkmaaGreatDoor
open Go Go.Sep Go.Ab
set_option maxRecDepth 100000
theorem zfi (w:World):(zeroValue 107).run Tryz.prog w=.ok (.agg (Array.replicate 256 (.bool false))) w:=by
  kernel_rfl
def ascii (s:Str):Prop:=∀ c ∈ s,c.toNat<128
theorem zaW {s:Str} (h:ascii s): ∀ (j:Nat) b,s[j]? =some b→b.toNat<128:=fun j b e=>h b (List.mem_of_getElem? e)
theorem TU (s p:Str) (hneed:(ascii s∧s.length≤1000000)∧ascii p∧p.length≤1000000):Spc Tryz.prog 34 [.v (.one (.p (.str s))),.v (.one (.p (.str p)))] [] (.ret (.v (.one (.p (.bool (Lib.containsAny s p)))))) []:=by
  refine Spc.of_below ⟨_,Tryz.func34,by kernel_rfl,by kernel_rfl⟩ fun S bs w vs _ hM=> ?_
  obtain⟨v,r,rfl⟩: ∃ v r,vs=v::r:=by cases vs with|nil=>exact hM.elim|cons v r=>exact⟨v,r,rfl⟩
  obtain⟨h1,hM⟩:=hM
  obtain⟨v2,r2,rfl⟩: ∃ v r2,r=v::r2:=by cases r with|nil=>exact hM.elim|cons v r=>exact⟨v,r,rfl⟩
  obtain⟨h2,hM⟩:=hM
  obtain rfl:r2=[]:=by cases r2 with|nil=>rfl|cons v r=>exact hM.elim
  obtain⟨⟨g1,g2⟩,g3,g4⟩:=hneed
  cases h1 with
  | str _ hl1=>
    cases h2 with
    | str _ hl2=>
      refine⟨.bool (Lib.containsAny s p),.bool _,(Tryz.strings_ContainsAny zfi (Sep.S s) (Sep.S p) w (by show s.length<_;omega) (by show p.length<_;omega) (zaW g1) (zaW g3)).mono fun e w' h=> ?_⟩
      exact⟨h.1,h.2⟩
def xJ (I:Alg) (args:List D) (hp:List HO):Option CT:=match args,hp with
  |[.v (.one (.p (.str s))),.v (.one (.p (.str p)))],[]=>(fun(s p:Str)=>(some (.one ⟨I.hid ((ascii s∧s.length≤1000000)∧ascii p∧p.length≤1000000),(.ret (.v (.one (.p (.bool (I.hid (Lib.containsAny s p))))))),[]⟩):Option CT)) s p
  |_,_=>none
theorem rH:zI Tryz.prog 34 (xJ alg):=by
  intro args hp r h
  unfold xJ at h
  split at h
  · cases h;exact fun hn=>TU _ _ hn
  · cases h
def rG:Know Tryz.prog:=⟨34,xJ,rH⟩
def rF:Know Tryz.prog:=⟨34,fun I=>zL I (xJ I),zf rH⟩
def rqHd (m t:Str):Str:=m++[32]++t++[32,72,84,84,80,47,49,46,49]
def rqwC (m t:Str) (fs:List Fld) (b:Str):Int:=
  if xX m=false then 6
  else if Lib.hasPrefix t [47]=false then 5
  else if Lib.containsAny t [32,9]=true then 5
  else if uD t=false then 5
  else if 200<(rqHd m t).length then 4
  else if 4000<b.length then 4
  else if 15<fs.length then 8
  else if 0<(valsF fs uV).length+(valsF fs Vd).length then 12
  else if(oneF (valsF fs Ye)).2≠0 then 13
  else badF fs
def rqwT (m t:Str) (fs:List Fld) (b:Str):Str:=
  if rqwC m t fs b=0 then rqHd m t++[13,10]++uw fs++zfo b.length++b else []
theorem zei (m t:Str) (mi:Int) (fs:List Fld) (le:Int) (b:Str) (hneed:(m.length≤1000000∧t.length≤1000000∧ascii t)∧(fs.length≤1000∧∀ f ∈ fs,f.name.length≤1000000∧f.value.length≤1000000)∧b.length≤1000000):Spc Tryz.prog 14 [.v (.agg [(.p (.str m)),(.p (.str t)),(.p (.int .i64 mi)),(.p (.list .fld fs)),(.p (.int .i64 le))]),.v (.one (.p (.list .byte b)))] [] (.ret (.tup [(.one (.p (.list .byte ((rqwT m t fs b))))),(.one (.p (.int .i64 ((rqwC m t fs b)))))])) []:=by
  obtain⟨⟨hm1,ht1,ht2⟩,⟨hfl,hf⟩,hb⟩:=hneed
  generalize hc:rqwC m t fs b=c
  generalize ht:rqwT m t fs b=T
  have hbl:=zaK (b.length:Int)
  have ha:ascii [32,9]:=by unfold ascii;decide
  have hx0:=rZ fs uV
  have hx1:=rZ fs Vd
  refine spcG zx mixed Tryz.func14 (by kernel_rfl) { rl:=[0],keep:=some [0,1,2,4,5,6,8,9,11,12,13,79,80,81]} [wB,wz,wU,wS,zbX,zbW,Xy,Xx,VH,VG,zc4,zc3,wZ,wY,rG,rF] (by kernel_rfl) ?_
  intro I X hI hX
  refine zi (let y4:=([99,111,110,116,101,110,116,45,108,101,110,103,116,104]:Str);let y3:=([116,114,97,110,115,102,101,114,45,101,110,99,111,100,105,110,103]:Str);let y0:=I.add (I.len (α:=Str) (I.hid (α:=(List (Str))) (valsF fs y4))) (I.len (α:=Str) (I.hid (α:=(List (Str))) (valsF fs y3)));let y1:=([32,72,84,84,80,47,49,46,49]:Str);let y2:=I.len (α:=UInt8) (I.app (α:=UInt8) (I.app (α:=UInt8) (I.app (α:=UInt8) m ([32]:Str)) t) y1);let y5:=I.hid (α:=Int) (Prod.snd (oneF (valsF fs ([104,111,115,116]:Str))));.need (I.few (I.add (I.len (α:=UInt8) m) (I.len (α:=UInt8) ([32]:Str))) 1000000000) (.need (I.few (I.add (I.len (α:=UInt8) (I.app (α:=UInt8) m ([32]:Str))) (I.len (α:=UInt8) t)) 1000000000) (.need (I.few (I.add (I.len (α:=UInt8) (I.app (α:=UInt8) (I.app (α:=UInt8) m ([32]:Str)) t)) (I.len (α:=UInt8) y1)) 1000000000) (.need (I.hid (α:=(Prop)) (LE.le (List.length m) 1000000)) (.br (I.bnot (I.hid (α:=Bool) (xX m))) (.fin (.ret (.tup [(.one (.p (.list .byte ([]:Str)))),(.one (.p (.int .i64 6)))])) []) (.need (I.hid (α:=(Prop)) True) (.br (I.bnot (I.hid (α:=Bool) (Go.Lib.hasPrefix t ([47]:Str)))) (.fin (.ret (.tup [(.one (.p (.list .byte ([]:Str)))),(.one (.p (.int .i64 5)))])) []) (.need (I.hid (α:=(Prop)) (And (And (ascii t) (LE.le (List.length t) 1000000)) (And (ascii ([32,9]:Str)) (LE.le (List.length ([32,9]:Str)) 1000000)))) (.br (I.hid (α:=Bool) (Go.Lib.containsAny t ([32,9]:Str))) (.fin (.ret (.tup [(.one (.p (.list .byte ([]:Str)))),(.one (.p (.int .i64 5)))])) []) (.need (I.hid (α:=(Prop)) (LE.le (List.length t) 1000000)) (.br (I.bnot (I.hid (α:=Bool) (uD t))) (.fin (.ret (.tup [(.one (.p (.list .byte ([]:Str)))),(.one (.p (.int .i64 5)))])) []) (.br (I.ilt 200 y2) (.fin (.ret (.tup [(.one (.p (.list .byte ([]:Str)))),(.one (.p (.int .i64 4)))])) []) (.br (I.ilt 4000 (I.len (α:=UInt8) b)) (.fin (.ret (.tup [(.one (.p (.list .byte ([]:Str)))),(.one (.p (.int .i64 4)))])) []) (.br (I.ilt 15 (I.len (α:=Fld) fs)) (.fin (.ret (.tup [(.one (.p (.list .byte ([]:Str)))),(.one (.p (.int .i64 8)))])) []) (.need (I.hid (α:=(Prop)) (And (LE.le (List.length fs) 1000) (And (LE.le (List.length y4) 1000000) (∀ (f:Fld),f ∈ fs→List.length f.name≤1000000∧List.length f.value≤1000000)))) (.need (I.hid (α:=(Prop)) (And (LE.le (List.length fs) 1000) (And (LE.le (List.length y3) 1000000) (∀ (f:Fld),f ∈ fs→List.length f.name≤1000000∧List.length f.value≤1000000)))) (.need (I.inr Go.IntKind.i64 y0) (.br (I.ilt 0 y0) (.fin (.ret (.tup [(.one (.p (.list .byte ([]:Str)))),(.one (.p (.int .i64 12)))])) []) (.need (I.hid (α:=(Prop)) (And (LE.le (List.length fs) 1000) (And (LE.le (List.length ([104,111,115,116]:Str)) 1000000) (∀ (f:Fld),f ∈ fs→List.length f.name≤1000000∧List.length f.value≤1000000)))) (.br (I.bnot (I.ieq y5 0)) (.fin (.ret (.tup [(.one (.p (.list .byte ([]:Str)))),(.one (.p (.int .i64 13)))])) []) (.need (I.few (I.add y2 (I.len (α:=UInt8) ([13,10]:Str))) 1000000000) (.code 0 [1,1,1,1,1,0,1,0] ⟨[(81,(.v (.one (.p (.int .i64 0))))),(80,(.v (.one (.p (.int .i64 (I.len (α:=Fld) fs)))))),(79,(.v (.one (.p (.list .fld fs))))),(9,(.v (.one (.row 3)))),(8,(.v (.one (.p (.int .i64 y5))))),(6,(.v (.one (.p (.str (I.app (α:=UInt8) (I.app (α:=UInt8) (I.app (α:=UInt8) m ([32]:Str)) t) y1)))))),(5,(.v (.one (.p (.int .i64 0))))),(4,(.v (.one .nilS))),(2,(.v (.one (.ptr 0 0)))),(0,(.v (.agg [(.p (.str m)),(.p (.str t)),(.p (.int .i64 mi)),(.p (.list .fld fs)),(.p (.int .i64 le))]))),(1,(.v (.one (.p (.list .byte b)))))],[(.obj 25 [(.p (.str m)),(.p (.str t)),(.p (.int .i64 mi)),(.p (.list .fld fs)),(.p (.int .i64 le))]),(.row .str 9 (I.hid (α:=(List (Str))) (valsF fs y4))),(.row .str 9 (I.hid (α:=(List (Str))) (valsF fs y3))),(.row .byte 5 (I.app (α:=UInt8) (I.app (α:=UInt8) (I.app (α:=UInt8) (I.app (α:=UInt8) m ([32]:Str)) t) y1) ([13,10]:Str)))],108,none⟩)))))))))))))))))))))) (by kernel_rfl) ?_
  simp only [zC]
  rw [show([99,111,110,116,101,110,116,45,108,101,110,103,116,104]:Str)=uV from rfl,show([116,114,97,110,115,102,101,114,45,101,110,99,111,100,105,110,103]:Str)=Vd from rfl,show([104,111,115,116]:Str)=Ye from rfl]
  have hk1:uV.length≤1000000:=by decide
  have hk2:Vd.length≤1000000:=by decide
  have hk3:Ye.length≤1000000:=by decide
  (repeat' (first|refine And.intro ?_ ?_|intro _))
  all_goals try(subst hI;(simp only [nrmA,nrmB,nrlB,reduceCtorEq] at *);first|done|trivial|omega|exact⟨ht1,ht2⟩|exact⟨⟨ht2,ht1⟩,ha,by decide⟩|exact⟨hfl,by assumption,hf⟩|(simp only [List.length_append,List.length_cons,List.length_nil];omega)|(unfold rqwT at ht;unfold rqwC rqHd at ht hc;((repeat(first|rewrite [if_pos (by first|omega|assumption|(simp only [*,or_self,or_true,true_or,or_false,false_or,not_true_eq_false,not_false_eq_true,Bool.false_eq_true,Bool.true_eq_false,and_self,and_true,true_and];done)|(simp only [*];omega)|(simp [*];done)|(simp [*];omega))] at hc|rewrite [if_neg (by first|omega|assumption|(simp only [*,or_self,or_true,true_or,or_false,false_or,not_true_eq_false,not_false_eq_true,Bool.false_eq_true,Bool.true_eq_false,and_self,and_true,true_and];done)|(simp only [*];omega)|(simp [*];done)|(simp [*];omega))] at hc)));subst hc;((repeat(first|rewrite [if_pos (by first|omega|assumption|(simp only [*,or_self,or_true,true_or,or_false,false_or,not_true_eq_false,not_false_eq_true,Bool.false_eq_true,Bool.true_eq_false,and_self,and_true,true_and];done)|(simp only [*];omega)|(simp [*];done)|(simp [*];omega))] at ht|rewrite [if_neg (by first|omega|assumption|(simp only [*,or_self,or_true,true_or,or_false,false_or,not_true_eq_false,not_false_eq_true,Bool.false_eq_true,Bool.true_eq_false,and_self,and_true,true_and];done)|(simp only [*];omega)|(simp [*];done)|(simp [*];omega))] at ht)));subst ht;exact⟨rfl,rfl⟩))
  have hok:xX m=true∧Lib.hasPrefix t [47]=true∧Lib.containsAny t [32,9]=false∧uD t=true∧(rqHd m t).length≤200∧b.length≤4000∧fs.length≤15∧(valsF fs uV).length+(valsF fs Vd).length=0∧(oneF (valsF fs Ye)).2=0:=by
    subst hI
    unfold rqHd
    simp only [nrmA,nrmB,nrlB,reduceCtorEq] at *
    exact⟨by simpa using ‹xX m=_›,by simpa using ‹Lib.hasPrefix t [47]=_›,by simpa using ‹Lib.containsAny t [32,9]=_›,by simpa using ‹uD t=_›,by omega,by omega,by omega,by omega,by assumption⟩
  obtain⟨k1,k2,k3,k4,k5,k6,k7,k8,k9⟩:=hok
  have hc2:c=badF fs:=by
    rw [← hc,rqwC,if_neg (by rw [k1];simp),if_neg (by rw [k2];simp),if_neg (by rw [k3];simp),if_neg (by rw [k4];simp),if_neg (by omega),if_neg (by omega),if_neg (by omega),if_neg (by omega),if_neg (fun h=>h k9)]
  have ht2:badF fs=0→T=rqHd m t++[13,10]++uw fs++zfo b.length++b:=fun h=>by
    rw [← ht,rqwT,hc,hc2,if_pos h]
  have ht3:badF fs≠0→T=[]:=fun h=>by rw [← ht,rqwT,hc,hc2,if_neg h]
  refine yE hI zx mixed [wB,wz,wU,wS,zbX,zbW,Xy,Xx,VH,VG,zc4,zc3,wZ,wY,rG,rF] hX [1,2,5,9,79,80,81] (fun(g:Nat × Str)=>match g with|(i,o)=>i≤fs.length∧o=rqHd m t++[13,10]++uw (fs.take i)∧badF fs=badF (fs.drop i)) (fun(g:Nat × Str)=>match g with|(i,o)=>⟨[(1,.v (.one (.p (.list .byte b)))),(2,.v (.one (.ptr 0 0))),(5,.v (.one (.p (.int .i64 0)))),(9,.v (.one (.row 1))),(79,.v (.one (.p (.list .fld fs)))),(80,.v (.one (.p (.int .i64 ((I.len (α:=Fld) fs)))))),(81,.v (.one (.p (.int .i64 i))))],[.pack [.obj 25 [(.p (.str m)),(.p (.str t)),(.p (.int .i64 mi)),(.p (.list .fld fs)),(.p (.int .i64 le))]],.row .byte 5 o],108,none⟩) (fun(g:Nat × Str)=>match g with|(i,o)=>fs.length - i) (0,I.app (I.app (I.app (I.app m [32]) t) [32,72,84,84,80,47,49,46,49]) [13,10]) (by kernel_rfl) (by kernel_rfl) ?_ ?_
  · refine⟨Nat.zero_le _,?_,rfl⟩
    subst hI
    simp only [rY,Qk,rqHd,List.take_zero,uw,List.append_nil]
  rintro⟨i,o⟩ ⟨h1,h2,h3⟩ A hA
  simp only at hA h1 h2 h3
  refine zi (let y0:=I.get (α:=Fld) fs (Fld.mk ([]:Str) ([]:Str)) (Nat.cast i);let y1:=([67,111,110,116,101,110,116,45,76,101,110,103,116,104,58,32]:Str);let y2:=I.hid (α:=Str) (decS (I.len (α:=UInt8) b));let y3:=I.hid (α:=Str) (Prod.fst (textF (Fld.mk (Fld.name y0) (Fld.value y0))));let y4:=I.hid (α:=Int) (Prod.snd (textF (Fld.mk (Fld.name y0) (Fld.value y0))));let y5:=I.inb (Nat.cast i) (I.len (α:=Fld) fs);.br (I.ilt (Nat.cast i) (I.len (α:=Fld) fs)) (.need y5 (.need y5 (.need (I.hid (α:=(Prop)) (And (LE.le (List.length (Fld.name y0)) 1000000) (LE.le (List.length (Fld.value y0)) 1000000))) (.br (I.bnot (I.ieq y4 0)) (.fin (.ret (.tup [(.one (.p (.list .byte ([]:Str)))),(.one (.p (.int .i64 y4)))])) []) (.need (I.few (I.add (I.len (α:=UInt8) y3) (I.len (α:=UInt8) ([13,10]:Str))) 1000000000) (.need (I.few (I.add (I.len (α:=UInt8) o) (I.len (α:=UInt8) (I.app (α:=UInt8) y3 ([13,10]:Str)))) 140737488355328) (.need (I.inr Go.IntKind.i64 (I.add (Nat.cast i) 1)) (.need (A ⟨[(1,(.v (.one (.p (.list .byte b))))),(2,(.v (.one (.ptr 0 0)))),(5,(.v (.one (.p (.int .i64 0))))),(9,(.v (.one (.row 1)))),(79,(.v (.one (.p (.list .fld fs))))),(80,(.v (.one (.p (.int .i64 (I.len (α:=Fld) fs)))))),(81,(.v (.one (.p (.int .i64 (I.add (Nat.cast i) 1))))))],[(.pack [(.obj 25 [(.p (.str m)),(.p (.str t)),(.p (.int .i64 mi)),(.p (.list .fld fs)),(.p (.int .i64 le))])]),(.row .byte 5 (I.app (α:=UInt8) o (I.app (α:=UInt8) y3 ([13,10]:Str))))],108,none⟩) .qed)))))))) (.need (I.hid (α:=(Prop)) (And (LE.le (0:Int) (I.len (α:=UInt8) b)) (LT.lt (I.len (α:=UInt8) b) (1000000000:Int)))) (.need (I.few (I.add (I.len (α:=UInt8) y1) (I.len (α:=UInt8) y2)) 1000000000) (.need (I.few (I.add (I.len (α:=UInt8) (I.app (α:=UInt8) y1 y2)) (I.len (α:=UInt8) ([13,10,13,10]:Str))) 1000000000) (.need (I.few (I.add (I.len (α:=UInt8) o) (I.len (α:=UInt8) (I.app (α:=UInt8) (I.app (α:=UInt8) y1 y2) ([13,10,13,10]:Str)))) 140737488355328) (.need (I.few (I.add (I.len (α:=UInt8) (I.app (α:=UInt8) o (I.app (α:=UInt8) (I.app (α:=UInt8) y1 y2) ([13,10,13,10]:Str)))) (I.len (α:=UInt8) b)) 140737488355328) (.fin (.ret (.tup [(.one (.p (.list .byte (I.app (α:=UInt8) (I.app (α:=UInt8) o (I.app (α:=UInt8) (I.app (α:=UInt8) y1 y2) ([13,10,13,10]:Str))) b)))),(.one (.p (.int .i64 0)))])) []))))))) (by kernel_rfl) ?_
  simp only [zC]
  subst hI
  simp only [nrmA,nrmB,nrlB,reduceCtorEq]
  have hx:i<fs.length→(fs.getD i ⟨[],[]⟩) ∈ fs:=fun h=>by rw [show fs.getD i ⟨[],[]⟩=fs[i] by simp [h]];exact List.getElem_mem h
  have hd:i<fs.length→_:=fun h=>zdN (fs:=fs) (i:=i) h
  have hk:i<fs.length→_:=fun h=>zbE (fs:=fs) (i:=i) h
  have hol:(uw (fs.take i)).length≤202 * 16:=by
    have:=TL (fs.take i)
    rw [List.length_take] at this
    omega
  have hol2:o.length≤4000:=by rw [h2,List.length_append,List.length_append,List.length_cons,List.length_cons,List.length_nil];omega
  have hend: ¬ i<fs.length→badF fs=0∧uw (fs.take i)=uw fs:=fun h=>by
    rw [h3,List.drop_of_length_le (by omega),List.take_of_length_le (by omega)];exact⟨rfl,rfl⟩
  have hfi:=fun h=>hf _ (hx h)
  have htl:=fun f=>Ue f
  generalize fs.getD i ⟨[],[]⟩=x at *
  have e0:(⟨x.name,x.value⟩:Fld)=x:=rfl
  rw [e0]
  have htl:=htl x
  refine⟨fun c1=>⟨⟨by omega,by omega⟩,⟨by omega,by omega⟩,hfi (by omega),fun c2=> ?_,fun c2=>⟨?_,?_,by omega,?_⟩⟩,fun c1=> ?_⟩
  · have hd:=hd (by omega)
    rw [if_neg c2] at hd
    exact⟨(ht3 (by rw [h3,hd];exact c2)).symm,by rw [hc2,h3,hd]⟩
  · simp only [List.length_cons,List.length_nil];omega
  · simp only [List.length_append,List.length_cons,List.length_nil];omega
  · have hd:=hd (by omega)
    rw [if_pos c2] at hd
    exact hA (i+1,o++((textF x).1++[13,10])) ⟨by simp only;omega,by simp only;rw [hk (by omega),h2];simp only [List.append_assoc],by simp only;rw [h3,hd]⟩ (by simp only;omega)
  · obtain⟨e1,e2⟩:=hend (by omega)
    simp only [List.length_append,List.length_cons,List.length_nil]
    refine⟨by omega,by omega,by omega,by omega,by omega,?_,by rw [hc2,e1]⟩
    rw [ht2 e1,h2,e2]
    unfold zfo
    simp only [List.append_assoc]
def tC (I:Alg) (args:List D) (hp:List HO):Option CT:=match args,hp with
  |[.v (.agg [(.p (.str m)),(.p (.str t)),(.p (.int .i64 mi)),(.p (.list .fld fs)),(.p (.int .i64 le))]),.v (.one (.p (.list .byte b)))],[]=>(fun(m t:Str) (mi:Int) (fs:List Fld) (le:Int) (b:Str)=>(some (.one ⟨I.hid ((m.length≤1000000∧t.length≤1000000∧ascii t)∧(fs.length≤1000∧∀ f ∈ fs,f.name.length≤1000000∧f.value.length≤1000000)∧b.length≤1000000),(.ret (.tup [(.one (.p (.list .byte (I.hid ((rqwT m t fs b)))))),(.one (.p (.int .i64 (I.hid ((rqwC m t fs b))))))])),[]⟩):Option CT)) m t mi fs le b
  |_,_=>none
theorem X3:zI Tryz.prog 14 (tC alg):=by
  intro args hp r h
  unfold tC at h
  split at h
  · cases h;exact fun hn=>zei _ _ _ _ _ _ hn
  · cases h
def zbc:Know Tryz.prog:=⟨14,tC,X3⟩
def zbb:Know Tryz.prog:=⟨14,fun I=>zL I (tC I),zf X3⟩
end Go.Proofs.YtmibhbdfigpkmaaGreatDoor
namespace Go.Proofs.YtmibhbdfigpkmaaGreatDoor
open Go Go.Sep Go.Ab
set_option maxRecDepth 100000
theorem zeu:Spc Tryz.prog 6 [] [] (.ret (.v (.one (.p (.bool true))))) []:=by
  refine spcG zx mixed Tryz.func6 (by kernel_rfl) { cfgQ with fz:=[14,9],keep:=some [0,1,2,3,4]} [Vm,Vl,Y0,YZ,YW,YV,zbc,zbb] (by kernel_rfl) ?_
  intro I X hI hX
  refine zi (.need (I.hid (α:=(Prop)) True) (.need (I.inr Go.IntKind.u8 71) (.need (I.inr Go.IntKind.u8 69) (.need (I.inr Go.IntKind.u8 84) (.need (I.inr Go.IntKind.u8 32) (.need (I.inr Go.IntKind.u8 47) (.need (I.inr Go.IntKind.u8 120) (.need (I.inr Go.IntKind.u8 32) (.need (I.inr Go.IntKind.u8 72) (.need (I.inr Go.IntKind.u8 84) (.need (I.inr Go.IntKind.u8 84) (.need (I.inr Go.IntKind.u8 80) (.need (I.inr Go.IntKind.u8 47) (.need (I.inr Go.IntKind.u8 49) (.need (I.inr Go.IntKind.u8 46) (.need (I.inr Go.IntKind.u8 49) (.need (I.inr Go.IntKind.u8 13) (.need (I.inr Go.IntKind.u8 10) (.need (I.inr Go.IntKind.u8 72) (.need (I.inr Go.IntKind.u8 111) (.need (I.inr Go.IntKind.u8 115) (.need (I.inr Go.IntKind.u8 116) (.need (I.inr Go.IntKind.u8 58) (.need (I.inr Go.IntKind.u8 32) (.need (I.inr Go.IntKind.u8 97) (.need (I.inr Go.IntKind.u8 13) (.need (I.inr Go.IntKind.u8 10) (.need (I.inr Go.IntKind.u8 13) (.need (I.inr Go.IntKind.u8 10) (.need (I.inb 0 (I.len (α:=UInt8) ([(I.i2b 71),(I.i2b 69),(I.i2b 84),(I.i2b 32),(I.i2b 47),(I.i2b 120),(I.i2b 32),(I.i2b 72),(I.i2b 84),(I.i2b 84),(I.i2b 80),(I.i2b 47),(I.i2b 49),(I.i2b 46),(I.i2b 49),(I.i2b 13),(I.i2b 10),(I.i2b 72),(I.i2b 111),(I.i2b 115),(I.i2b 116),(I.i2b 58),(I.i2b 32),(I.i2b 97),(I.i2b 13),(I.i2b 10),(I.i2b 13),(I.i2b 10)]:List UInt8))) (.need (I.hid (α:=(Prop)) (Go.Proofs.YtmibhbdfigpkmaaGreatDoor.rqN0 Go.Proofs.YtmibhbdfigpkmaaGreatDoor.rq0 ([(I.i2b 71),(I.i2b 69),(I.i2b 84),(I.i2b 32),(I.i2b 47),(I.i2b 120),(I.i2b 32),(I.i2b 72),(I.i2b 84),(I.i2b 84),(I.i2b 80),(I.i2b 47),(I.i2b 49),(I.i2b 46),(I.i2b 49),(I.i2b 13),(I.i2b 10),(I.i2b 72),(I.i2b 111),(I.i2b 115),(I.i2b 116),(I.i2b 58),(I.i2b 32),(I.i2b 97),(I.i2b 13),(I.i2b 10),(I.i2b 13),(I.i2b 10)]:List UInt8))) (.need (I.inr Go.IntKind.u8 121) (.need (I.inb 0 (I.len (α:=UInt8) ([(I.i2b 121)]:List UInt8))) (.need (I.hid (α:=(Prop)) (And (And (LE.le (List.length (Array.toList (List.toArray ([71,69,84]:List UInt8)))) 1000000) (And (LE.le (List.length (Array.toList (List.toArray ([47,120]:List UInt8)))) 1000000) (Go.Proofs.YtmibhbdfigpkmaaGreatDoor.ascii (Array.toList (List.toArray ([47,120]:List UInt8)))))) (And (And (LE.le (List.length ([(Go.Ab.Fld.mk (Array.toList (List.toArray ([72,111,115,116]:List UInt8))) (Array.toList (List.toArray ([97]:List UInt8))))]:List Go.Ab.Fld)) 1000) (∀ (f:Fld),
    f ∈ [Fld.mk (ByteArray.mk #[72,111,115,116]).data.toList (ByteArray.mk #[97]).data.toList]→
      List.length f.name≤1000000∧List.length f.value≤1000000)) (LE.le (List.length ([(I.i2b 121)]:List UInt8)) 1000000)))) (.br (I.ieq (I.len (α:=Go.Ab.Evt) (I.hid (α:=(List Go.Ab.Evt)) (Go.Proofs.YtmibhbdfigpkmaaGreatDoor.zH (Go.Ab.Rq.out (Go.Proofs.YtmibhbdfigpkmaaGreatDoor.zB Go.Proofs.YtmibhbdfigpkmaaGreatDoor.rq0 ([(I.i2b 71),(I.i2b 69),(I.i2b 84),(I.i2b 32),(I.i2b 47),(I.i2b 120),(I.i2b 32),(I.i2b 72),(I.i2b 84),(I.i2b 84),(I.i2b 80),(I.i2b 47),(I.i2b 49),(I.i2b 46),(I.i2b 49),(I.i2b 13),(I.i2b 10),(I.i2b 72),(I.i2b 111),(I.i2b 115),(I.i2b 116),(I.i2b 58),(I.i2b 32),(I.i2b 97),(I.i2b 13),(I.i2b 10),(I.i2b 13),(I.i2b 10)]:List UInt8)))))) 2) (.need (I.inb 0 (I.len (α:=Go.Ab.Evt) (I.hid (α:=(List Go.Ab.Evt)) (Go.Proofs.YtmibhbdfigpkmaaGreatDoor.zH (Go.Ab.Rq.out (Go.Proofs.YtmibhbdfigpkmaaGreatDoor.zB Go.Proofs.YtmibhbdfigpkmaaGreatDoor.rq0 ([(I.i2b 71),(I.i2b 69),(I.i2b 84),(I.i2b 32),(I.i2b 47),(I.i2b 120),(I.i2b 32),(I.i2b 72),(I.i2b 84),(I.i2b 84),(I.i2b 80),(I.i2b 47),(I.i2b 49),(I.i2b 46),(I.i2b 49),(I.i2b 13),(I.i2b 10),(I.i2b 72),(I.i2b 111),(I.i2b 115),(I.i2b 116),(I.i2b 58),(I.i2b 32),(I.i2b 97),(I.i2b 13),(I.i2b 10),(I.i2b 13),(I.i2b 10)]:List UInt8))))))) (.need (I.inb 0 (I.len (α:=Go.Ab.Evt) (I.hid (α:=(List Go.Ab.Evt)) (Go.Proofs.YtmibhbdfigpkmaaGreatDoor.zH (Go.Ab.Rq.out (Go.Proofs.YtmibhbdfigpkmaaGreatDoor.zB Go.Proofs.YtmibhbdfigpkmaaGreatDoor.rq0 ([(I.i2b 71),(I.i2b 69),(I.i2b 84),(I.i2b 32),(I.i2b 47),(I.i2b 120),(I.i2b 32),(I.i2b 72),(I.i2b 84),(I.i2b 84),(I.i2b 80),(I.i2b 47),(I.i2b 49),(I.i2b 46),(I.i2b 49),(I.i2b 13),(I.i2b 10),(I.i2b 72),(I.i2b 111),(I.i2b 115),(I.i2b 116),(I.i2b 58),(I.i2b 32),(I.i2b 97),(I.i2b 13),(I.i2b 10),(I.i2b 13),(I.i2b 10)]:List UInt8))))))) (.br (I.ieq (Go.Ab.Evt.kind (I.get (α:=Go.Ab.Evt) (I.hid (α:=(List Go.Ab.Evt)) (Go.Proofs.YtmibhbdfigpkmaaGreatDoor.zH (Go.Ab.Rq.out (Go.Proofs.YtmibhbdfigpkmaaGreatDoor.zB Go.Proofs.YtmibhbdfigpkmaaGreatDoor.rq0 ([(I.i2b 71),(I.i2b 69),(I.i2b 84),(I.i2b 32),(I.i2b 47),(I.i2b 120),(I.i2b 32),(I.i2b 72),(I.i2b 84),(I.i2b 84),(I.i2b 80),(I.i2b 47),(I.i2b 49),(I.i2b 46),(I.i2b 49),(I.i2b 13),(I.i2b 10),(I.i2b 72),(I.i2b 111),(I.i2b 115),(I.i2b 116),(I.i2b 58),(I.i2b 32),(I.i2b 97),(I.i2b 13),(I.i2b 10),(I.i2b 13),(I.i2b 10)]:List UInt8))))) (Go.Ab.Evt.mk (0:Int) (Go.Ab.Hd.mk ([]:List UInt8) ([]:List UInt8) (0:Int) ([]:List Go.Ab.Fld) (0:Int)) ([]:List UInt8) (Go.Ab.Prt.mk ([]:List UInt8) ([]:List UInt8) ([]:List UInt8) ([]:List UInt8)) (0:Int)) 0)) 1) (.need (I.inb 0 (I.len (α:=Go.Ab.Evt) (I.hid (α:=(List Go.Ab.Evt)) (Go.Proofs.YtmibhbdfigpkmaaGreatDoor.zH (Go.Ab.Rq.out (Go.Proofs.YtmibhbdfigpkmaaGreatDoor.zB Go.Proofs.YtmibhbdfigpkmaaGreatDoor.rq0 ([(I.i2b 71),(I.i2b 69),(I.i2b 84),(I.i2b 32),(I.i2b 47),(I.i2b 120),(I.i2b 32),(I.i2b 72),(I.i2b 84),(I.i2b 84),(I.i2b 80),(I.i2b 47),(I.i2b 49),(I.i2b 46),(I.i2b 49),(I.i2b 13),(I.i2b 10),(I.i2b 72),(I.i2b 111),(I.i2b 115),(I.i2b 116),(I.i2b 58),(I.i2b 32),(I.i2b 97),(I.i2b 13),(I.i2b 10),(I.i2b 13),(I.i2b 10)]:List UInt8))))))) (.need (I.inb 0 (I.len (α:=Go.Ab.Evt) (I.hid (α:=(List Go.Ab.Evt)) (Go.Proofs.YtmibhbdfigpkmaaGreatDoor.zH (Go.Ab.Rq.out (Go.Proofs.YtmibhbdfigpkmaaGreatDoor.zB Go.Proofs.YtmibhbdfigpkmaaGreatDoor.rq0 ([(I.i2b 71),(I.i2b 69),(I.i2b 84),(I.i2b 32),(I.i2b 47),(I.i2b 120),(I.i2b 32),(I.i2b 72),(I.i2b 84),(I.i2b 84),(I.i2b 80),(I.i2b 47),(I.i2b 49),(I.i2b 46),(I.i2b 49),(I.i2b 13),(I.i2b 10),(I.i2b 72),(I.i2b 111),(I.i2b 115),(I.i2b 116),(I.i2b 58),(I.i2b 32),(I.i2b 97),(I.i2b 13),(I.i2b 10),(I.i2b 13),(I.i2b 10)]:List UInt8))))))) (.br (I.seq (Go.Ab.Hd.target (Go.Ab.Evt.head (I.get (α:=Go.Ab.Evt) (I.hid (α:=(List Go.Ab.Evt)) (Go.Proofs.YtmibhbdfigpkmaaGreatDoor.zH (Go.Ab.Rq.out (Go.Proofs.YtmibhbdfigpkmaaGreatDoor.zB Go.Proofs.YtmibhbdfigpkmaaGreatDoor.rq0 ([(I.i2b 71),(I.i2b 69),(I.i2b 84),(I.i2b 32),(I.i2b 47),(I.i2b 120),(I.i2b 32),(I.i2b 72),(I.i2b 84),(I.i2b 84),(I.i2b 80),(I.i2b 47),(I.i2b 49),(I.i2b 46),(I.i2b 49),(I.i2b 13),(I.i2b 10),(I.i2b 72),(I.i2b 111),(I.i2b 115),(I.i2b 116),(I.i2b 58),(I.i2b 32),(I.i2b 97),(I.i2b 13),(I.i2b 10),(I.i2b 13),(I.i2b 10)]:List UInt8))))) (Go.Ab.Evt.mk (0:Int) (Go.Ab.Hd.mk ([]:List UInt8) ([]:List UInt8) (0:Int) ([]:List Go.Ab.Fld) (0:Int)) ([]:List UInt8) (Go.Ab.Prt.mk ([]:List UInt8) ([]:List UInt8) ([]:List UInt8) ([]:List UInt8)) (0:Int)) 0))) (Array.toList (List.toArray ([47,120]:List UInt8)))) (.need (I.inb 1 (I.len (α:=Go.Ab.Evt) (I.hid (α:=(List Go.Ab.Evt)) (Go.Proofs.YtmibhbdfigpkmaaGreatDoor.zH (Go.Ab.Rq.out (Go.Proofs.YtmibhbdfigpkmaaGreatDoor.zB Go.Proofs.YtmibhbdfigpkmaaGreatDoor.rq0 ([(I.i2b 71),(I.i2b 69),(I.i2b 84),(I.i2b 32),(I.i2b 47),(I.i2b 120),(I.i2b 32),(I.i2b 72),(I.i2b 84),(I.i2b 84),(I.i2b 80),(I.i2b 47),(I.i2b 49),(I.i2b 46),(I.i2b 49),(I.i2b 13),(I.i2b 10),(I.i2b 72),(I.i2b 111),(I.i2b 115),(I.i2b 116),(I.i2b 58),(I.i2b 32),(I.i2b 97),(I.i2b 13),(I.i2b 10),(I.i2b 13),(I.i2b 10)]:List UInt8))))))) (.need (I.inb 1 (I.len (α:=Go.Ab.Evt) (I.hid (α:=(List Go.Ab.Evt)) (Go.Proofs.YtmibhbdfigpkmaaGreatDoor.zH (Go.Ab.Rq.out (Go.Proofs.YtmibhbdfigpkmaaGreatDoor.zB Go.Proofs.YtmibhbdfigpkmaaGreatDoor.rq0 ([(I.i2b 71),(I.i2b 69),(I.i2b 84),(I.i2b 32),(I.i2b 47),(I.i2b 120),(I.i2b 32),(I.i2b 72),(I.i2b 84),(I.i2b 84),(I.i2b 80),(I.i2b 47),(I.i2b 49),(I.i2b 46),(I.i2b 49),(I.i2b 13),(I.i2b 10),(I.i2b 72),(I.i2b 111),(I.i2b 115),(I.i2b 116),(I.i2b 58),(I.i2b 32),(I.i2b 97),(I.i2b 13),(I.i2b 10),(I.i2b 13),(I.i2b 10)]:List UInt8))))))) (.br (I.ieq (Go.Ab.Evt.kind (I.get (α:=Go.Ab.Evt) (I.hid (α:=(List Go.Ab.Evt)) (Go.Proofs.YtmibhbdfigpkmaaGreatDoor.zH (Go.Ab.Rq.out (Go.Proofs.YtmibhbdfigpkmaaGreatDoor.zB Go.Proofs.YtmibhbdfigpkmaaGreatDoor.rq0 ([(I.i2b 71),(I.i2b 69),(I.i2b 84),(I.i2b 32),(I.i2b 47),(I.i2b 120),(I.i2b 32),(I.i2b 72),(I.i2b 84),(I.i2b 84),(I.i2b 80),(I.i2b 47),(I.i2b 49),(I.i2b 46),(I.i2b 49),(I.i2b 13),(I.i2b 10),(I.i2b 72),(I.i2b 111),(I.i2b 115),(I.i2b 116),(I.i2b 58),(I.i2b 32),(I.i2b 97),(I.i2b 13),(I.i2b 10),(I.i2b 13),(I.i2b 10)]:List UInt8))))) (Go.Ab.Evt.mk (0:Int) (Go.Ab.Hd.mk ([]:List UInt8) ([]:List UInt8) (0:Int) ([]:List Go.Ab.Fld) (0:Int)) ([]:List UInt8) (Go.Ab.Prt.mk ([]:List UInt8) ([]:List UInt8) ([]:List UInt8) ([]:List UInt8)) (0:Int)) 1)) 3) (.need (I.hid (α:=(Prop)) True) (.br (I.bnot (I.hid (α:=Bool) (Go.Proofs.YtmibhbdfigpkmaaGreatDoor.xB (I.hid (α:=Go.Ab.Rq) (Go.Proofs.YtmibhbdfigpkmaaGreatDoor.zB Go.Proofs.YtmibhbdfigpkmaaGreatDoor.rq0 ([(I.i2b 71),(I.i2b 69),(I.i2b 84),(I.i2b 32),(I.i2b 47),(I.i2b 120),(I.i2b 32),(I.i2b 72),(I.i2b 84),(I.i2b 84),(I.i2b 80),(I.i2b 47),(I.i2b 49),(I.i2b 46),(I.i2b 49),(I.i2b 13),(I.i2b 10),(I.i2b 72),(I.i2b 111),(I.i2b 115),(I.i2b 116),(I.i2b 58),(I.i2b 32),(I.i2b 97),(I.i2b 13),(I.i2b 10),(I.i2b 13),(I.i2b 10)]:List UInt8)))))) (.br (I.ieq (I.hid (α:=Int) (Go.Proofs.YtmibhbdfigpkmaaGreatDoor.rqwC (Array.toList (List.toArray ([71,69,84]:List UInt8))) (Array.toList (List.toArray ([47,120]:List UInt8))) ([(Go.Ab.Fld.mk (Array.toList (List.toArray ([72,111,115,116]:List UInt8))) (Array.toList (List.toArray ([97]:List UInt8))))]:List Go.Ab.Fld) ([(I.i2b 121)]:List UInt8))) 0) (.fin (.ret (.v (.one (.p (.bool (I.seq (I.hid (α:=(List UInt8)) (Go.Proofs.YtmibhbdfigpkmaaGreatDoor.rqwT (Array.toList (List.toArray ([71,69,84]:List UInt8))) (Array.toList (List.toArray ([47,120]:List UInt8))) ([(Go.Ab.Fld.mk (Array.toList (List.toArray ([72,111,115,116]:List UInt8))) (Array.toList (List.toArray ([97]:List UInt8))))]:List Go.Ab.Fld) ([(I.i2b 121)]:List UInt8))) (Array.toList (List.toArray ([71,69,84,32,47,120,32,72,84,84,80,47,49,46,49,13,10,72,111,115,116,58,32,97,13,10,67,111,110,116,101,110,116,45,76,101,110,103,116,104,58,32,49,13,10,13,10,121]:List UInt8))))))))) []) (.fin (.ret (.v (.one (.p (.bool Bool.false))))) [])) (.fin (.ret (.v (.one (.p (.bool Bool.false))))) []))) (.fin (.ret (.v (.one (.p (.bool Bool.false))))) [])))) (.fin (.ret (.v (.one (.p (.bool Bool.false))))) [])))) (.fin (.ret (.v (.one (.p (.bool Bool.false))))) [])))) (.fin (.ret (.v (.one (.p (.bool Bool.false))))) [])))))))))))))))))))))))))))))))))))) (by kernel_rfl) ?_
  simp only [zC]
  subst hI
  simp only [nrmA,nrmB,nrlB,reduceCtorEq,HO.abs.injEq,Gh.rq.injEq,Rq.mk.injEq]
  have hI0: ∀ b:Str,b.length≤1000000→rqN0 rq0 b:=fun b h=>⟨0,zck,by omega⟩
  have hA0:ascii [47,120]:=by unfold ascii;decide
  (repeat' (first|refine And.intro ?_ ?_|intro _))<;>first|omega|exact True.intro|exact False.elim ‹False›|skip
  all_goals first
    |exact hA0
    |exact hI0 _ (by decide)
    |(clear hI0 hA0;decide+revert+kernel)
    |decide+kernel
    |(rename_i h;exact h (by decide+kernel))
    |(rename_i h;exact absurd h (by decide+kernel))
    |(rename_i h;trace "{h}";trace_state)
def tY (I:Alg) (args:List D) (hp:List HO):Option CT:=match args,hp with
  |[],[]=>(fun(_:Unit)=>(some (.one ⟨I.hid (True),(.ret (.v (.one (.p (.bool true))))),[]⟩):Option CT)) ()
  |_,_=>none
theorem Wi:zI Tryz.prog 6 (tY alg):=by
  intro args hp r h
  unfold tY at h
  split at h
  · cases h;exact fun hn=>zeu
  · cases h
def Wh:Know Tryz.prog:=⟨6,tY,Wi⟩
def X9:Know Tryz.prog:=⟨6,fun I=>zL I (tY I),zf Wi⟩
end Go.Proofs.YtmibhbdfigpkmaaGreatDoor
namespace Go.Proofs.YtmibhbdfigpkmaaGreatDoor
open Go Go.Sep Go.Ab
set_option maxRecDepth 100000
theorem TM {l m:List Fld} {i:Nat} (h1:i<l.length) (h2:i<m.length):(decide (l.drop i=m.drop i))=(decide (l.getD i ⟨[],[]⟩=m.getD i ⟨[],[]⟩)&&decide (l.drop (i+1)=m.drop (i+1))):=by
  have e1:l.getD i ⟨[],[]⟩=l[i]:=by simp [h1]
  have e2:m.getD i ⟨[],[]⟩=m[i]:=by simp [h2]
  rw [e1,e2,Bool.eq_iff_iff,Bool.and_eq_true,decide_eq_true_iff,decide_eq_true_iff,decide_eq_true_iff,List.drop_eq_getElem_cons h1,List.drop_eq_getElem_cons h2,List.cons.injEq]
theorem zf4 {x y:Fld} (h1:x.name=y.name) (h2:x.value=y.value):x=y:=by cases x;cases y;simp_all
theorem zgq (l m:List Fld) (hneed:l.length≤1000000∧m.length≤1000000):Spc Tryz.prog 57 [.v (.one (.p (.list .fld l))),.v (.one (.p (.list .fld m)))] [] (.ret (.v (.one (.p (.bool ((decide (l=m)))))))) []:=by
  obtain⟨hl,hm⟩:=hneed
  generalize hr:decide (l=m)=r
  refine spcG zx mixed Tryz.func57 (by kernel_rfl) { keep:=some [0,1,4,5]} [] (by kernel_rfl) ?_
  intro I X hI hX
  refine zi (.br (I.bnot (I.ieq (I.len (α:=Fld) l) (I.len (α:=Fld) m))) (.fin (.ret (.v (.one (.p (.bool Bool.false))))) []) (.code 0 [1,1,0,1,0] ⟨[(5,(.v (.one (.p (.int .i64 0))))),(4,(.v (.one (.p (.val (.bool .false)))))),(0,(.v (.one (.p (.list .fld l))))),(1,(.v (.one (.p (.list .fld m)))))],[],26,none⟩)) (by kernel_rfl) ?_
  simp only [zC]
  refine⟨fun c1=> ?_,fun c1=> ?_⟩
  · subst hI
    simp only [nrmA,nrmB] at c1
    simp only [nrmA,nrmB]
    rw [← hr]
    exact(decide_eq_false fun e=>c1 (by rw [e])).symm
  have hlm:l.length=m.length:=by
    subst hI
    simp only [nrmA,nrmB] at c1
    omega
  refine yE hI zx mixed [] hX [0,1,5] (fun(i:Nat)=>i≤l.length∧r=decide (l.drop i=m.drop i)) (fun(i:Nat)=>⟨[(0,.v (.one (.p (.list .fld l)))),(1,.v (.one (.p (.list .fld m)))),(5,.v (.one (.p (.int .i64 i))))],[],26,none⟩) (fun(i:Nat)=>l.length - i) 0 (by kernel_rfl) (by kernel_rfl) ?_ ?_
  · exact⟨Nat.zero_le _,hr.symm⟩
  rintro i ⟨h1,h2⟩ A hA
  refine zi (let y0:=I.get (α:=Fld) l (Fld.mk ([]:Str) ([]:Str)) (Nat.cast i);let y1:=I.get (α:=Fld) m (Fld.mk ([]:Str) ([]:Str)) (Nat.cast i);let y2:=I.inb (Nat.cast i) (I.len (α:=Fld) l);let y3:=I.inb (Nat.cast i) (I.len (α:=Fld) m);.br (I.ilt (Nat.cast i) (I.len (α:=Fld) l)) (.need y2 (.need y2 (.need y3 (.need y3 (.br (I.bnot (I.ban (I.seq (Fld.name y0) (Fld.name y1)) (I.seq (Fld.value y0) (Fld.value y1)))) (.fin (.ret (.v (.one (.p (.bool Bool.false))))) []) (.need (I.inr Go.IntKind.i64 (I.add (Nat.cast i) 1)) (.need (A ⟨[(0,(.v (.one (.p (.list .fld l))))),(1,(.v (.one (.p (.list .fld m))))),(5,(.v (.one (.p (.int .i64 (I.add (Nat.cast i) 1))))))],[],26,none⟩) .qed))))))) (.fin (.ret (.v (.one (.p (.bool Bool.true))))) [])) (by kernel_rfl) ?_
  simp only [zC]
  subst hI
  simp only [nrmA,nrmB,nrlB,reduceCtorEq]
  have hd:i<l.length→_:=fun h=>TM (l:=l) (m:=m) (i:=i) h (by omega)
  have hend: ¬ i<l.length→r=true:=fun h=>by
    rw [h2,List.drop_of_length_le (by omega),List.drop_of_length_le (by omega)];simp
  generalize l.getD i ⟨[],[]⟩=x at *
  generalize m.getD i ⟨[],[]⟩=y at *
  have hx: ¬ x=y→i<l.length→r=false:=fun h hi=>by rw [h2,hd hi,decide_eq_false h,Bool.false_and]
  have hy:x=y→i<l.length→r=decide (l.drop (i+1)=m.drop (i+1)):=fun h hi=>by rw [h2,hd hi,decide_eq_true h,Bool.true_and]
  (repeat' (first|refine And.intro ?_ ?_|intro _))<;>first|omega|exact True.intro|exact False.elim ‹False›|skip
  all_goals first
    |omega
    |(exact(hx (by rintro rfl;simp_all) (by omega)).symm)
    |(rw [hx (by rintro rfl;simp_all) (by omega)])
    |exact hA (i+1) ⟨by omega,hy (zf4 (by simp_all) (by simp_all)) (by omega)⟩ (by omega)
    |(rw [hend (by omega)])
def Yo (I:Alg) (args:List D) (hp:List HO):Option CT:=match args,hp with
  |[.v (.one (.p (.list .fld l))),.v (.one (.p (.list .fld m)))],[]=>(fun(l m:List Fld)=>(some (.one ⟨I.hid (l.length≤1000000∧m.length≤1000000),(.ret (.v (.one (.p (.bool (I.hid ((decide (l=m))))))))),[]⟩):Option CT)) l m
  |_,_=>none
theorem QF:zI Tryz.prog 57 (Yo alg):=by
  intro args hp r h
  unfold Yo at h
  split at h
  · cases h;exact fun hn=>zgq _ _ hn
  · cases h
def zeg:Know Tryz.prog:=⟨57,Yo,QF⟩
def zef:Know Tryz.prog:=⟨57,fun I=>zL I (Yo I),zf QF⟩
end Go.Proofs.YtmibhbdfigpkmaaGreatDoor
namespace Go.Proofs.YtmibhbdfigpkmaaGreatDoor
open Go Go.Sep Go.Ab
set_option maxRecDepth 100000
theorem za9 (x y:Str):Spc Tryz.prog 16 [.v (.one (.p (.list .byte x))),.v (.one (.p (.list .byte y)))] [] (.ret (.v (.one (.p (.bool (x == y)))))) []:=by
  refine spcG zx mixed Tryz.func16 (by kernel_rfl) { keep:=some [0,1,4]} [] (by kernel_rfl) ?_
  intro I X hI hX
  refine zi (.fin (.ret (.v (.one (.p (.bool (I.seq x y)))))) []) (by kernel_rfl) ?_
  simp only [zC]
  subst hI
  exact⟨rfl,trivial⟩
def wM (I:Alg) (args:List D) (hp:List HO):Option CT:=match args,hp with
  |[.v (.one (.p (.list .byte x))),.v (.one (.p (.list .byte y)))],[]=>(fun(x y:Str)=>(some (.one ⟨I.hid (True),(.ret (.v (.one (.p (.bool (I.hid (x == y))))))),[]⟩):Option CT)) x y
  |_,_=>none
theorem ZP:zI Tryz.prog 16 (wM alg):=by
  intro args hp r h
  unfold wM at h
  split at h
  · cases h;exact fun hn=>za9 _ _
  · cases h
def uG:Know Tryz.prog:=⟨16,wM,ZP⟩
def uF:Know Tryz.prog:=⟨16,fun I=>zL I (wM I),zf ZP⟩
end Go.Proofs.YtmibhbdfigpkmaaGreatDoor
namespace Go.Proofs.YtmibhbdfigpkmaaGreatDoor
open Go Go.Sep Go.Ab
set_option maxRecDepth 100000
def hdB (a b:Str) (c:Int) (f:List Fld) (d:Int) (a2 b2:Str) (c2:Int) (f2:List Fld) (d2:Int):Bool:=decide ((⟨a,b,c,f,d⟩:Hd)=⟨a2,b2,c2,f2,d2⟩)
def ptB (a b c d a2 b2 c2 d2:Str):Bool:=decide ((⟨a,b,c,d⟩:Prt)=⟨a2,b2,c2,d2⟩)
theorem zf0 {x y:Hd}:hdB x.method x.target x.minor x.fields x.length y.method y.target y.minor y.fields y.length=true↔x=y:=by unfold hdB;exact decide_eq_true_iff
theorem zfG {x y:Prt}:ptB x.name x.file x.type x.bytes y.name y.file y.type y.bytes=true↔x=y:=by unfold ptB;exact decide_eq_true_iff
theorem zft (a b:Str) (c:Int) (f:List Fld) (d:Int) (a2 b2:Str) (c2:Int) (f2:List Fld) (d2:Int) (hneed:f.length≤1000000∧f2.length≤1000000):Spc Tryz.prog 29 [.v (.agg [(.p (.str a)),(.p (.str b)),(.p (.int .i64 c)),(.p (.list .fld f)),(.p (.int .i64 d))]),.v (.agg [(.p (.str a2)),(.p (.str b2)),(.p (.int .i64 c2)),(.p (.list .fld f2)),(.p (.int .i64 d2))])] [] (.ret (.v (.one (.p (.bool ((hdB a b c f d a2 b2 c2 f2 d2))))))) []:=by
  refine spcG zx mixed Tryz.func29 (by kernel_rfl) { keep:=some [0,1,2,3,4]} [zeg,zef] (by kernel_rfl) ?_
  intro I X hI hX
  refine zi (.br (I.seq a a2) (.br (I.seq b b2) (.br (I.ieq c c2) (.br (I.ieq d d2) (.need (I.hid (α:=(Prop)) (And (LE.le (List.length f) 1000000) (LE.le (List.length f2) 1000000))) (.fin (.ret (.v (.one (.p (.bool (I.hid (α:=Bool) (Decidable.decide (Eq f f2)))))))) [])) (.fin (.ret (.v (.one (.p (.bool Bool.false))))) [])) (.fin (.ret (.v (.one (.p (.bool Bool.false))))) [])) (.fin (.ret (.v (.one (.p (.bool Bool.false))))) [])) (.fin (.ret (.v (.one (.p (.bool Bool.false))))) [])) (by kernel_rfl) ?_
  simp only [zC]
  subst hI
  simp only [nrmA,nrmB,nrlB,reduceCtorEq]
  unfold hdB
  rw [show decide ((⟨a,b,c,f,d⟩:Hd)=⟨a2,b2,c2,f2,d2⟩)=(decide (a=a2)&&decide (b=b2)&&decide (c=c2)&&decide (d=d2)&&decide (f=f2)) by rw [Bool.eq_iff_iff];simp only [Hd.mk.injEq,decide_eq_true_iff,Bool.and_eq_true];constructor<;>(intro h;simp [h])]
  (repeat' (first|refine And.intro ?_ ?_|intro _))<;>first|omega|exact True.intro|exact False.elim ‹False›|skip
  all_goals first|exact hneed|(simp_all;done)|trace_state
def qj (I:Alg) (args:List D) (hp:List HO):Option CT:=match args,hp with
  |[.v (.agg [(.p (.str a)),(.p (.str b)),(.p (.int .i64 c)),(.p (.list .fld f)),(.p (.int .i64 d))]),.v (.agg [(.p (.str a2)),(.p (.str b2)),(.p (.int .i64 c2)),(.p (.list .fld f2)),(.p (.int .i64 d2))])],[]=>(fun(a b:Str) (c:Int) (f:List Fld) (d:Int) (a2 b2:Str) (c2:Int) (f2:List Fld) (d2:Int)=>(some (.one ⟨I.hid (f.length≤1000000∧f2.length≤1000000),(.ret (.v (.one (.p (.bool (I.hid ((hdB a b c f d a2 b2 c2 f2 d2)))))))),[]⟩):Option CT)) a b c f d a2 b2 c2 f2 d2
  |_,_=>none
theorem Us:zI Tryz.prog 29 (qj alg):=by
  intro args hp r h
  unfold qj at h
  split at h
  · cases h;exact fun hn=>zft _ _ _ _ _ _ _ _ _ _ hn
  · cases h
def Ur:Know Tryz.prog:=⟨29,qj,Us⟩
def Uo:Know Tryz.prog:=⟨29,fun I=>zL I (qj I),zf Us⟩
theorem zfs (a b c d a2 b2 c2 d2:Str):Spc Tryz.prog 30 [.v (.agg [(.p (.str a)),(.p (.str b)),(.p (.str c)),(.p (.list .byte d))]),.v (.agg [(.p (.str a2)),(.p (.str b2)),(.p (.str c2)),(.p (.list .byte d2))])] [] (.ret (.v (.one (.p (.bool ((ptB a b c d a2 b2 c2 d2))))))) []:=by
  refine spcG zx mixed Tryz.func30 (by kernel_rfl) { keep:=some [0,1,2,3,4]} [uG,uF] (by kernel_rfl) ?_
  intro I X hI hX
  refine zi (.br (I.seq a a2) (.br (I.seq b b2) (.br (I.seq c c2) (.need (I.hid (α:=(Prop)) True) (.fin (.ret (.v (.one (.p (.bool (I.hid (α:=Bool) (BEq.beq d d2))))))) [])) (.fin (.ret (.v (.one (.p (.bool Bool.false))))) [])) (.fin (.ret (.v (.one (.p (.bool Bool.false))))) [])) (.fin (.ret (.v (.one (.p (.bool Bool.false))))) [])) (by kernel_rfl) ?_
  simp only [zC]
  subst hI
  simp only [nrmA,nrmB,nrlB,reduceCtorEq]
  unfold ptB
  rw [show decide ((⟨a,b,c,d⟩:Prt)=⟨a2,b2,c2,d2⟩)=(decide (a=a2)&&decide (b=b2)&&decide (c=c2)&&(d == d2)) by rw [Bool.eq_iff_iff];simp only [Prt.mk.injEq,decide_eq_true_iff,Bool.and_eq_true,beq_iff_eq];constructor<;>(intro h;simp [h])]
  (repeat' (first|refine And.intro ?_ ?_|intro _))<;>first|omega|exact True.intro|exact False.elim ‹False›|skip
  all_goals first|(simp_all;done)|trace_state
def qi (I:Alg) (args:List D) (hp:List HO):Option CT:=match args,hp with
  |[.v (.agg [(.p (.str a)),(.p (.str b)),(.p (.str c)),(.p (.list .byte d))]),.v (.agg [(.p (.str a2)),(.p (.str b2)),(.p (.str c2)),(.p (.list .byte d2))])],[]=>(fun(a b c d a2 b2 c2 d2:Str)=>(some (.one ⟨I.hid (True),(.ret (.v (.one (.p (.bool (I.hid ((ptB a b c d a2 b2 c2 d2)))))))),[]⟩):Option CT)) a b c d a2 b2 c2 d2
  |_,_=>none
theorem Un:zI Tryz.prog 30 (qi alg):=by
  intro args hp r h
  unfold qi at h
  split at h
  · cases h;exact fun hn=>zfs _ _ _ _ _ _ _ _
  · cases h
def Um:Know Tryz.prog:=⟨30,qi,Un⟩
def Ul:Know Tryz.prog:=⟨30,fun I=>zL I (qi I),zf Un⟩
theorem zeM {α:Type} [DecidableEq α] {l m:List α} {i:Nat} (d:α) (h1:i<l.length) (h2:i<m.length):(decide (l.drop i=m.drop i))=(decide (l.getD i d=m.getD i d)&&decide (l.drop (i+1)=m.drop (i+1))):=by
  have e1:l.getD i d=l[i]:=by simp [h1]
  have e2:m.getD i d=m[i]:=by simp [h2]
  rw [e1,e2,Bool.eq_iff_iff,Bool.and_eq_true,decide_eq_true_iff,decide_eq_true_iff,decide_eq_true_iff,List.drop_eq_getElem_cons h1,List.drop_eq_getElem_cons h2,List.cons.injEq]
theorem getD_in {α:Type} {l:List α} {i:Nat} (d:α) (h:i<l.length):l.getD i d ∈ l:=by
  rw [show l.getD i d=l[i] by simp [h]];exact List.getElem_mem h
theorem zf8 {x y:Evt} (h1:x.kind=y.kind) (h2:x.code=y.code) (h3:x.bytes=y.bytes) (h4:x.head=y.head) (h5:x.part=y.part):x=y:=by cases x;cases y;simp_all
def fewE (l:List Evt):Prop:=l.length≤100000000∧∀ e ∈ l,e.head.fields.length≤1000000
theorem zfu (l m:List Evt) (hneed:fewE l∧fewE m):Spc Tryz.prog 11 [.v (.one (.p (.list .evt l))),.v (.one (.p (.list .evt m)))] [] (.ret (.v (.one (.p (.bool ((decide (l=m)))))))) []:=by
  obtain⟨⟨hl,hl2⟩,hm,hm2⟩:=hneed
  generalize hr:decide (l=m)=r
  refine spcG zx mixed Tryz.func11 (by kernel_rfl) { keep:=some [0,1,4,5]} [uG,uF,Ur,Uo,Um,Ul] (by kernel_rfl) ?_
  intro I X hI hX
  refine zi (.br (I.bnot (I.ieq (I.len (α:=Go.Ab.Evt) l) (I.len (α:=Go.Ab.Evt) m))) (.fin (.ret (.v (.one (.p (.bool Bool.false))))) []) (.code 0 [1,1,0,1,0] ⟨[(5,(.v (.one (.p (.int .i64 0))))),(4,(.v (.one (.p (.val (.bool .false)))))),(0,(.v (.one (.p (.list .evt l))))),(1,(.v (.one (.p (.list .evt m)))))],[],83,none⟩)) (by kernel_rfl) ?_
  simp only [zC]
  refine⟨fun c1=> ?_,fun c1=> ?_⟩
  · subst hI
    simp only [nrmA,nrmB] at c1
    simp only [nrmA,nrmB]
    rw [← hr]
    exact(decide_eq_false fun e=>c1 (by rw [e])).symm
  have hlm:l.length=m.length:=by
    subst hI
    simp only [nrmA,nrmB] at c1
    omega
  refine yE hI zx mixed [uG,uF,Ur,Uo,Um,Ul] hX [0,1,5] (fun(i:Nat)=>i≤l.length∧r=decide (l.drop i=m.drop i)) (fun(i:Nat)=>⟨[(0,.v (.one (.p (.list .evt l)))),(1,.v (.one (.p (.list .evt m)))),(5,.v (.one (.p (.int .i64 i))))],[],83,none⟩) (fun(i:Nat)=>l.length - i) 0 (by kernel_rfl) (by kernel_rfl) ?_ ?_
  · exact⟨Nat.zero_le _,hr.symm⟩
  rintro i ⟨h1,h2⟩ A hA
  refine zi (let y0:=I.get (α:=Go.Ab.Evt) l (Go.Ab.Evt.mk (0:Int) (Hd.mk ([]:Str) ([]:Str) (0:Int) ([]:List Fld) (0:Int)) ([]:Str) (Go.Ab.Prt.mk ([]:Str) ([]:Str) ([]:Str) ([]:Str)) (0:Int)) (Nat.cast i);let y1:=I.get (α:=Go.Ab.Evt) m (Go.Ab.Evt.mk (0:Int) (Hd.mk ([]:Str) ([]:Str) (0:Int) ([]:List Fld) (0:Int)) ([]:Str) (Go.Ab.Prt.mk ([]:Str) ([]:Str) ([]:Str) ([]:Str)) (0:Int)) (Nat.cast i);let y2:=I.inb (Nat.cast i) (I.len (α:=Go.Ab.Evt) l);let y3:=I.inb (Nat.cast i) (I.len (α:=Go.Ab.Evt) m);.br (I.ilt (Nat.cast i) (I.len (α:=Go.Ab.Evt) l)) (.need y2 (.need y2 (.need y3 (.need y3 (.br (I.bnot (I.ieq (Go.Ab.Evt.kind y0) (Go.Ab.Evt.kind y1))) (.fin (.ret (.v (.one (.p (.bool Bool.false))))) []) (.need y2 (.need y2 (.need y3 (.need y3 (.br (I.bnot (I.ieq (Go.Ab.Evt.code y0) (Go.Ab.Evt.code y1))) (.fin (.ret (.v (.one (.p (.bool Bool.false))))) []) (.need y2 (.need y2 (.need y3 (.need y3 (.need (I.hid (α:=(Prop)) True) (.br (I.bnot (I.hid (α:=Bool) (BEq.beq (Go.Ab.Evt.bytes y0) (Go.Ab.Evt.bytes y1)))) (.fin (.ret (.v (.one (.p (.bool Bool.false))))) []) (.need y2 (.need y2 (.need y3 (.need y3 (.need (I.hid (α:=(Prop)) (And (LE.le (List.length (Hd.fields (Go.Ab.Evt.head y0))) 1000000) (LE.le (List.length (Hd.fields (Go.Ab.Evt.head y1))) 1000000))) (.br (I.bnot (I.hid (α:=Bool) (hdB (Hd.method (Go.Ab.Evt.head y0)) (Hd.target (Go.Ab.Evt.head y0)) (Hd.minor (Go.Ab.Evt.head y0)) (Hd.fields (Go.Ab.Evt.head y0)) (Hd.length (Go.Ab.Evt.head y0)) (Hd.method (Go.Ab.Evt.head y1)) (Hd.target (Go.Ab.Evt.head y1)) (Hd.minor (Go.Ab.Evt.head y1)) (Hd.fields (Go.Ab.Evt.head y1)) (Hd.length (Go.Ab.Evt.head y1))))) (.fin (.ret (.v (.one (.p (.bool Bool.false))))) []) (.need y2 (.need y2 (.need y3 (.need y3 (.need (I.hid (α:=(Prop)) True) (.br (I.bnot (I.hid (α:=Bool) (ptB (Go.Ab.Prt.name (Go.Ab.Evt.part y0)) (Go.Ab.Prt.file (Go.Ab.Evt.part y0)) (Go.Ab.Prt.type (Go.Ab.Evt.part y0)) (Go.Ab.Prt.bytes (Go.Ab.Evt.part y0)) (Go.Ab.Prt.name (Go.Ab.Evt.part y1)) (Go.Ab.Prt.file (Go.Ab.Evt.part y1)) (Go.Ab.Prt.type (Go.Ab.Evt.part y1)) (Go.Ab.Prt.bytes (Go.Ab.Evt.part y1))))) (.fin (.ret (.v (.one (.p (.bool Bool.false))))) []) (.need (I.inr Go.IntKind.i64 (I.add (Nat.cast i) 1)) (.need (A ⟨[(0,(.v (.one (.p (.list .evt l))))),(1,(.v (.one (.p (.list .evt m))))),(5,(.v (.one (.p (.int .i64 (I.add (Nat.cast i) 1))))))],[],83,none⟩) .qed)))))))))))))))))))))))))))))) (.fin (.ret (.v (.one (.p (.bool Bool.true))))) [])) (by kernel_rfl) ?_
  simp only [zC]
  subst hI
  simp only [nrmA,nrmB,nrlB,reduceCtorEq]
  have hd:i<l.length→_:=fun h=>zeM (l:=l) (m:=m) (i:=i) ⟨0,⟨[],[],0,[],0⟩,[],⟨[],[],[],[]⟩,0⟩ h (by omega)
  have hend: ¬ i<l.length→r=true:=fun h=>by
    rw [h2,List.drop_of_length_le (by omega),List.drop_of_length_le (by omega)];simp
  have hfx:i<l.length→(l.getD i ⟨0,⟨[],[],0,[],0⟩,[],⟨[],[],[],[]⟩,0⟩).head.fields.length≤1000000:=fun h=>hl2 _ (by simp [h])
  have hfy:i<l.length→(m.getD i ⟨0,⟨[],[],0,[],0⟩,[],⟨[],[],[],[]⟩,0⟩).head.fields.length≤1000000:=fun h=>hm2 _ (getD_in _ (by omega))
  generalize l.getD i ⟨0,⟨[],[],0,[],0⟩,[],⟨[],[],[],[]⟩,0⟩=x at *
  generalize m.getD i ⟨0,⟨[],[],0,[],0⟩,[],⟨[],[],[],[]⟩,0⟩=y at *
  have hx: ¬ x=y→i<l.length→r=false:=fun h hi=>by rw [h2,hd hi,decide_eq_false h,Bool.false_and]
  have hy:x=y→i<l.length→r=decide (l.drop (i+1)=m.drop (i+1)):=fun h hi=>by rw [h2,hd hi,decide_eq_true h,Bool.true_and]
  have hbh:=zf0 (x:=x.head) (y:=y.head)
  have hbp:=zfG (x:=x.part) (y:=y.part)
  generalize hdB x.head.method x.head.target x.head.minor x.head.fields x.head.length y.head.method y.head.target y.head.minor y.head.fields y.head.length=B1 at *
  generalize ptB x.part.name x.part.file x.part.type x.part.bytes y.part.name y.part.file y.part.type y.part.bytes=B2 at *
  (repeat' (first|refine And.intro ?_ ?_|intro _))<;>first|omega|exact True.intro|exact False.elim ‹False›|skip
  all_goals first
    |omega
    |(exact(hx (by rintro rfl;simp_all) (by omega)).symm)
    |(rw [hx (by rintro rfl;simp_all) (by omega)])
    |exact hA (i+1) ⟨by omega,hy (zf8 (by simp_all) (by simp_all) (by simp_all) (by simp_all) (by simp_all)) (by omega)⟩ (by omega)
    |(rw [hend (by omega)])
def ql (I:Alg) (args:List D) (hp:List HO):Option CT:=match args,hp with
  |[.v (.one (.p (.list .evt l))),.v (.one (.p (.list .evt m)))],[]=>(fun(l m:List Evt)=>(some (.one ⟨I.hid (fewE l∧fewE m),(.ret (.v (.one (.p (.bool (I.hid ((decide (l=m))))))))),[]⟩):Option CT)) l m
  |_,_=>none
theorem Uw:zI Tryz.prog 11 (ql alg):=by
  intro args hp r h
  unfold ql at h
  split at h
  · cases h;exact fun hn=>zfu _ _ hn
  · cases h
def Uu:Know Tryz.prog:=⟨11,ql,Uw⟩
def Ut:Know Tryz.prog:=⟨11,fun I=>zL I (ql I),zf Uw⟩
end Go.Proofs.YtmibhbdfigpkmaaGreatDoor
namespace Go.Proofs.YtmibhbdfigpkmaaGreatDoor
open Go Go.Sep Go.Ab
set_option maxRecDepth 100000
def pcK (n:Nat) (c:Int):Nat:=((c % 18446744073709551616) % ((n:Int)+1)).toNat
theorem zgB (n:Nat) (c:Int):pcK n c≤n:=by
  unfold pcK
  have:=Int.emod_lt_of_pos (c % 18446744073709551616) (show(0:Int)<(n:Int)+1 by omega)
  omega
def pcs:Str→List Int→List Str
  |b,[]=>[b]
  |b,c::r=>b.take (pcK b.length c)::pcs (b.drop (pcK b.length c)) r
theorem Q7: ∀ (cs:List Int) (b:Str),(pcs b cs).flatten=b
  |[],b=>by simp [pcs]
  |c::r,b=>by simp [pcs,Q7 r]
theorem zcL: ∀ (cs:List Int) (b:Str),(pcs b cs).length=cs.length+1
  |[],b=>rfl
  |c::r,b=>by simp [pcs,zcL r]
theorem pcW (c:Int) {n k:Nat} (h:k≤n) (hn:n≤1000000):IntKind.i64.wrap ((IntKind.u64.wrap c).tmod (IntKind.u64.wrap ((n:Int) - k+1)))=(pcK (n - k) c:Int):=by
  have e1:IntKind.u64.wrap c=c % 18446744073709551616:=by simp [IntKind.wrap_u64]
  have e2:IntKind.u64.wrap ((n:Int) - k+1)=((n - k:Nat):Int)+1:=by rw [IntKind.wrap_u64];omega
  rw [e1,e2,Int.tmod_eq_emod_of_nonneg (by omega)]
  unfold pcK
  have h1:=Int.emod_lt_of_pos (c % 18446744073709551616) (show(0:Int)<((n - k:Nat):Int)+1 by omega)
  have h2:=Int.emod_nonneg (c % 18446744073709551616) (show((n - k:Nat):Int)+1≠0 by omega)
  generalize c % 18446744073709551616 % (((n - k:Nat):Int)+1)=z at *
  rw [IntKind.wrap_i64]
  omega
theorem pcU {n k:Nat} (h:k≤n) (hn:n≤1000000): ¬ IntKind.u64.wrap ((n:Int) - k+1)=0:=by rw [IntKind.wrap_u64];omega
theorem zfI (b:Str) (cs:List Int) (hneed:cs.length≤1000000∧b.length≤1000000):Spc Tryz.prog 19 [.v (.one (.p (.list .byte b))),.v (.one (.p (.list .int cs)))] [] (.ret (.v (.one (.row 0)))) [.row .bytes 22 ((pcs b cs))]:=by
  refine spcG zx mixed Tryz.func19 (by kernel_rfl) { nr:=[5],keep:=some [0,1,4,5,6,7,8]} [] (by kernel_rfl) ?_
  intro I X hI hX
  refine zi (.code 0 [1,1,1,0,1,0] ⟨[(7,(.v (.one (.p (.int .i64 0))))),(6,(.v (.one (.p (.int .i64 0))))),(5,(.v (.one (.row 0)))),(4,(.v (.one .nilS))),(0,(.v (.one (.p (.list .byte b))))),(1,(.v (.one (.p (.list .int cs)))))],[(.row .bytes 22 ([]:List (Str)))],44,none⟩) (by kernel_rfl) ?_
  simp only [zC]
  refine yE hI zx mixed [] hX [0,1,5,6,7] (fun(g:Nat × Nat × List Str)=>match g with|(i,k,o)=>i≤cs.length∧k≤b.length∧o.length=i∧pcs b cs=o++pcs (b.drop k) (cs.drop i)) (fun(g:Nat × Nat × List Str)=>match g with|(i,k,o)=>⟨[(0,.v (.one (.p (.list .byte b)))),(1,.v (.one (.p (.list .int cs)))),(5,.v (.one (.row 0))),(6,.v (.one (.p (.int .i64 k)))),(7,.v (.one (.p (.int .i64 i))))],[.row .bytes 22 o],44,none⟩) (fun(g:Nat × Nat × List Str)=>match g with|(i,k,o)=>cs.length - i) (0,0,[]) (by kernel_rfl) (by kernel_rfl) ?_ ?_
  · exact⟨Nat.zero_le _,Nat.zero_le _,rfl,rfl⟩
  rintro⟨i,k,o⟩ ⟨h1,h2,h3,h4⟩ A hA
  simp only at hA h1 h2 h3 h4
  refine zi (let y1:=I.sub (I.len (α:=UInt8) b) (Nat.cast k);let y0:=I.add (Nat.cast k) (I.wrap Go.IntKind.i64 (I.rem (I.wrap Go.IntKind.u64 (I.get (α:=Int) cs 0 (Nat.cast i))) (I.wrap Go.IntKind.u64 (I.add y1 1))));let y2:=I.cut (α:=UInt8) b (Int.ofNat k) (I.len (α:=UInt8) b);let y3:=I.inb (Nat.cast i) (I.len (α:=Int) cs);let y4:=I.cut (α:=UInt8) b (Int.ofNat k) y0;.br (I.ilt (Nat.cast i) (I.len (α:=Int) cs)) (.need y3 (.need y3 (.need (I.inr Go.IntKind.i64 y1) (.need (I.inr Go.IntKind.i64 (I.add y1 1)) (.need (I.nne (I.wrap Go.IntKind.u64 (I.add y1 1))) (.need (I.inr Go.IntKind.i64 y0) (.need (I.cutb (Int.ofNat k) y0 (I.len (α:=UInt8) b)) (.need (I.few (I.add (I.len (α:=Str) o) (I.len (α:=Str) ([y4]:List (Str)))) 100000000) (.need (I.inr Go.IntKind.i64 (I.add (Nat.cast i) 1)) (.need (A ⟨[(0,(.v (.one (.p (.list .byte b))))),(1,(.v (.one (.p (.list .int cs))))),(5,(.v (.one (.row 0)))),(6,(.v (.one (.p (.int .i64 y0))))),(7,(.v (.one (.p (.int .i64 (I.add (Nat.cast i) 1))))))],[(.row .bytes 22 (I.app (α:=Str) o ([y4]:List (Str))))],44,none⟩) .qed)))))))))) (.need (I.cutb (Int.ofNat k) (I.len (α:=UInt8) b) (I.len (α:=UInt8) b)) (.need (I.few (I.add (I.len (α:=Str) o) (I.len (α:=Str) ([y2]:List (Str)))) 100000000) (.fin (.ret (.v (.one (.row 0)))) [(.row .bytes 22 (I.app (α:=Str) o ([y2]:List (Str))))])))) (by kernel_rfl) ?_
  simp only [zC]
  subst hI
  simp only [nrmA,nrmB,nrlB,reduceCtorEq]
  have hU:=pcU h2 hneed.2
  have hK:=zgB (b.length - k) (cs.getD i 0)
  have hW:=pcW (cs.getD i 0) h2 hneed.2
  rw [hW]
  have hgo:i<cs.length→_:=fun h=>hA (i+1,k+pcK (b.length - k) (cs.getD i 0),o++[(b.drop k).take (pcK (b.length - k) (cs.getD i 0))]) ⟨by simp only;omega,by simp only;omega,by simp [h3],by simp only;rw [h4,show cs.drop i=cs.getD i 0::cs.drop (i+1) by rw [List.drop_eq_getElem_cons h];simp [h]];simp [pcs,List.drop_drop]⟩ (by simp only;omega)
  have hend: ¬ i<cs.length→pcs b cs=o++[b.drop k]:=fun h=>by rw [h4,List.drop_of_length_le (l:=cs) (by omega)];rfl
  have hte:(b.drop k).take (b.length - k)=b.drop k:=List.take_of_length_le (by rw [List.length_drop];omega)
  have htk:((k:Int)+(pcK (b.length - k) (cs.getD i 0):Int)).toNat - k=pcK (b.length - k) (cs.getD i 0):=by omega
  rw [htk]
  generalize pcK (b.length - k) (cs.getD i 0)=z at *
  (repeat' (first|refine And.intro ?_ ?_|intro _))<;>first|omega|exact True.intro|exact False.elim ‹False›|skip
  all_goals first
    |omega
    |exact hU
    |(simp only [List.length_cons,List.length_nil];omega)
    |exact hgo (by omega)
    |(rw [hend (by omega),hte])
def qN (I:Alg) (args:List D) (hp:List HO):Option CT:=match args,hp with
  |[.v (.one (.p (.list .byte b))),.v (.one (.p (.list .int cs)))],[]=>(fun(b:Str) (cs:List Int)=>(some (.one ⟨I.hid (cs.length≤1000000∧b.length≤1000000),(.ret (.v (.one (.row 0)))),[.row .bytes 22 (I.hid ((pcs b cs)))]⟩):Option CT)) b cs
  |_,_=>none
theorem UO:zI Tryz.prog 19 (qN alg):=by
  intro args hp r h
  unfold qN at h
  split at h
  · cases h;exact fun hn=>zfI _ _ hn
  · cases h
def UN:Know Tryz.prog:=⟨19,qN,UO⟩
def UM:Know Tryz.prog:=⟨19,fun I=>zL I (qN I),zf UO⟩
end Go.Proofs.YtmibhbdfigpkmaaGreatDoor
namespace Go.Proofs.YtmibhbdfigpkmaaGreatDoor
open Go Go.Sep Go.Ab
set_option maxRecDepth 100000
structure PcI (b:Str) (L:List Str) (i:Nat) (q:Rq) (al:List Evt):Prop where
  le:i≤L.length
  ri:RqI q (L.take i).flatten.length
  ba:xh q=xh (zB rq0 (L.take i).flatten)
  jo:zH al=zH (zB rq0 (L.take i).flatten).out
  su:zN al≤(L.take i).flatten.length
  ln:al.length≤i * (4 * b.length)
  ob:EvO al
theorem zhe (b:Str) (L:List Str):PcI b L 0 rq0 []:=⟨Nat.zero_le _,zck,rfl,rfl,Nat.zero_le _,Nat.zero_le _,fun e h=>by cases h⟩
theorem zcf: ∀ (b:Str) (q:Rq) (i:Nat),RqI q i→RqI (xA q b) (i+b.length)
  |[],q,i,h=>h
  | c::b,q,i,h=>by
    have:=zcf b _ _ (SX h c)
    rw [List.length_cons,show i+(b.length+1)=i+1+b.length by omega];exact this
theorem Uy: ∀ (b:Str) (q:Rq),zN (xA q b).out≤zN q.out+b.length
  |[],q=>Nat.le_refl _
  | c::b,q=>by
    have h1:=Uy b (rqF q c)
    have h2:=YX q c
    rw [List.length_cons]
    have:xA q (c::b)=xA (rqF q c) b:=rfl
    rw [this];omega
theorem SV {p q:Rq} (h:xh p=xh q) (b:Str):zB p b=zB q b:=by
  show xA (xh p) b=xA (xh q) b
  rw [h]
theorem Ug {L:List Str} {i:Nat} (h:i<L.length):(L.take (i+1)).flatten=(L.take i).flatten++L.getD i []:=by
  rw [List.take_succ_eq_append_getElem h,List.flatten_append,show L.getD i []=L[i] by simp [h]];simp
theorem uz (L:List Str) (i:Nat):(L.take i).flatten.length≤L.flatten.length:=by
  have h:L.flatten=(L.take i).flatten++(L.drop i).flatten:=by rw [← List.flatten_append,List.take_append_drop]
  rw [h,List.length_append];omega
theorem zeD {b:Str} {L:List Str} {i:Nat} {q:Rq} {al:List Evt} (h:PcI b L i q al) (hf:L.flatten=b) (k:i<L.length) (hb:b.length≤20000):rqN0 q (L.getD i []):=by
  refine⟨_,Vo h.ri (by simp),?_⟩
  have h1:=Ug k
  have h2:=uz L (i+1)
  rw [h1,List.length_append,hf] at h2
  omega
theorem zhd {b:Str} {L:List Str} {i:Nat} {q:Rq} {al:List Evt} (h:PcI b L i q al) (hf:L.flatten=b) (k:i<L.length) (hb:b.length≤20000):PcI b L (i+1) (zB q (L.getD i [])) (al++zH (zB q (L.getD i [])).out):=by
  have h1:=Ug k
  have h2:=uz L (i+1)
  rw [hf] at h2
  obtain⟨a1,a2⟩:=zbf rq0 (L.take i).flatten (L.getD i [])
  rw [← SV h.ba] at a1 a2
  have hr:RqI (zB q (L.getD i [])) ((L.take i).flatten.length+(L.getD i []).length):=zcf _ _ _ (Vo h.ri (by simp))
  have hs:zN (zB q (L.getD i [])).out≤(L.getD i []).length:=by have:=Uy (L.getD i []) { q with out:=[]};simpa [zN,zB] using this
  have ho:=hr.on
  rw [← List.length_append,← h1] at hr ho
  have hj:=qW (zB q (L.getD i [])).out
  have hjs:=Tc (zB q (L.getD i [])).out
  have hlen:(L.take (i+1)).flatten.length=(L.take i).flatten.length+(L.getD i []).length:=by rw [h1,List.length_append]
  refine⟨k,hr,?_,?_,?_,?_,?_⟩
  · rw [a1,h1]
  · rw [Td,← WG,h.jo,WG,h1,a2]
  · rw [yF,hlen];have:=h.su;omega
  · rw [List.length_append,Nat.succ_mul];have:=h.ln;omega
  · refine rW h.ob (VL _ [] (SS _ _ _ (Vo h.ri (o:=[]) (by simp)) (by omega) (fun e m=>by cases m)))
theorem zfJ {b:Str} {L:List Str} {q:Rq} {al:List Evt} (h:PcI b L L.length q al) (hf:L.flatten=b):xh q=xh (zB rq0 b)∧zH al=zH (zB rq0 b).out:=by
  have h1:=h.ba
  have h2:=h.jo
  rw [List.take_length,hf] at h1 h2
  exact⟨h1,h2⟩
theorem zdJ {p q:Rq} (h:xh p=xh q):xB p=xB q∧p.pos=q.pos:=by
  have h1:(xh p).pos=(xh q).pos:=by rw [h]
  have h2:(xh p).ln=(xh q).ln:=by rw [h]
  have h1:p.pos=q.pos:=h1
  have h2:p.ln=q.ln:=h2
  unfold xB
  rw [h1,h2]
  exact⟨rfl,rfl⟩
theorem zf6 {l:List Evt} (h:EvO l) (k:l.length≤10000000):fewE l:=⟨by omega,fun e m=>by have:=(h e m).1;omega⟩
theorem rqPieces_ (b:Str) (cs:List Int):Spc Tryz.prog 4 [.v (.one (.p (.list .byte b))),.v (.one (.p (.list .int cs)))] [] (.ret (.v (.one (.p (.bool true))))) []:=by
  have hO:=zen (b:=b)
  have hN:=zem (b:=b)
  have hf:=Q7 cs b
  have hl:=zcL cs b
  refine spcG zx mixed Tryz.func4 (by kernel_rfl) { cfgQ with fz:=[11],nr:=[7],keep:=some [0,1,4,5,6,7,8,9]} [Vm,Vl,UH,UG,Y0,YZ,xg,yZ,YW,YV,Wh,X9,Uu,Ut,UN,UM] (by kernel_rfl) ?_
  intro I X hI hX
  refine zi (.need (I.hid (α:=(Prop)) True) (.br (I.bnot Bool.true) (.fin (.ret (.v (.one (.p (.bool Bool.false))))) []) (.br (I.ilt 20000 (I.len (α:=UInt8) b)) (.fin (.ret (.v (.one (.p (.bool Bool.true))))) []) (.br (I.ilt 100 (I.len (α:=Int) cs)) (.fin (.ret (.v (.one (.p (.bool Bool.true))))) []) (.need (I.hid (α:=(Prop)) True) (.need (I.hid (α:=(Prop)) True) (.need (I.hid (α:=(Prop)) (And (LE.le (List.length cs) 1000000) (LE.le (List.length b) 1000000))) (.code 0 [1,1,1,1,1,1,0,1,0] ⟨[(9,(.v (.one (.p (.int .i64 0))))),(8,(.v (.one (.row 3)))),(7,(.v (.one (.row 2)))),(6,(.v (.one (.ptr 1 0)))),(5,(.v (.one (.ptr 0 0)))),(4,(.v (.one (.p (.val (.bool .false)))))),(0,(.v (.one (.p (.list .byte b))))),(1,(.v (.one (.p (.list .int cs)))))],[(.abs (.rq rq0)),(.abs (.rq rq0)),(.row .evt 32 ([]:List Go.Ab.Evt)),(.row .bytes 22 (I.hid (α:=(List (Str))) (pcs b cs)))],59,none⟩)))))))) (by kernel_rfl) ?_
  simp only [zC]
  generalize pcs b cs=L at *
  (repeat' (first|refine And.intro ?_ ?_|intro _))
  all_goals try(subst hI;(simp only [nrmA,nrmB,nrlB,reduceCtorEq] at *);first|done|trivial|omega|exact⟨by omega,by omega⟩)
  have hb:b.length≤20000∧cs.length≤100:=by
    subst hI
    simp only [nrmA,nrmB,nrlB,reduceCtorEq] at *
    omega
  rw [show I.hid L=L by subst hI;rfl]
  have hO:=hO (by omega)
  have hN:=hN (by omega)
  refine yE hI zx mixed [Vm,Vl,UH,UG,Y0,YZ,xg,yZ,YW,YV,Wh,X9,Uu,Ut,UN,UM] hX [0,1,5,6,7,8,9] (fun(g:Nat × Rq × List Evt)=>match g with|(i,q,al)=>PcI b L i q al) (fun(g:Nat × Rq × List Evt)=>match g with|(i,q,al)=>⟨[(0,.v (.one (.p (.list .byte b)))),(1,.v (.one (.p (.list .int cs)))),(5,.v (.one (.ptr 0 0))),(6,.v (.one (.ptr 1 0))),(7,.v (.one (.row 2))),(8,.v (.one (.row 3))),(9,.v (.one (.p (.int .i64 i))))],[.abs (.rq q),.abs (.rq rq0),.row .evt 32 al,.row .bytes 22 L],59,none⟩) (fun(g:Nat × Rq × List Evt)=>match g with|(i,q,al)=>L.length - i) (0,rq0,[]) (by kernel_rfl) (by kernel_rfl) ?_ ?_
  · exact zhe b L
  rintro⟨i,q,al⟩ h1 A hA
  simp only at hA h1
  refine zi (let y0:=I.get (α:=Str) L ([]:Str) (Nat.cast i);let y1:=I.hid (α:=(List Go.Ab.Evt)) (zH (Go.Ab.Rq.out (zB rq0 b)));let y2:=I.hid (α:=(List Go.Ab.Evt)) (zH (Go.Ab.Rq.out (zB q y0)));let y3:=I.hid (α:=(List Go.Ab.Evt)) (zH al);let y4:=I.inb (Nat.cast i) (I.len (α:=Str) L);let y5:=I.hid (α:=Go.Ab.Rq) (zB rq0 b);.br (I.ilt (Nat.cast i) (I.len (α:=Str) L)) (.need y4 (.need y4 (.need (I.hid (α:=(Prop)) (rqN0 q y0)) (.need (I.few (I.add (I.len (α:=Go.Ab.Evt) al) (I.len (α:=Go.Ab.Evt) y2)) 100000000) (.need (I.inr Go.IntKind.i64 (I.add (Nat.cast i) 1)) (.need (A ⟨[(0,(.v (.one (.p (.list .byte b))))),(1,(.v (.one (.p (.list .int cs))))),(5,(.v (.one (.ptr 0 0)))),(6,(.v (.one (.ptr 1 0)))),(7,(.v (.one (.row 2)))),(8,(.v (.one (.row 3)))),(9,(.v (.one (.p (.int .i64 (I.add (Nat.cast i) 1))))))],[(.abs (.rq (I.hid (α:=Go.Ab.Rq) (zB q y0)))),(.abs (.rq rq0)),(.row .evt 32 (I.app (α:=Go.Ab.Evt) al y2)),(.row .bytes 22 L)],59,none⟩) .qed)))))) (.need (I.hid (α:=(Prop)) (And (LE.le (zN al) 1000000) (LE.le (List.length al) 10000000))) (.need (I.hid (α:=(Prop)) (rqN0 rq0 b)) (.need (I.hid (α:=(Prop)) (And (fewE y3) (fewE y1))) (.br (I.hid (α:=Bool) (Decidable.decide (Eq y3 y1))) (.need (I.hid (α:=(Prop)) True) (.need (I.hid (α:=(Prop)) True) (.br (I.beq (I.hid (α:=Bool) (xB q)) (I.hid (α:=Bool) (xB y5))) (.need (I.hid (α:=(Prop)) True) (.need (I.hid (α:=(Prop)) True) (.fin (.ret (.v (.one (.p (.bool (I.beq (I.hid (α:=Bool) (Decidable.decide (Eq (Go.Ab.Rq.pos (I.hid (α:=Go.Ab.Rq) q)) (4:Int)))) (I.hid (α:=Bool) (Decidable.decide (Eq (Go.Ab.Rq.pos (I.hid (α:=Go.Ab.Rq) y5)) (4:Int)))))))))) []))) (.fin (.ret (.v (.one (.p (.bool Bool.false))))) [])))) (.fin (.ret (.v (.one (.p (.bool Bool.false))))) [])))))) (by kernel_rfl) ?_
  simp only [zC]
  subst hI
  simp only [nrmA,nrmB,nrlB,reduceCtorEq,HO.abs.injEq,Gh.rq.injEq]
  have hlen: ∀ {i:Nat} {q:Rq} {al:List Evt},PcI b L i q al→al.length≤8080000:=fun {i q al} h=>Nat.le_trans h.ln (Nat.mul_le_mul (show i≤101 by have:=h.le;omega) (show 4 * b.length≤80000 by omega))
  have hal:=hlen h1
  have hsu:zN al≤1000000:=Nat.le_trans h1.su (by have:=uz L i;rw [hf] at this;omega)
  have hneed:i<L.length→rqN0 q (L.getD i []):=fun h=>zeD h1 hf h (by omega)
  have hnx:=fun h:i<L.length=>zhd h1 hf h (by omega)
  have hln:i<L.length→al.length+(zH (zB q (L.getD i [])).out).length≤8080000:=fun h=>by have:=hlen (hnx h);rw [List.length_append] at this;exact this
  have hgo:i<L.length→_:=fun h=>hA (i+1,zB q (L.getD i []),al++zH (zB q (L.getD i [])).out) (hnx h) (by simp only;omega)
  have hn0:rqN0 rq0 b:=⟨0,zck,by omega⟩
  have hee: ¬ i<L.length→xh q=xh (zB rq0 b)∧zH al=zH (zB rq0 b).out:=fun h=>zfJ (show PcI b L L.length q al by have:=h1.le;rw [show L.length=i by omega];exact h1) hf
  have hbu: ¬ i<L.length→xB q=xB (zB rq0 b)∧q.pos=(zB rq0 b).pos:=fun h=>zdJ (hee h).1
  have hfew:fewE (zH (zB rq0 b).out):=zf6 hO (by omega)
  have hq: ¬ i<L.length→decide (zH al=zH (zB rq0 b).out)=true∧decide (q.pos=4)=decide ((zB rq0 b).pos=4):=fun h=>⟨decide_eq_true (hee h).2,by rw [(hbu h).2]⟩
  have hal2:=qW al
  clear hA hlen hnx
  generalize zB q (L.getD i [])=Q at *
  (repeat' (first|refine And.intro ?_ ?_|intro _))<;>first|omega|exact True.intro|exact False.elim ‹False›|skip
  all_goals first
    |omega
    |(have:=hgo (by omega);simp only [Int.natCast_add,Int.natCast_one] at this;exact this)
    |exact hneed (by omega)
    |exact hn0
    |exact hfew.2 _ ((hee (by omega)).2▸‹_ ∈ zH al›)
    |exact hfew.2 _ ‹_›
    |exact(hq (by omega)).2
    |exact(hbu (by omega)).1
    |(have:=(hq (by omega)).1;simp_all;done)
    |(have:=(hq (by omega)).1;have:=(hbu (by omega)).1;have:=(hq (by omega)).2;simp_all;done)
end Go.Proofs.YtmibhbdfigpkmaaGreatDoor
