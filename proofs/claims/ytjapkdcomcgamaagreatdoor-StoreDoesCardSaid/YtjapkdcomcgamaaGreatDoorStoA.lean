/- A store: the walks. -/
import Derived.Test.YtjapkdcomcgamaaGreatDoorStoL
set_option linter.all false
namespace Go.Proofs.YtjapkdcomcgamaaGreatDoor
open Go Go.Sep Go.Ab Go.Jrn
set_option maxRecDepth 100000

def cfgSt : Cfg := { sl := [⟨79, 0, .upl, some 70⟩, ⟨107, 0, .byte, some 5⟩] }


theorem stoNew_  : Spc Tryz.prog 8 [] [] (.ret (.v (.one (.ptr 0 0)))) [.pack [.obj 47 [(.ptr 1 0), (.ptr 2 0)], .pack [.obj 79 [(.row 1), (.p (.int .i64 0))], .row .upl 70 ([])], .pack [.obj 107 [(.row 1), (.p (.int .i64 0))], .row .byte 5 ([])]]] := by
  refine spcG tab_ok mixed Tryz.func8 (by kernel_rfl) { cfgSt with keep := some [0] } [sNew__k, sNew__l, jnew__k, jnew__l] (by kernel_rfl) ?_
  intro I X hI hX
  refine ev_rule (.need (I.hid (α := (Prop)) True) (.need (I.hid (α := (Prop)) True) (.fin (.ret (.v (.one (.ptr 0 0)))) [(.pack [(.obj 47 [(.ptr 1 0), (.ptr 2 0)]), (.pack [(.obj 79 [(.row 1), (.p (.int .i64 0))]), (.row .upl 70 (I.hid (α := (List Go.Ab.Upl)) ([] : List Go.Ab.Upl)))]), (.pack [(.obj 107 [(.row 1), (.p (.int .i64 0))]), (.row .byte 5 (I.hid (α := (List UInt8)) ([] : List UInt8)))])])]))) (by kernel_rfl) ?_
  simp only [instL]
  subst hI
  exact ⟨trivial, trivial, trivial, rfl⟩
def stoNew__c (I : Alg) (args : List D) (hp : List HO) : Option CT := match args, hp with
  | [], [] => (fun (_ : Unit) => (some (.one ⟨I.hid (True), (.ret (.v (.one (.ptr 0 0)))), [.pack [.obj 47 [(.ptr 1 0), (.ptr 2 0)], .pack [.obj 79 [(.row 1), (.p (.int .i64 0))], .row .upl 70 (I.hid ([]))], .pack [.obj 107 [(.row 1), (.p (.int .i64 0))], .row .byte 5 (I.hid ([]))]]]⟩) : Option CT)) ()
  | _, _ => none
theorem stoNew__g : GoodC Tryz.prog 8 (stoNew__c alg) := by
  intro args hp r h
  unfold stoNew__c at h
  split at h
  · cases h; exact fun hn => stoNew_ 
  · cases h
def stoNew__k : Know Tryz.prog := ⟨8, stoNew__c, stoNew__g⟩
def stoNew__l : Know Tryz.prog := ⟨8, fun I => lendC I (stoNew__c I), lendC_good stoNew__g⟩

set_option maxHeartbeats 4000000 in
theorem stoDo_ (l : List Upl) (n k i m : Int) (t : Str) (hneed : SplOk l n ∧ n ≤ 1000000 ∧ t.length ≤ 1000000) : Spc Tryz.prog 72 [.v (.one (.ptr 0 0)), .v (.agg [(.p (.int .i64 k)), (.p (.int .i64 i)), (.p (.int .i64 m)), (.p (.list .byte t))])] [.pack [.obj 79 [(.row 1), (.p (.int .i64 n))], .row .upl 70 l]] (.ret (.v (.one (.p (.int .i64 ((playC l n ⟨k, i, m, t⟩))))))) [.pack [.obj 79 [(.row 1), (.p (.int .i64 ((playN l n ⟨k, i, m, t⟩))))], .row .upl 70 ((playL l n ⟨k, i, m, t⟩))]] := by
  obtain ⟨hs, hn, ht⟩ := hneed
  generalize hc : playC l n ⟨k, i, m, t⟩ = c
  generalize hl : playL l n ⟨k, i, m, t⟩ = l'
  generalize hN : playN l n ⟨k, i, m, t⟩ = n'
  refine spcG tab_ok mixed Tryz.func72 (by kernel_rfl) { cfgSt with keep := some [0, 1, 3, 4, 5, 6, 7, 10] } [sCreate__k, sCreate__l, sAppend__k, sAppend__l, sDeclare__k, sDeclare__l, sBegin__k, sBegin__l, sEnd__k, sEnd__l, sGetB__k, sGetB__l, sGet__k, sGet__l, sDrop__k, sDrop__l] (by kernel_rfl) ?_
  intro I X hI hX
  refine ev_rule (let y0 := I.hid (α := (List Go.Ab.Upl)) (creL l n m t); let y1 := I.len (α := UInt8) (I.hid (α := (List UInt8)) (Go.Ab.Upl.bytes (getU l i))); .br (I.ieq k 1) (.need (I.hid (α := (Prop)) (And (SplOk l n) (And (LE.le n (1000000 : Int)) (LE.le (List.length t) 1000000)))) (.br (I.ieq (I.hid (α := Int) (creC l m t)) 0) (.br (I.bnot (I.ieq (I.hid (α := Int) (creI l n m t)) i)) (.fin (.ret (.v (.one (.p (.int .i64 20))))) [(.pack [(.obj 79 [(.row 1), (.p (.int .i64 (I.hid (α := Int) (creN l n m t))))]), (.row .upl 70 y0)])]) (.fin (.ret (.v (.one (.p (.int .i64 (I.hid (α := Int) (creC l m t))))))) [(.pack [(.obj 79 [(.row 1), (.p (.int .i64 (I.hid (α := Int) (creN l n m t))))]), (.row .upl 70 y0)])])) (.fin (.ret (.v (.one (.p (.int .i64 (I.hid (α := Int) (creC l m t))))))) [(.pack [(.obj 79 [(.row 1), (.p (.int .i64 (I.hid (α := Int) (creN l n m t))))]), (.row .upl 70 y0)])]))) (.br (I.ieq k 2) (.need (I.hid (α := (Prop)) (SplOk l n)) (.need (I.hid (α := (Prop)) (And (SplOk l n) (LE.le (List.length t) 1000000))) (.fin (.ret (.v (.one (.p (.int .i64 (I.hid (α := Int) (appC l i y1 t))))))) [(.pack [(.obj 79 [(.row 1), (.p (.int .i64 n))]), (.row .upl 70 (I.hid (α := (List Go.Ab.Upl)) (appL l i y1 t)))])]))) (.br (I.ieq k 3) (.need (I.hid (α := (Prop)) (SplOk l n)) (.fin (.ret (.v (.one (.p (.int .i64 (I.hid (α := Int) (decC l i m))))))) [(.pack [(.obj 79 [(.row 1), (.p (.int .i64 n))]), (.row .upl 70 (I.hid (α := (List Go.Ab.Upl)) (decL l i m)))])])) (.br (I.ieq k 4) (.need (I.hid (α := (Prop)) (SplOk l n)) (.fin (.ret (.v (.one (.p (.int .i64 (I.hid (α := Int) (droC l i))))))) [(.pack [(.obj 79 [(.row 1), (.p (.int .i64 n))]), (.row .upl 70 (I.hid (α := (List Go.Ab.Upl)) (droL l i)))])])) (.br (I.ieq k 5) (.need (I.hid (α := (Prop)) (SplOk l n)) (.fin (.ret (.v (.one (.p (.int .i64 (I.hid (α := Int) (begC l i))))))) [(.pack [(.obj 79 [(.row 1), (.p (.int .i64 n))]), (.row .upl 70 (I.hid (α := (List Go.Ab.Upl)) (begL l i)))])])) (.need (I.hid (α := (Prop)) (SplOk l n)) (.fin (.ret (.v (.one (.p (.int .i64 (I.hid (α := Int) (endC l i))))))) [(.pack [(.obj 79 [(.row 1), (.p (.int .i64 n))]), (.row .upl 70 (I.hid (α := (List Go.Ab.Upl)) (endL l i)))])]))))))) (by kernel_rfl) ?_
  simp only [instL]
  subst hI
  simp only [nrmA, nrmB, nrlB, reduceCtorEq, HO.pack.injEq, HO.obj.injEq]
  unfold playC at hc
  unfold playL at hl
  unfold playN at hN
  simp only at hc hl hN
  have hci : creC l m t = 0 → creI l n m t = n + 1 := fun h => by unfold creI; rw [if_pos h]
  (repeat' (first | refine And.intro ?_ ?_ | intro _)) <;> first | omega | exact True.intro | exact False.elim ‹False› | skip
  all_goals first
    | exact hs
    | exact hn
    | exact ht
    | exact ⟨hs, hn, ht⟩
    | exact ⟨hs, ht⟩
    | (have := hci (by assumption); ((repeat (first | rewrite [if_pos (by first | omega | assumption | (simp only [*, or_self, or_true, true_or, or_false, false_or, not_true_eq_false, not_false_eq_true, Bool.false_eq_true, Bool.true_eq_false, and_self, and_true, true_and]; done) | (simp only [*]; omega) | (simp [*]; done) | (simp [*]; omega))] at hc | rewrite [if_neg (by first | omega | assumption | (simp only [*, or_self, or_true, true_or, or_false, false_or, not_true_eq_false, not_false_eq_true, Bool.false_eq_true, Bool.true_eq_false, and_self, and_true, true_and]; done) | (simp only [*]; omega) | (simp [*]; done) | (simp [*]; omega))] at hc))); subst hc; ((repeat (first | rewrite [if_pos (by first | omega | assumption | (simp only [*, or_self, or_true, true_or, or_false, false_or, not_true_eq_false, not_false_eq_true, Bool.false_eq_true, Bool.true_eq_false, and_self, and_true, true_and]; done) | (simp only [*]; omega) | (simp [*]; done) | (simp [*]; omega))] at hl | rewrite [if_neg (by first | omega | assumption | (simp only [*, or_self, or_true, true_or, or_false, false_or, not_true_eq_false, not_false_eq_true, Bool.false_eq_true, Bool.true_eq_false, and_self, and_true, true_and]; done) | (simp only [*]; omega) | (simp [*]; done) | (simp [*]; omega))] at hl))); subst hl; ((repeat (first | rewrite [if_pos (by first | omega | assumption | (simp only [*, or_self, or_true, true_or, or_false, false_or, not_true_eq_false, not_false_eq_true, Bool.false_eq_true, Bool.true_eq_false, and_self, and_true, true_and]; done) | (simp only [*]; omega) | (simp [*]; done) | (simp [*]; omega))] at hN | rewrite [if_neg (by first | omega | assumption | (simp only [*, or_self, or_true, true_or, or_false, false_or, not_true_eq_false, not_false_eq_true, Bool.false_eq_true, Bool.true_eq_false, and_self, and_true, true_and]; done) | (simp only [*]; omega) | (simp [*]; done) | (simp [*]; omega))] at hN))); subst hN; first | rfl | omega)
    | (((repeat (first | rewrite [if_pos (by first | omega | assumption | (simp only [*, or_self, or_true, true_or, or_false, false_or, not_true_eq_false, not_false_eq_true, Bool.false_eq_true, Bool.true_eq_false, and_self, and_true, true_and]; done) | (simp only [*]; omega) | (simp [*]; done) | (simp [*]; omega))] at hc | rewrite [if_neg (by first | omega | assumption | (simp only [*, or_self, or_true, true_or, or_false, false_or, not_true_eq_false, not_false_eq_true, Bool.false_eq_true, Bool.true_eq_false, and_self, and_true, true_and]; done) | (simp only [*]; omega) | (simp [*]; done) | (simp [*]; omega))] at hc))); subst hc; ((repeat (first | rewrite [if_pos (by first | omega | assumption | (simp only [*, or_self, or_true, true_or, or_false, false_or, not_true_eq_false, not_false_eq_true, Bool.false_eq_true, Bool.true_eq_false, and_self, and_true, true_and]; done) | (simp only [*]; omega) | (simp [*]; done) | (simp [*]; omega))] at hl | rewrite [if_neg (by first | omega | assumption | (simp only [*, or_self, or_true, true_or, or_false, false_or, not_true_eq_false, not_false_eq_true, Bool.false_eq_true, Bool.true_eq_false, and_self, and_true, true_and]; done) | (simp only [*]; omega) | (simp [*]; done) | (simp [*]; omega))] at hl))); subst hl; ((repeat (first | rewrite [if_pos (by first | omega | assumption | (simp only [*, or_self, or_true, true_or, or_false, false_or, not_true_eq_false, not_false_eq_true, Bool.false_eq_true, Bool.true_eq_false, and_self, and_true, true_and]; done) | (simp only [*]; omega) | (simp [*]; done) | (simp [*]; omega))] at hN | rewrite [if_neg (by first | omega | assumption | (simp only [*, or_self, or_true, true_or, or_false, false_or, not_true_eq_false, not_false_eq_true, Bool.false_eq_true, Bool.true_eq_false, and_self, and_true, true_and]; done) | (simp only [*]; omega) | (simp [*]; done) | (simp [*]; omega))] at hN))); subst hN; first | rfl | omega)
    | trace_state
def stoDo__c (I : Alg) (args : List D) (hp : List HO) : Option CT := match args, hp with
  | [.v (.one (.ptr 0 0)), .v (.agg [(.p (.int .i64 k)), (.p (.int .i64 i)), (.p (.int .i64 m)), (.p (.list .byte t))])], [.pack [.obj 79 [(.row 1), (.p (.int .i64 n))], .row .upl 70 l]] => (fun (l : List Upl) (n k i m : Int) (t : Str) => (some (.one ⟨I.hid (SplOk l n ∧ n ≤ 1000000 ∧ t.length ≤ 1000000), (.ret (.v (.one (.p (.int .i64 (I.hid ((playC l n ⟨k, i, m, t⟩)))))))), [.pack [.obj 79 [(.row 1), (.p (.int .i64 (I.hid ((playN l n ⟨k, i, m, t⟩)))))], .row .upl 70 (I.hid ((playL l n ⟨k, i, m, t⟩)))]]⟩) : Option CT)) l n k i m t
  | _, _ => none
theorem stoDo__g : GoodC Tryz.prog 72 (stoDo__c alg) := by
  intro args hp r h
  unfold stoDo__c at h
  split at h
  · cases h; exact fun hn => stoDo_ _ _ _ _ _ _ hn
  · cases h
def stoDo__k : Know Tryz.prog := ⟨72, stoDo__c, stoDo__g⟩
def stoDo__l : Know Tryz.prog := ⟨72, fun I => lendC I (stoDo__c I), lendC_good stoDo__g⟩

theorem play_small (l : List Upl) (n : Int) (e : Ent) (h : n ≤ 200000) : playN l n e ≤ 1000000 := by have := playN_le l n e; omega
set_option maxHeartbeats 4000000 in
theorem stoWrite_ (l : List Upl) (n : Int) (b : Str) (s k i m : Int) (t : Str) (hneed : SplOk l n ∧ n ≤ 200000 ∧ t.length ≤ 1000000 ∧ b.length ≤ 100000) : Spc Tryz.prog 67 [.v (.one (.ptr 0 0)), .v (.agg [(.p (.int .i64 k)), (.p (.int .i64 i)), (.p (.int .i64 m)), (.p (.list .byte t))])] [.pack [.obj 47 [(.ptr 1 0), (.ptr 2 0)], .pack [.obj 79 [(.row 1), (.p (.int .i64 n))], .row .upl 70 l], .pack [.obj 107 [(.row 1), (.p (.int .i64 s))], .row .byte 5 b]]] (.ret (.v (.one (.p (.int .i64 ((wrtC l n b ⟨k, i, m, t⟩))))))) [.pack [.obj 47 [(.ptr 1 0), (.ptr 2 0)], .pack [.obj 79 [(.row 1), (.p (.int .i64 ((wrtN l n b ⟨k, i, m, t⟩))))], .row .upl 70 ((wrtL l n b ⟨k, i, m, t⟩))], .pack [.obj 107 [(.row 1), (.p (.int .i64 s))], .row .byte 5 ((wrtB l n b ⟨k, i, m, t⟩))]]] := by
  obtain ⟨hs, hn, ht, hb⟩ := hneed
  generalize hc : wrtC l n b ⟨k, i, m, t⟩ = c
  generalize hl : wrtL l n b ⟨k, i, m, t⟩ = l'
  generalize hN : wrtN l n b ⟨k, i, m, t⟩ = n'
  generalize hB : wrtB l n b ⟨k, i, m, t⟩ = b'
  refine spcG tab_ok mixed Tryz.func67 (by kernel_rfl) { cfgSt with keep := some [0, 1, 3, 4, 5, 6, 7, 8] } [sCopy__k, sCopy__l, encode__k, encode__l, write__k, write__l, stoDo__k, stoDo__l] (by kernel_rfl) ?_
  intro I X hI hX
  refine ev_rule (let y0 := I.hid (α := (List UInt8)) (Go.Jrn.encM (Go.Ab.Ent.mk k i m t)); let y1 := I.hid (α := (Prop)) (And (SplOk l n) (And (LE.le n (1000000 : Int)) (LE.le (List.length t) 1000000))); let y2 := I.hid (α := Int) (playC l n (Go.Ab.Ent.mk k i m t)); let y3 := I.hid (α := Int) (Go.Jrn.encC (Go.Ab.Ent.mk k i m t)); let y4 := I.hid (α := (List UInt8)) (wrB b y0); .need (I.hid (α := (Prop)) (SplOk l n)) (.need y1 (.br (I.bnot (I.ieq y2 0)) (.fin (.ret (.v (.one (.p (.int .i64 y2))))) [(.pack [(.obj 47 [(.ptr 1 0), (.ptr 2 0)]), (.pack [(.obj 79 [(.row 1), (.p (.int .i64 n))]), (.row .upl 70 l)]), (.pack [(.obj 107 [(.row 1), (.p (.int .i64 s))]), (.row .byte 5 b)])])]) (.need (I.hid (α := (Prop)) True) (.br (I.bnot (I.ieq y3 0)) (.fin (.ret (.v (.one (.p (.int .i64 y3))))) [(.pack [(.obj 47 [(.ptr 1 0), (.ptr 2 0)]), (.pack [(.obj 79 [(.row 1), (.p (.int .i64 n))]), (.row .upl 70 l)]), (.pack [(.obj 107 [(.row 1), (.p (.int .i64 s))]), (.row .byte 5 b)])])]) (.need (I.hid (α := (Prop)) (And (LE.le (List.length b) 100000) (LE.le (List.length y0) 100000000))) (.br (I.bnot (I.ieq (I.hid (α := Int) (wrC b y0)) 0)) (.fin (.ret (.v (.one (.p (.int .i64 (I.hid (α := Int) (wrC b y0))))))) [(.pack [(.obj 47 [(.ptr 1 0), (.ptr 2 0)]), (.pack [(.obj 79 [(.row 1), (.p (.int .i64 n))]), (.row .upl 70 l)]), (.pack [(.obj 107 [(.row 1), (.p (.int .i64 s))]), (.row .byte 5 y4)])])]) (.need y1 (.fin (.ret (.v (.one (.p (.int .i64 y2))))) [(.pack [(.obj 47 [(.ptr 1 0), (.ptr 2 0)]), (.pack [(.obj 79 [(.row 1), (.p (.int .i64 (I.hid (α := Int) (playN l n (Go.Ab.Ent.mk k i m t)))))]), (.row .upl 70 (I.hid (α := (List Go.Ab.Upl)) (playL l n (Go.Ab.Ent.mk k i m t))))]), (.pack [(.obj 107 [(.row 1), (.p (.int .i64 s))]), (.row .byte 5 y4)])])]))))))))) (by kernel_rfl) ?_
  simp only [instL]
  subst hI
  simp only [nrmA, nrmB, nrlB, reduceCtorEq, HO.pack.injEq, HO.obj.injEq]
  have hel : (encM ⟨k, i, m, t⟩).length ≤ 2000000 := by
    unfold encM
    split
    · rename_i h
      have := encB_len h
      simp only at this
      omega
    · simp
  generalize he : (⟨k, i, m, t⟩ : Ent) = e at *
  have hem : encC e = 0 → encM e = encB e := fun h => by
    unfold encC at h
    unfold encM
    split at h
    · rename_i h2; rw [if_pos h2]
    · cases h
  have hw0 : ∀ x : Str, wrC b x = 0 → wrB b x = b ++ x := fun x h => by
    unfold wrC at h
    unfold wrB
    split at h
    · rename_i h2; rw [if_pos h2]
    · cases h
  have hw1 : ∀ x : Str, ¬ wrC b x = 0 → wrB b x = b := fun x h => by
    unfold wrC at h
    unfold wrB
    split at h
    · exact absurd rfl h
    · rename_i h2; rw [if_neg h2]
  unfold wrtL at hl
  unfold wrtN at hN
  unfold wrtB at hB
  rw [hc] at hl hN hB
  unfold wrtC at hc
  (repeat' (first | refine And.intro ?_ ?_ | intro _)) <;> first | omega | exact True.intro | exact False.elim ‹False› | skip
  all_goals first
    | exact hs
    | (((repeat (first | rewrite [if_pos (by first | omega | assumption | (simp only [*, or_self, or_true, true_or, or_false, false_or, not_true_eq_false, not_false_eq_true, Bool.false_eq_true, Bool.true_eq_false, and_self, and_true, true_and]; done) | (simp only [*]; omega) | (simp [*]; done) | (simp [*]; omega))] at hc | rewrite [if_neg (by first | omega | assumption | (simp only [*, or_self, or_true, true_or, or_false, false_or, not_true_eq_false, not_false_eq_true, Bool.false_eq_true, Bool.true_eq_false, and_self, and_true, true_and]; done) | (simp only [*]; omega) | (simp [*]; done) | (simp [*]; omega))] at hc))); subst hc; ((repeat (first | rewrite [if_pos (by first | omega | assumption | (simp only [*, or_self, or_true, true_or, or_false, false_or, not_true_eq_false, not_false_eq_true, Bool.false_eq_true, Bool.true_eq_false, and_self, and_true, true_and]; done) | (simp only [*]; omega) | (simp [*]; done) | (simp [*]; omega))] at hl | rewrite [if_neg (by first | omega | assumption | (simp only [*, or_self, or_true, true_or, or_false, false_or, not_true_eq_false, not_false_eq_true, Bool.false_eq_true, Bool.true_eq_false, and_self, and_true, true_and]; done) | (simp only [*]; omega) | (simp [*]; done) | (simp [*]; omega))] at hl))); subst hl; ((repeat (first | rewrite [if_pos (by first | omega | assumption | (simp only [*, or_self, or_true, true_or, or_false, false_or, not_true_eq_false, not_false_eq_true, Bool.false_eq_true, Bool.true_eq_false, and_self, and_true, true_and]; done) | (simp only [*]; omega) | (simp [*]; done) | (simp [*]; omega))] at hN | rewrite [if_neg (by first | omega | assumption | (simp only [*, or_self, or_true, true_or, or_false, false_or, not_true_eq_false, not_false_eq_true, Bool.false_eq_true, Bool.true_eq_false, and_self, and_true, true_and]; done) | (simp only [*]; omega) | (simp [*]; done) | (simp [*]; omega))] at hN))); subst hN; ((repeat (first | rewrite [if_pos (by first | omega | assumption | (simp only [*, or_self, or_true, true_or, or_false, false_or, not_true_eq_false, not_false_eq_true, Bool.false_eq_true, Bool.true_eq_false, and_self, and_true, true_and]; done) | (simp only [*]; omega) | (simp [*]; done) | (simp [*]; omega))] at hB | rewrite [if_neg (by first | omega | assumption | (simp only [*, or_self, or_true, true_or, or_false, false_or, not_true_eq_false, not_false_eq_true, Bool.false_eq_true, Bool.true_eq_false, and_self, and_true, true_and]; done) | (simp only [*]; omega) | (simp [*]; done) | (simp [*]; omega))] at hB))); subst hB; first | rfl | omega | exact hw1 _ (by assumption) | (rw [hw0 _ (by assumption), hem (by assumption)]))
    | trace_state
def stoWrite__c (I : Alg) (args : List D) (hp : List HO) : Option CT := match args, hp with
  | [.v (.one (.ptr 0 0)), .v (.agg [(.p (.int .i64 k)), (.p (.int .i64 i)), (.p (.int .i64 m)), (.p (.list .byte t))])], [.pack [.obj 47 [(.ptr 1 0), (.ptr 2 0)], .pack [.obj 79 [(.row 1), (.p (.int .i64 n))], .row .upl 70 l], .pack [.obj 107 [(.row 1), (.p (.int .i64 s))], .row .byte 5 b]]] => (fun (l : List Upl) (n : Int) (b : Str) (s k i m : Int) (t : Str) => (some (.one ⟨I.hid (SplOk l n ∧ n ≤ 200000 ∧ t.length ≤ 1000000 ∧ b.length ≤ 100000), (.ret (.v (.one (.p (.int .i64 (I.hid ((wrtC l n b ⟨k, i, m, t⟩)))))))), [.pack [.obj 47 [(.ptr 1 0), (.ptr 2 0)], .pack [.obj 79 [(.row 1), (.p (.int .i64 (I.hid ((wrtN l n b ⟨k, i, m, t⟩)))))], .row .upl 70 (I.hid ((wrtL l n b ⟨k, i, m, t⟩)))], .pack [.obj 107 [(.row 1), (.p (.int .i64 s))], .row .byte 5 (I.hid ((wrtB l n b ⟨k, i, m, t⟩)))]]]⟩) : Option CT)) l n b s k i m t
  | _, _ => none
theorem stoWrite__g : GoodC Tryz.prog 67 (stoWrite__c alg) := by
  intro args hp r h
  unfold stoWrite__c at h
  split at h
  · cases h; exact fun hn => stoWrite_ _ _ _ _ _ _ _ _ hn
  · cases h
def stoWrite__k : Know Tryz.prog := ⟨67, stoWrite__c, stoWrite__g⟩
def stoWrite__l : Know Tryz.prog := ⟨67, fun I => lendC I (stoWrite__c I), lendC_good stoWrite__g⟩

theorem stoCreate_ (l : List Upl) (n : Int) (b : Str) (s size : Int) (t : Str) (hneed : SplOk l n ∧ n ≤ 200000 ∧ t.length ≤ 1000000 ∧ b.length ≤ 100000) : Spc Tryz.prog 28 [.v (.one (.ptr 0 0)), .v (.one (.p (.int .i64 size))), .v (.one (.p (.str t)))] [.pack [.obj 47 [(.ptr 1 0), (.ptr 2 0)], .pack [.obj 79 [(.row 1), (.p (.int .i64 n))], .row .upl 70 l], .pack [.obj 107 [(.row 1), (.p (.int .i64 s))], .row .byte 5 b]]] (.ret (.tup [(.one (.p (.int .i64 ((if wrtC l n b ⟨1, n + 1, size, t⟩ = 0 then n + 1 else 0))))), (.one (.p (.int .i64 ((wrtC l n b ⟨1, n + 1, size, t⟩)))))])) [.pack [.obj 47 [(.ptr 1 0), (.ptr 2 0)], .pack [.obj 79 [(.row 1), (.p (.int .i64 ((wrtN l n b ⟨1, n + 1, size, t⟩))))], .row .upl 70 ((wrtL l n b ⟨1, n + 1, size, t⟩))], .pack [.obj 107 [(.row 1), (.p (.int .i64 s))], .row .byte 5 ((wrtB l n b ⟨1, n + 1, size, t⟩))]]] := by
  have hn0 := hneed.1.n0
  refine spcG tab_ok mixed Tryz.func28 (by kernel_rfl) { cfgSt with keep := some [0, 1, 2, 6, 7, 8, 9] } [sNext__k, sNext__l, stoWrite__k, stoWrite__l] (by kernel_rfl) ?_
  intro I X hI hX
  refine ev_rule (let y0 := I.hid (α := Int) (HAdd.hAdd n (1 : Int)); let y1 := I.hid (α := (List Go.Ab.Upl)) (wrtL l n b (Go.Ab.Ent.mk (1 : Int) y0 size t)); let y2 := I.hid (α := (List UInt8)) (wrtB l n b (Go.Ab.Ent.mk (1 : Int) y0 size t)); let y3 := I.hid (α := Int) (wrtC l n b (Go.Ab.Ent.mk (1 : Int) y0 size t)); let y4 := I.hid (α := Int) (wrtN l n b (Go.Ab.Ent.mk (1 : Int) y0 size t)); .need (I.hid (α := (Prop)) (And (LE.le (0 : Int) n) (LE.le n (1000000 : Int)))) (.need (I.hid (α := (Prop)) (And (SplOk l n) (And (LE.le n (200000 : Int)) (And (LE.le (List.length t) 1000000) (LE.le (List.length b) 100000))))) (.br (I.bnot (I.ieq y3 0)) (.fin (.ret (.tup [(.one (.p (.int .i64 0))), (.one (.p (.int .i64 y3)))])) [(.pack [(.obj 47 [(.ptr 1 0), (.ptr 2 0)]), (.pack [(.obj 79 [(.row 1), (.p (.int .i64 y4))]), (.row .upl 70 y1)]), (.pack [(.obj 107 [(.row 1), (.p (.int .i64 s))]), (.row .byte 5 y2)])])]) (.fin (.ret (.tup [(.one (.p (.int .i64 y0))), (.one (.p (.int .i64 0)))])) [(.pack [(.obj 47 [(.ptr 1 0), (.ptr 2 0)]), (.pack [(.obj 79 [(.row 1), (.p (.int .i64 y4))]), (.row .upl 70 y1)]), (.pack [(.obj 107 [(.row 1), (.p (.int .i64 s))]), (.row .byte 5 y2)])])])))) (by kernel_rfl) ?_
  simp only [instL]
  subst hI
  simp only [nrmA, nrmB, nrlB, reduceCtorEq, HO.pack.injEq, HO.obj.injEq]
  exact ⟨⟨hn0, by omega⟩, hneed, fun h => (if_neg h).symm, fun h => ⟨(if_pos h).symm, h.symm⟩⟩
def stoCreate__c (I : Alg) (args : List D) (hp : List HO) : Option CT := match args, hp with
  | [.v (.one (.ptr 0 0)), .v (.one (.p (.int .i64 size))), .v (.one (.p (.str t)))], [.pack [.obj 47 [(.ptr 1 0), (.ptr 2 0)], .pack [.obj 79 [(.row 1), (.p (.int .i64 n))], .row .upl 70 l], .pack [.obj 107 [(.row 1), (.p (.int .i64 s))], .row .byte 5 b]]] => (fun (l : List Upl) (n : Int) (b : Str) (s size : Int) (t : Str) => (some (.one ⟨I.hid (SplOk l n ∧ n ≤ 200000 ∧ t.length ≤ 1000000 ∧ b.length ≤ 100000), (.ret (.tup [(.one (.p (.int .i64 (I.hid ((if wrtC l n b ⟨1, n + 1, size, t⟩ = 0 then n + 1 else 0)))))), (.one (.p (.int .i64 (I.hid ((wrtC l n b ⟨1, n + 1, size, t⟩))))))])), [.pack [.obj 47 [(.ptr 1 0), (.ptr 2 0)], .pack [.obj 79 [(.row 1), (.p (.int .i64 (I.hid ((wrtN l n b ⟨1, n + 1, size, t⟩)))))], .row .upl 70 (I.hid ((wrtL l n b ⟨1, n + 1, size, t⟩)))], .pack [.obj 107 [(.row 1), (.p (.int .i64 s))], .row .byte 5 (I.hid ((wrtB l n b ⟨1, n + 1, size, t⟩)))]]]⟩) : Option CT)) l n b s size t
  | _, _ => none
theorem stoCreate__g : GoodC Tryz.prog 28 (stoCreate__c alg) := by
  intro args hp r h
  unfold stoCreate__c at h
  split at h
  · cases h; exact fun hn => stoCreate_ _ _ _ _ _ _ hn
  · cases h
def stoCreate__k : Know Tryz.prog := ⟨28, stoCreate__c, stoCreate__g⟩
def stoCreate__l : Know Tryz.prog := ⟨28, fun I => lendC I (stoCreate__c I), lendC_good stoCreate__g⟩

def apG (l : List Upl) (id off : Int) : Bool := getB l id && (decide ((getU l id).sent = 0) && !decide (off = (getU l id).bytes.length))
def apE (id : Int) (x : Str) : Ent := ⟨2, id, 0, x⟩
theorem stoAppend_ (l : List Upl) (n : Int) (b : Str) (s id off : Int) (x : Str) (hneed : SplOk l n ∧ n ≤ 200000 ∧ x.length ≤ 1000000 ∧ b.length ≤ 100000) : Spc Tryz.prog 30 [.v (.one (.ptr 0 0)), .v (.one (.p (.int .i64 id))), .v (.one (.p (.int .i64 off))), .v (.one (.p (.list .byte x)))] [.pack [.obj 47 [(.ptr 1 0), (.ptr 2 0)], .pack [.obj 79 [(.row 1), (.p (.int .i64 n))], .row .upl 70 l], .pack [.obj 107 [(.row 1), (.p (.int .i64 s))], .row .byte 5 b]]] (.ret (.v (.one (.p (.int .i64 ((if apG l id off then 17 else wrtC l n b ⟨2, id, 0, x⟩))))))) [.pack [.obj 47 [(.ptr 1 0), (.ptr 2 0)], .pack [.obj 79 [(.row 1), (.p (.int .i64 ((if apG l id off then n else wrtN l n b ⟨2, id, 0, x⟩))))], .row .upl 70 ((if apG l id off then l else wrtL l n b ⟨2, id, 0, x⟩))], .pack [.obj 107 [(.row 1), (.p (.int .i64 s))], .row .byte 5 ((if apG l id off then b else wrtB l n b ⟨2, id, 0, x⟩))]]] := by
  generalize hg : apG l id off = g
  refine spcG tab_ok mixed Tryz.func30 (by kernel_rfl) { cfgSt with keep := some [0, 1, 2, 3, 8, 9, 10] } [sGetB__k, sGetB__l, sGet__k, sGet__l, stoWrite__k, stoWrite__l] (by kernel_rfl) ?_
  intro I X hI hX
  refine ev_rule (let y0 := I.hid (α := (Prop)) (And (SplOk l n) (And (LE.le n (200000 : Int)) (And (LE.le (List.length x) 1000000) (LE.le (List.length b) 100000)))); let y1 := I.hid (α := (List Go.Ab.Upl)) (wrtL l n b (Go.Ab.Ent.mk (2 : Int) id (0 : Int) x)); let y2 := I.hid (α := (List UInt8)) (wrtB l n b (Go.Ab.Ent.mk (2 : Int) id (0 : Int) x)); let y3 := I.hid (α := Int) (wrtC l n b (Go.Ab.Ent.mk (2 : Int) id (0 : Int) x)); let y4 := I.hid (α := Int) (wrtN l n b (Go.Ab.Ent.mk (2 : Int) id (0 : Int) x)); .need (I.hid (α := (Prop)) (SplOk l n)) (.br (I.hid (α := Bool) (getB l id)) (.br (I.ieq (I.hid (α := Int) (Go.Ab.Upl.sent (getU l id))) 0) (.br (I.bnot (I.ieq off (I.len (α := UInt8) (I.hid (α := (List UInt8)) (Go.Ab.Upl.bytes (getU l id)))))) (.fin (.ret (.v (.one (.p (.int .i64 17))))) [(.pack [(.obj 47 [(.ptr 1 0), (.ptr 2 0)]), (.pack [(.obj 79 [(.row 1), (.p (.int .i64 n))]), (.row .upl 70 l)]), (.pack [(.obj 107 [(.row 1), (.p (.int .i64 s))]), (.row .byte 5 b)])])]) (.need y0 (.fin (.ret (.v (.one (.p (.int .i64 y3))))) [(.pack [(.obj 47 [(.ptr 1 0), (.ptr 2 0)]), (.pack [(.obj 79 [(.row 1), (.p (.int .i64 y4))]), (.row .upl 70 y1)]), (.pack [(.obj 107 [(.row 1), (.p (.int .i64 s))]), (.row .byte 5 y2)])])]))) (.need y0 (.fin (.ret (.v (.one (.p (.int .i64 y3))))) [(.pack [(.obj 47 [(.ptr 1 0), (.ptr 2 0)]), (.pack [(.obj 79 [(.row 1), (.p (.int .i64 y4))]), (.row .upl 70 y1)]), (.pack [(.obj 107 [(.row 1), (.p (.int .i64 s))]), (.row .byte 5 y2)])])]))) (.need y0 (.fin (.ret (.v (.one (.p (.int .i64 y3))))) [(.pack [(.obj 47 [(.ptr 1 0), (.ptr 2 0)]), (.pack [(.obj 79 [(.row 1), (.p (.int .i64 y4))]), (.row .upl 70 y1)]), (.pack [(.obj 107 [(.row 1), (.p (.int .i64 s))]), (.row .byte 5 y2)])])])))) (by kernel_rfl) ?_
  simp only [instL]
  subst hI
  simp only [nrmA, nrmB, nrlB, reduceCtorEq, HO.pack.injEq, HO.obj.injEq]
  (repeat' (first | refine And.intro ?_ ?_ | intro _)) <;> first | omega | exact True.intro | exact False.elim ‹False› | skip
  all_goals first
    | exact hneed.1
    | exact hneed
    | exact hneed.2.1
    | exact hneed.2.2.1
    | exact hneed.2.2.2
    | (have h : g = true := (by rw [← hg]; unfold apG; simp [*]); subst h; rfl)
    | (have h : g = false := (by rw [← hg]; unfold apG; simp [*]); subst h; rfl)
    | trace_state
def stoAppend__c (I : Alg) (args : List D) (hp : List HO) : Option CT := match args, hp with
  | [.v (.one (.ptr 0 0)), .v (.one (.p (.int .i64 id))), .v (.one (.p (.int .i64 off))), .v (.one (.p (.list .byte x)))], [.pack [.obj 47 [(.ptr 1 0), (.ptr 2 0)], .pack [.obj 79 [(.row 1), (.p (.int .i64 n))], .row .upl 70 l], .pack [.obj 107 [(.row 1), (.p (.int .i64 s))], .row .byte 5 b]]] => (fun (l : List Upl) (n : Int) (b : Str) (s id off : Int) (x : Str) => (some (.one ⟨I.hid (SplOk l n ∧ n ≤ 200000 ∧ x.length ≤ 1000000 ∧ b.length ≤ 100000), (.ret (.v (.one (.p (.int .i64 (I.hid ((if apG l id off then 17 else wrtC l n b ⟨2, id, 0, x⟩)))))))), [.pack [.obj 47 [(.ptr 1 0), (.ptr 2 0)], .pack [.obj 79 [(.row 1), (.p (.int .i64 (I.hid ((if apG l id off then n else wrtN l n b ⟨2, id, 0, x⟩)))))], .row .upl 70 (I.hid ((if apG l id off then l else wrtL l n b ⟨2, id, 0, x⟩)))], .pack [.obj 107 [(.row 1), (.p (.int .i64 s))], .row .byte 5 (I.hid ((if apG l id off then b else wrtB l n b ⟨2, id, 0, x⟩)))]]]⟩) : Option CT)) l n b s id off x
  | _, _ => none
theorem stoAppend__g : GoodC Tryz.prog 30 (stoAppend__c alg) := by
  intro args hp r h
  unfold stoAppend__c at h
  split at h
  · cases h; exact fun hn => stoAppend_ _ _ _ _ _ _ _ hn
  · cases h
def stoAppend__k : Know Tryz.prog := ⟨30, stoAppend__c, stoAppend__g⟩
def stoAppend__l : Know Tryz.prog := ⟨30, fun I => lendC I (stoAppend__c I), lendC_good stoAppend__g⟩

theorem stoDeclare_ (l : List Upl) (n : Int) (b : Str) (s id size : Int) (hneed : SplOk l n ∧ n ≤ 200000 ∧ b.length ≤ 100000) : Spc Tryz.prog 35 [.v (.one (.ptr 0 0)), .v (.one (.p (.int .i64 id))), .v (.one (.p (.int .i64 size)))] [.pack [.obj 47 [(.ptr 1 0), (.ptr 2 0)], .pack [.obj 79 [(.row 1), (.p (.int .i64 n))], .row .upl 70 l], .pack [.obj 107 [(.row 1), (.p (.int .i64 s))], .row .byte 5 b]]] (.ret (.v (.one (.p (.int .i64 ((wrtC l n b ⟨3, id, size, []⟩))))))) [.pack [.obj 47 [(.ptr 1 0), (.ptr 2 0)], .pack [.obj 79 [(.row 1), (.p (.int .i64 ((wrtN l n b ⟨3, id, size, []⟩))))], .row .upl 70 ((wrtL l n b ⟨3, id, size, []⟩))], .pack [.obj 107 [(.row 1), (.p (.int .i64 s))], .row .byte 5 ((wrtB l n b ⟨3, id, size, []⟩))]]] := by
  refine spcG tab_ok mixed Tryz.func35 (by kernel_rfl) { cfgSt with keep := some [0, 1, 2, 6] } [stoWrite__k, stoWrite__l] (by kernel_rfl) ?_
  intro I X hI hX
  refine ev_rule (.need (I.hid (α := (Prop)) (And (SplOk l n) (And (LE.le n (200000 : Int)) (And (LE.le (List.length ([] : List UInt8)) 1000000) (LE.le (List.length b) 100000))))) (.fin (.ret (.v (.one (.p (.int .i64 (I.hid (α := Int) (wrtC l n b (Go.Ab.Ent.mk (3 : Int) id size ([] : List UInt8))))))))) [(.pack [(.obj 47 [(.ptr 1 0), (.ptr 2 0)]), (.pack [(.obj 79 [(.row 1), (.p (.int .i64 (I.hid (α := Int) (wrtN l n b (Go.Ab.Ent.mk (3 : Int) id size ([] : List UInt8))))))]), (.row .upl 70 (I.hid (α := (List Go.Ab.Upl)) (wrtL l n b (Go.Ab.Ent.mk (3 : Int) id size ([] : List UInt8)))))]), (.pack [(.obj 107 [(.row 1), (.p (.int .i64 s))]), (.row .byte 5 (I.hid (α := (List UInt8)) (wrtB l n b (Go.Ab.Ent.mk (3 : Int) id size ([] : List UInt8)))))])])])) (by kernel_rfl) ?_
  simp only [instL]
  subst hI
  simp only [nrmA, nrmB, nrlB, reduceCtorEq, HO.pack.injEq, HO.obj.injEq]
  exact ⟨hneed.1, hneed.2.1, by decide, hneed.2.2⟩
def stoDeclare__c (I : Alg) (args : List D) (hp : List HO) : Option CT := match args, hp with
  | [.v (.one (.ptr 0 0)), .v (.one (.p (.int .i64 id))), .v (.one (.p (.int .i64 size)))], [.pack [.obj 47 [(.ptr 1 0), (.ptr 2 0)], .pack [.obj 79 [(.row 1), (.p (.int .i64 n))], .row .upl 70 l], .pack [.obj 107 [(.row 1), (.p (.int .i64 s))], .row .byte 5 b]]] => (fun (l : List Upl) (n : Int) (b : Str) (s id size : Int) => (some (.one ⟨I.hid (SplOk l n ∧ n ≤ 200000 ∧ b.length ≤ 100000), (.ret (.v (.one (.p (.int .i64 (I.hid ((wrtC l n b ⟨3, id, size, []⟩)))))))), [.pack [.obj 47 [(.ptr 1 0), (.ptr 2 0)], .pack [.obj 79 [(.row 1), (.p (.int .i64 (I.hid ((wrtN l n b ⟨3, id, size, []⟩)))))], .row .upl 70 (I.hid ((wrtL l n b ⟨3, id, size, []⟩)))], .pack [.obj 107 [(.row 1), (.p (.int .i64 s))], .row .byte 5 (I.hid ((wrtB l n b ⟨3, id, size, []⟩)))]]]⟩) : Option CT)) l n b s id size
  | _, _ => none
theorem stoDeclare__g : GoodC Tryz.prog 35 (stoDeclare__c alg) := by
  intro args hp r h
  unfold stoDeclare__c at h
  split at h
  · cases h; exact fun hn => stoDeclare_ _ _ _ _ _ _ hn
  · cases h
def stoDeclare__k : Know Tryz.prog := ⟨35, stoDeclare__c, stoDeclare__g⟩
def stoDeclare__l : Know Tryz.prog := ⟨35, fun I => lendC I (stoDeclare__c I), lendC_good stoDeclare__g⟩

theorem stoDrop_ (l : List Upl) (n : Int) (b : Str) (s id : Int) (hneed : SplOk l n ∧ n ≤ 200000 ∧ b.length ≤ 100000) : Spc Tryz.prog 36 [.v (.one (.ptr 0 0)), .v (.one (.p (.int .i64 id)))] [.pack [.obj 47 [(.ptr 1 0), (.ptr 2 0)], .pack [.obj 79 [(.row 1), (.p (.int .i64 n))], .row .upl 70 l], .pack [.obj 107 [(.row 1), (.p (.int .i64 s))], .row .byte 5 b]]] (.ret (.v (.one (.p (.int .i64 ((wrtC l n b ⟨4, id, 0, []⟩))))))) [.pack [.obj 47 [(.ptr 1 0), (.ptr 2 0)], .pack [.obj 79 [(.row 1), (.p (.int .i64 ((wrtN l n b ⟨4, id, 0, []⟩))))], .row .upl 70 ((wrtL l n b ⟨4, id, 0, []⟩))], .pack [.obj 107 [(.row 1), (.p (.int .i64 s))], .row .byte 5 ((wrtB l n b ⟨4, id, 0, []⟩))]]] := by
  refine spcG tab_ok mixed Tryz.func36 (by kernel_rfl) { cfgSt with keep := some [0, 1, 4] } [stoWrite__k, stoWrite__l] (by kernel_rfl) ?_
  intro I X hI hX
  refine ev_rule (.need (I.hid (α := (Prop)) (And (SplOk l n) (And (LE.le n (200000 : Int)) (And (LE.le (List.length ([] : List UInt8)) 1000000) (LE.le (List.length b) 100000))))) (.fin (.ret (.v (.one (.p (.int .i64 (I.hid (α := Int) (wrtC l n b (Go.Ab.Ent.mk (4 : Int) id (0 : Int) ([] : List UInt8))))))))) [(.pack [(.obj 47 [(.ptr 1 0), (.ptr 2 0)]), (.pack [(.obj 79 [(.row 1), (.p (.int .i64 (I.hid (α := Int) (wrtN l n b (Go.Ab.Ent.mk (4 : Int) id (0 : Int) ([] : List UInt8))))))]), (.row .upl 70 (I.hid (α := (List Go.Ab.Upl)) (wrtL l n b (Go.Ab.Ent.mk (4 : Int) id (0 : Int) ([] : List UInt8)))))]), (.pack [(.obj 107 [(.row 1), (.p (.int .i64 s))]), (.row .byte 5 (I.hid (α := (List UInt8)) (wrtB l n b (Go.Ab.Ent.mk (4 : Int) id (0 : Int) ([] : List UInt8)))))])])])) (by kernel_rfl) ?_
  simp only [instL]
  subst hI
  simp only [nrmA, nrmB, nrlB, reduceCtorEq, HO.pack.injEq, HO.obj.injEq]
  exact ⟨hneed.1, hneed.2.1, by decide, hneed.2.2⟩
def stoDrop__c (I : Alg) (args : List D) (hp : List HO) : Option CT := match args, hp with
  | [.v (.one (.ptr 0 0)), .v (.one (.p (.int .i64 id)))], [.pack [.obj 47 [(.ptr 1 0), (.ptr 2 0)], .pack [.obj 79 [(.row 1), (.p (.int .i64 n))], .row .upl 70 l], .pack [.obj 107 [(.row 1), (.p (.int .i64 s))], .row .byte 5 b]]] => (fun (l : List Upl) (n : Int) (b : Str) (s id : Int) => (some (.one ⟨I.hid (SplOk l n ∧ n ≤ 200000 ∧ b.length ≤ 100000), (.ret (.v (.one (.p (.int .i64 (I.hid ((wrtC l n b ⟨4, id, 0, []⟩)))))))), [.pack [.obj 47 [(.ptr 1 0), (.ptr 2 0)], .pack [.obj 79 [(.row 1), (.p (.int .i64 (I.hid ((wrtN l n b ⟨4, id, 0, []⟩)))))], .row .upl 70 (I.hid ((wrtL l n b ⟨4, id, 0, []⟩)))], .pack [.obj 107 [(.row 1), (.p (.int .i64 s))], .row .byte 5 (I.hid ((wrtB l n b ⟨4, id, 0, []⟩)))]]]⟩) : Option CT)) l n b s id
  | _, _ => none
theorem stoDrop__g : GoodC Tryz.prog 36 (stoDrop__c alg) := by
  intro args hp r h
  unfold stoDrop__c at h
  split at h
  · cases h; exact fun hn => stoDrop_ _ _ _ _ _ hn
  · cases h
def stoDrop__k : Know Tryz.prog := ⟨36, stoDrop__c, stoDrop__g⟩
def stoDrop__l : Know Tryz.prog := ⟨36, fun I => lendC I (stoDrop__c I), lendC_good stoDrop__g⟩

theorem stoBegin_ (l : List Upl) (n : Int) (b : Str) (s id : Int) (hneed : SplOk l n ∧ n ≤ 200000 ∧ b.length ≤ 100000) : Spc Tryz.prog 37 [.v (.one (.ptr 0 0)), .v (.one (.p (.int .i64 id)))] [.pack [.obj 47 [(.ptr 1 0), (.ptr 2 0)], .pack [.obj 79 [(.row 1), (.p (.int .i64 n))], .row .upl 70 l], .pack [.obj 107 [(.row 1), (.p (.int .i64 s))], .row .byte 5 b]]] (.ret (.v (.one (.p (.int .i64 ((wrtC l n b ⟨5, id, 0, []⟩))))))) [.pack [.obj 47 [(.ptr 1 0), (.ptr 2 0)], .pack [.obj 79 [(.row 1), (.p (.int .i64 ((wrtN l n b ⟨5, id, 0, []⟩))))], .row .upl 70 ((wrtL l n b ⟨5, id, 0, []⟩))], .pack [.obj 107 [(.row 1), (.p (.int .i64 s))], .row .byte 5 ((wrtB l n b ⟨5, id, 0, []⟩))]]] := by
  refine spcG tab_ok mixed Tryz.func37 (by kernel_rfl) { cfgSt with keep := some [0, 1, 4] } [stoWrite__k, stoWrite__l] (by kernel_rfl) ?_
  intro I X hI hX
  refine ev_rule (.need (I.hid (α := (Prop)) (And (SplOk l n) (And (LE.le n (200000 : Int)) (And (LE.le (List.length ([] : List UInt8)) 1000000) (LE.le (List.length b) 100000))))) (.fin (.ret (.v (.one (.p (.int .i64 (I.hid (α := Int) (wrtC l n b (Go.Ab.Ent.mk (5 : Int) id (0 : Int) ([] : List UInt8))))))))) [(.pack [(.obj 47 [(.ptr 1 0), (.ptr 2 0)]), (.pack [(.obj 79 [(.row 1), (.p (.int .i64 (I.hid (α := Int) (wrtN l n b (Go.Ab.Ent.mk (5 : Int) id (0 : Int) ([] : List UInt8))))))]), (.row .upl 70 (I.hid (α := (List Go.Ab.Upl)) (wrtL l n b (Go.Ab.Ent.mk (5 : Int) id (0 : Int) ([] : List UInt8)))))]), (.pack [(.obj 107 [(.row 1), (.p (.int .i64 s))]), (.row .byte 5 (I.hid (α := (List UInt8)) (wrtB l n b (Go.Ab.Ent.mk (5 : Int) id (0 : Int) ([] : List UInt8)))))])])])) (by kernel_rfl) ?_
  simp only [instL]
  subst hI
  simp only [nrmA, nrmB, nrlB, reduceCtorEq, HO.pack.injEq, HO.obj.injEq]
  exact ⟨hneed.1, hneed.2.1, by decide, hneed.2.2⟩
def stoBegin__c (I : Alg) (args : List D) (hp : List HO) : Option CT := match args, hp with
  | [.v (.one (.ptr 0 0)), .v (.one (.p (.int .i64 id)))], [.pack [.obj 47 [(.ptr 1 0), (.ptr 2 0)], .pack [.obj 79 [(.row 1), (.p (.int .i64 n))], .row .upl 70 l], .pack [.obj 107 [(.row 1), (.p (.int .i64 s))], .row .byte 5 b]]] => (fun (l : List Upl) (n : Int) (b : Str) (s id : Int) => (some (.one ⟨I.hid (SplOk l n ∧ n ≤ 200000 ∧ b.length ≤ 100000), (.ret (.v (.one (.p (.int .i64 (I.hid ((wrtC l n b ⟨5, id, 0, []⟩)))))))), [.pack [.obj 47 [(.ptr 1 0), (.ptr 2 0)], .pack [.obj 79 [(.row 1), (.p (.int .i64 (I.hid ((wrtN l n b ⟨5, id, 0, []⟩)))))], .row .upl 70 (I.hid ((wrtL l n b ⟨5, id, 0, []⟩)))], .pack [.obj 107 [(.row 1), (.p (.int .i64 s))], .row .byte 5 (I.hid ((wrtB l n b ⟨5, id, 0, []⟩)))]]]⟩) : Option CT)) l n b s id
  | _, _ => none
theorem stoBegin__g : GoodC Tryz.prog 37 (stoBegin__c alg) := by
  intro args hp r h
  unfold stoBegin__c at h
  split at h
  · cases h; exact fun hn => stoBegin_ _ _ _ _ _ hn
  · cases h
def stoBegin__k : Know Tryz.prog := ⟨37, stoBegin__c, stoBegin__g⟩
def stoBegin__l : Know Tryz.prog := ⟨37, fun I => lendC I (stoBegin__c I), lendC_good stoBegin__g⟩

theorem stoEnd_ (l : List Upl) (n : Int) (b : Str) (s id : Int) (hneed : SplOk l n ∧ n ≤ 200000 ∧ b.length ≤ 100000) : Spc Tryz.prog 38 [.v (.one (.ptr 0 0)), .v (.one (.p (.int .i64 id)))] [.pack [.obj 47 [(.ptr 1 0), (.ptr 2 0)], .pack [.obj 79 [(.row 1), (.p (.int .i64 n))], .row .upl 70 l], .pack [.obj 107 [(.row 1), (.p (.int .i64 s))], .row .byte 5 b]]] (.ret (.v (.one (.p (.int .i64 ((wrtC l n b ⟨6, id, 0, []⟩))))))) [.pack [.obj 47 [(.ptr 1 0), (.ptr 2 0)], .pack [.obj 79 [(.row 1), (.p (.int .i64 ((wrtN l n b ⟨6, id, 0, []⟩))))], .row .upl 70 ((wrtL l n b ⟨6, id, 0, []⟩))], .pack [.obj 107 [(.row 1), (.p (.int .i64 s))], .row .byte 5 ((wrtB l n b ⟨6, id, 0, []⟩))]]] := by
  refine spcG tab_ok mixed Tryz.func38 (by kernel_rfl) { cfgSt with keep := some [0, 1, 4] } [stoWrite__k, stoWrite__l] (by kernel_rfl) ?_
  intro I X hI hX
  refine ev_rule (.need (I.hid (α := (Prop)) (And (SplOk l n) (And (LE.le n (200000 : Int)) (And (LE.le (List.length ([] : List UInt8)) 1000000) (LE.le (List.length b) 100000))))) (.fin (.ret (.v (.one (.p (.int .i64 (I.hid (α := Int) (wrtC l n b (Go.Ab.Ent.mk (6 : Int) id (0 : Int) ([] : List UInt8))))))))) [(.pack [(.obj 47 [(.ptr 1 0), (.ptr 2 0)]), (.pack [(.obj 79 [(.row 1), (.p (.int .i64 (I.hid (α := Int) (wrtN l n b (Go.Ab.Ent.mk (6 : Int) id (0 : Int) ([] : List UInt8))))))]), (.row .upl 70 (I.hid (α := (List Go.Ab.Upl)) (wrtL l n b (Go.Ab.Ent.mk (6 : Int) id (0 : Int) ([] : List UInt8)))))]), (.pack [(.obj 107 [(.row 1), (.p (.int .i64 s))]), (.row .byte 5 (I.hid (α := (List UInt8)) (wrtB l n b (Go.Ab.Ent.mk (6 : Int) id (0 : Int) ([] : List UInt8)))))])])])) (by kernel_rfl) ?_
  simp only [instL]
  subst hI
  simp only [nrmA, nrmB, nrlB, reduceCtorEq, HO.pack.injEq, HO.obj.injEq]
  exact ⟨hneed.1, hneed.2.1, by decide, hneed.2.2⟩
def stoEnd__c (I : Alg) (args : List D) (hp : List HO) : Option CT := match args, hp with
  | [.v (.one (.ptr 0 0)), .v (.one (.p (.int .i64 id)))], [.pack [.obj 47 [(.ptr 1 0), (.ptr 2 0)], .pack [.obj 79 [(.row 1), (.p (.int .i64 n))], .row .upl 70 l], .pack [.obj 107 [(.row 1), (.p (.int .i64 s))], .row .byte 5 b]]] => (fun (l : List Upl) (n : Int) (b : Str) (s id : Int) => (some (.one ⟨I.hid (SplOk l n ∧ n ≤ 200000 ∧ b.length ≤ 100000), (.ret (.v (.one (.p (.int .i64 (I.hid ((wrtC l n b ⟨6, id, 0, []⟩)))))))), [.pack [.obj 47 [(.ptr 1 0), (.ptr 2 0)], .pack [.obj 79 [(.row 1), (.p (.int .i64 (I.hid ((wrtN l n b ⟨6, id, 0, []⟩)))))], .row .upl 70 (I.hid ((wrtL l n b ⟨6, id, 0, []⟩)))], .pack [.obj 107 [(.row 1), (.p (.int .i64 s))], .row .byte 5 (I.hid ((wrtB l n b ⟨6, id, 0, []⟩)))]]]⟩) : Option CT)) l n b s id
  | _, _ => none
theorem stoEnd__g : GoodC Tryz.prog 38 (stoEnd__c alg) := by
  intro args hp r h
  unfold stoEnd__c at h
  split at h
  · cases h; exact fun hn => stoEnd_ _ _ _ _ _ hn
  · cases h
def stoEnd__k : Know Tryz.prog := ⟨38, stoEnd__c, stoEnd__g⟩
def stoEnd__l : Know Tryz.prog := ⟨38, fun I => lendC I (stoEnd__c I), lendC_good stoEnd__g⟩

theorem stoSync_ (l : List Upl) (n : Int) (b : Str) (s : Int) : Spc Tryz.prog 29 [.v (.one (.ptr 0 0))] [.pack [.obj 47 [(.ptr 1 0), (.ptr 2 0)], .pack [.obj 79 [(.row 1), (.p (.int .i64 n))], .row .upl 70 l], .pack [.obj 107 [(.row 1), (.p (.int .i64 s))], .row .byte 5 b]]] (.ret (.tup [])) [.pack [.obj 47 [(.ptr 1 0), (.ptr 2 0)], .pack [.obj 79 [(.row 1), (.p (.int .i64 n))], .row .upl 70 l], .pack [.obj 107 [(.row 1), (.p (.int .i64 ((b.length : Int))))], .row .byte 5 b]]] := by
  refine spcG tab_ok mixed Tryz.func29 (by kernel_rfl) { cfgSt with keep := some [0] } [sync__k, sync__l] (by kernel_rfl) ?_
  intro I X hI hX
  refine ev_rule (.need (I.hid (α := (Prop)) True) (.fin (.ret (.tup [])) [(.pack [(.obj 47 [(.ptr 1 0), (.ptr 2 0)]), (.pack [(.obj 79 [(.row 1), (.p (.int .i64 n))]), (.row .upl 70 l)]), (.pack [(.obj 107 [(.row 1), (.p (.int .i64 (I.hid (α := Int) (Nat.cast (List.length b)))))]), (.row .byte 5 b)])])])) (by kernel_rfl) ?_
  simp only [instL]
  subst hI
  simp only [nrmA, nrmB, nrlB, reduceCtorEq, HO.pack.injEq, HO.obj.injEq]
  try trivial
def stoSync__c (I : Alg) (args : List D) (hp : List HO) : Option CT := match args, hp with
  | [.v (.one (.ptr 0 0))], [.pack [.obj 47 [(.ptr 1 0), (.ptr 2 0)], .pack [.obj 79 [(.row 1), (.p (.int .i64 n))], .row .upl 70 l], .pack [.obj 107 [(.row 1), (.p (.int .i64 s))], .row .byte 5 b]]] => (fun (l : List Upl) (n : Int) (b : Str) (s : Int) => (some (.one ⟨I.hid (True), (.ret (.tup [])), [.pack [.obj 47 [(.ptr 1 0), (.ptr 2 0)], .pack [.obj 79 [(.row 1), (.p (.int .i64 n))], .row .upl 70 l], .pack [.obj 107 [(.row 1), (.p (.int .i64 (I.hid ((b.length : Int)))))], .row .byte 5 b]]]⟩) : Option CT)) l n b s
  | _, _ => none
theorem stoSync__g : GoodC Tryz.prog 29 (stoSync__c alg) := by
  intro args hp r h
  unfold stoSync__c at h
  split at h
  · cases h; exact fun hn => stoSync_ _ _ _ _
  · cases h
def stoSync__k : Know Tryz.prog := ⟨29, stoSync__c, stoSync__g⟩
def stoSync__l : Know Tryz.prog := ⟨29, fun I => lendC I (stoSync__c I), lendC_good stoSync__g⟩

theorem stoLog_ (l : List Upl) (n : Int) (b : Str) (s : Int) (hneed : b.length ≤ 100000) : Spc Tryz.prog 12 [.v (.one (.ptr 0 0))] [.pack [.obj 47 [(.ptr 1 0), (.ptr 2 0)], .pack [.obj 79 [(.row 1), (.p (.int .i64 n))], .row .upl 70 l], .pack [.obj 107 [(.row 1), (.p (.int .i64 s))], .row .byte 5 b]]] (.ret (.tup [(.one (.row 1)), (.one (.p (.int .i64 s)))])) [.pack [.obj 47 [(.ptr 1 0), (.ptr 2 0)], .pack [.obj 79 [(.row 1), (.p (.int .i64 n))], .row .upl 70 l], .pack [.obj 107 [(.row 1), (.p (.int .i64 s))], .row .byte 5 b]], .row .byte 5 b] := by
  refine spcG tab_ok mixed Tryz.func12 (by kernel_rfl) { cfgSt with keep := some [0, 2, 3] } [sure__k, sure__l, bytes__k, bytes__l] (by kernel_rfl) ?_
  intro I X hI hX
  refine ev_rule (let y0 := I.hid (α := (Prop)) (LE.le (List.length b) 100000000); .both (.both (.need y0 (.need (I.hid (α := (Prop)) True) (.fin (.ret (.tup [(.one (.row 1)), (.one (.p (.int .i64 s)))])) [(.pack [(.obj 47 [(.ptr 1 0), (.ptr 2 0)]), (.pack [(.obj 79 [(.row 1), (.p (.int .i64 n))]), (.row .upl 70 l)]), (.pack [(.obj 107 [(.row 1), (.p (.int .i64 s))]), (.row .byte 5 b)])]), (.row .byte 5 b)]))) (.need y0 (.need (I.hid (α := (Prop)) True) (.fin (.ret (.tup [(.one (.row 1)), (.one (.p (.int .i64 s)))])) [(.pack [(.obj 47 [(.ptr 1 0), (.ptr 2 0)]), (.pack [(.obj 79 [(.row 1), (.p (.int .i64 n))]), (.row .upl 70 l)]), (.pack [(.obj 107 [(.row 1), (.p (.int .i64 s))]), (.row .byte 5 b)])]), (.row .byte 5 b)])))) (.need y0 (.need (I.hid (α := (Prop)) True) (.fin (.ret (.tup [(.one (.row 1)), (.one (.p (.int .i64 s)))])) [(.pack [(.obj 47 [(.ptr 1 0), (.ptr 2 0)]), (.pack [(.obj 79 [(.row 1), (.p (.int .i64 n))]), (.row .upl 70 l)]), (.pack [(.obj 107 [(.row 1), (.p (.int .i64 s))]), (.row .byte 5 b)])]), (.row .byte 5 b)])))) (by kernel_rfl) ?_
  simp only [instL]
  subst hI
  simp only [nrmA, nrmB, nrlB, reduceCtorEq, HO.pack.injEq, HO.obj.injEq]
  (repeat' (first | refine And.intro ?_ ?_ | intro _)) <;> first | omega | exact True.intro | exact False.elim ‹False› | skip
def stoLog__c (I : Alg) (args : List D) (hp : List HO) : Option CT := match args, hp with
  | [.v (.one (.ptr 0 0))], [.pack [.obj 47 [(.ptr 1 0), (.ptr 2 0)], .pack [.obj 79 [(.row 1), (.p (.int .i64 n))], .row .upl 70 l], .pack [.obj 107 [(.row 1), (.p (.int .i64 s))], .row .byte 5 b]]] => (fun (l : List Upl) (n : Int) (b : Str) (s : Int) => (some (.one ⟨I.hid (b.length ≤ 100000), (.ret (.tup [(.one (.row 1)), (.one (.p (.int .i64 s)))])), [.pack [.obj 47 [(.ptr 1 0), (.ptr 2 0)], .pack [.obj 79 [(.row 1), (.p (.int .i64 n))], .row .upl 70 l], .pack [.obj 107 [(.row 1), (.p (.int .i64 s))], .row .byte 5 b]], .row .byte 5 b]⟩) : Option CT)) l n b s
  | _, _ => none
theorem stoLog__g : GoodC Tryz.prog 12 (stoLog__c alg) := by
  intro args hp r h
  unfold stoLog__c at h
  split at h
  · cases h; exact fun hn => stoLog_ _ _ _ _ hn
  · cases h
def stoLog__k : Know Tryz.prog := ⟨12, stoLog__c, stoLog__g⟩
def stoLog__l : Know Tryz.prog := ⟨12, fun I => lendC I (stoLog__c I), lendC_good stoLog__g⟩

set_option maxHeartbeats 4000000 in
theorem stoCrash_ (l : List Upl) (n : Int) (b : Str) (s keep : Int) (hneed : b.length ≤ 100000 ∧ 0 ≤ s ∧ s ≤ b.length) : Spc Tryz.prog 31 [.v (.one (.ptr 0 0)), .v (.one (.p (.int .i64 keep)))] [.pack [.obj 47 [(.ptr 1 0), (.ptr 2 0)], .pack [.obj 79 [(.row 1), (.p (.int .i64 n))], .row .upl 70 l], .pack [.obj 107 [(.row 1), (.p (.int .i64 s))], .row .byte 5 b]]] (.ret (.tup [])) [.pack [.obj 47 [(.ptr 1 0), (.ptr 2 0)], .pack [.obj 79 [(.row 1), (.p (.int .i64 ((crsP b s keep).2)))], .row .upl 70 ((crsP b s keep).1)], .pack [.obj 107 [(.row 1), (.p (.int .i64 (((crsB b s keep).length : Int))))], .row .byte 5 ((crsB b s keep))]]] := by
  obtain ⟨hb, hs0, hs1⟩ := hneed
  have h1 := crs_sure b s keep
  have h2 := crB_len b s keep
  have h3 := crsE_small (s := s) (k := keep) hb
  have h4 := usedM_le (crB b s keep)
  unfold crsP
  generalize hP : replay ([], 0) (crsE b s keep) = pq
  generalize hB : ((crsB b s keep).length : Int) = bl at *
  refine spcG tab_ok mixed Tryz.func31 (by kernel_rfl) { cfgSt with fz := [70], keep := some [0, 1, 4, 5, 7, 33, 34, 35] } [sNew__k, sNew__l, decode__k, decode__l, bytes__k, bytes__l, crash__k, crash__l, cutL__k, cutL__l, stoDo__k, stoDo__l] (by kernel_rfl) ?_
  intro I X hI hX
  refine ev_rule (let y0 := I.hid (α := (List UInt8)) (crB b s keep); let y1 := I.hid (α := Int) (Nat.cast (List.length (crB b s keep))); let y2 := I.hid (α := (List Go.Ab.Ent)) (Prod.fst (Go.Jrn.dec y0)); .need (I.hid (α := (Prop)) (And (LE.le (List.length b) 100000) (And (LE.le (0 : Int) s) (LE.le s (Nat.cast (List.length b)))))) (.need (I.hid (α := (Prop)) (LE.le (List.length y0) 100000000)) (.need (I.hid (α := (Prop)) (LE.le (List.length y0) 50000000)) (.need (I.hid (α := (Prop)) (And (LE.le (List.length y0) 100000) (And (LE.le (0 : Int) y1) (LE.le y1 (Nat.cast (List.length y0)))))) (.need (I.hid (α := (Prop)) True) (.code 0 [1, 1, 1, 1, 1, 0] ⟨[(35, (.v (.one (.p (.int .i64 0))))), (34, (.v (.one (.p (.int .i64 (I.len (α := Go.Ab.Ent) y2)))))), (33, (.v (.one (.row 4)))), (5, (.v (.one (.p (.int .i64 (I.hid (α := Int) (usedM y0))))))), (4, (.v (.one (.row 4)))), (0, (.v (.one (.ptr 0 0)))), (1, (.v (.one (.p (.int .i64 keep)))))], [(.obj 47 [(.ptr 5 0), (.ptr 2 0)]), (.pack [(.obj 79 [(.row 1), (.p (.int .i64 n))]), (.row .upl 70 l)]), (.pack [(.obj 107 [(.row 1), (.p (.int .i64 (I.hid (α := Int) (cuS y0 y1 (I.hid (α := Int) (usedM y0))))))]), (.row .byte 5 (I.hid (α := (List UInt8)) (cuB y0 (I.hid (α := Int) (usedM y0)))))]), .gone, (.row .ent 97 y2), (.pack [(.obj 79 [(.row 1), (.p (.int .i64 0))]), (.row .upl 70 (I.hid (α := (List Go.Ab.Upl)) ([] : List Go.Ab.Upl)))])], 46, none⟩)))))) (by kernel_rfl) ?_
  simp only [instL]
  have hh : ∀ {α : Type} (x : α), I.hid x = x := by subst hI; intros; rfl
  simp only [hh]
  unfold crsB at *
  unfold crsE at *
  rw [h1]
  generalize hb1 : crB b s keep = b1 at *
  generalize hu : usedM b1 = u at *
  generalize hb2 : cuB b1 u = b2 at *
  generalize hes : (Jrn.dec b1).1 = es at *
  refine ⟨⟨hb, hs0, hs1⟩, by omega, by omega, ⟨by omega, by omega, by omega⟩, trivial, ?_⟩
  refine loop_inv hI tab_ok mixed [sNew__k, sNew__l, decode__k, decode__l, bytes__k, bytes__l, crash__k, crash__l, cutL__k, cutL__l, stoDo__k, stoDo__l] hX [0, 33, 34, 35] (fun (k : Nat) => k ≤ es.length) (fun (k : Nat) => ⟨[(0, .v (.one (.ptr 0 0))), (33, .v (.one (.row 1))), (34, .v (.one (.p (.int .i64 ((I.len (α := Ent) es)))))), (35, .v (.one (.p (.int .i64 k))))], [.pack [.obj 47 [(.ptr 1 0), (.ptr 2 0)], .pack [.obj 79 [(.row 1), (.p (.int .i64 ((replay ([], 0) (es.take k)).2)))], .row .upl 70 ((replay ([], 0) (es.take k)).1)], .pack [.obj 107 [(.row 1), (.p (.int .i64 bl))], .row .byte 5 b2]], .row .ent 97 es], 46, none⟩) (fun (k : Nat) => es.length - k) 0 (by kernel_rfl) (by kernel_rfl) ?_ ?_
  · exact Nat.zero_le _
  rintro k hk A hA
  have ho := replay_ok (es.take k) ([], 0) spl_nil
  have hn := replay_n (es.take k) ([], 0)
  generalize hp : replay ([], 0) (es.take k) = p at *
  refine ev_rule (let y0 := I.get (α := Go.Ab.Ent) es (Go.Ab.Ent.mk (0 : Int) (0 : Int) (0 : Int) ([] : List UInt8)) (Nat.cast k); let y1 := I.inb (Nat.cast k) (I.len (α := Go.Ab.Ent) es); .br (I.ilt (Nat.cast k) (I.len (α := Go.Ab.Ent) es)) (.need y1 (.need y1 (.need (I.hid (α := (Prop)) (And (SplOk (Prod.fst p) (Prod.snd p)) (And (LE.le (Prod.snd p) (1000000 : Int)) (LE.le (List.length (Go.Ab.Ent.text y0)) 1000000)))) (.need (I.inr Go.IntKind.i64 (I.add (Nat.cast k) 1)) (.need (A ⟨[(0, (.v (.one (.ptr 0 0)))), (33, (.v (.one (.row 1)))), (34, (.v (.one (.p (.int .i64 (I.len (α := Go.Ab.Ent) es)))))), (35, (.v (.one (.p (.int .i64 (I.add (Nat.cast k) 1))))))], [(.pack [(.obj 47 [(.ptr 1 0), (.ptr 2 0)]), (.pack [(.obj 79 [(.row 1), (.p (.int .i64 (I.hid (α := Int) (playN (Prod.fst p) (Prod.snd p) (Go.Ab.Ent.mk (Go.Ab.Ent.kind y0) (Go.Ab.Ent.id y0) (Go.Ab.Ent.n y0) (Go.Ab.Ent.text y0))))))]), (.row .upl 70 (I.hid (α := (List Go.Ab.Upl)) (playL (Prod.fst p) (Prod.snd p) (Go.Ab.Ent.mk (Go.Ab.Ent.kind y0) (Go.Ab.Ent.id y0) (Go.Ab.Ent.n y0) (Go.Ab.Ent.text y0)))))]), (.pack [(.obj 107 [(.row 1), (.p (.int .i64 bl))]), (.row .byte 5 b2)])]), (.row .ent 97 es)], 46, none⟩) .qed))))) (.fin (.ret (.tup [])) [(.pack [(.obj 47 [(.ptr 1 0), (.ptr 2 0)]), (.pack [(.obj 79 [(.row 1), (.p (.int .i64 (Prod.snd p)))]), (.row .upl 70 (Prod.fst p))]), (.pack [(.obj 107 [(.row 1), (.p (.int .i64 bl))]), (.row .byte 5 b2)])])])) (by kernel_rfl) ?_
  simp only [instL]
  subst hI
  simp only [nrmA, nrmB, nrlB, reduceCtorEq]
  have hnk : p.2 ≤ 200000 := by
    have : (es.take k).length ≤ es.length := by rw [List.length_take]; omega
    have h30 := h3.1
    simp only at hn
    omega
  refine ⟨fun c => ⟨⟨by omega, by omega⟩, ⟨by omega, by omega⟩, ⟨ho, by omega, ?_⟩, ⟨by omega, by omega⟩, ?_⟩, fun c => ?_⟩
  · rw [show es.getD k ⟨0, 0, 0, []⟩ = es[k]'(by omega) by simp [show k < es.length by omega]]
    have := h3.2 _ (List.getElem_mem (l := es) (n := k) (by omega))
    omega
  · have hA := hA (k + 1) (by omega) (by omega)
    rw [replay_take _ (by omega), hp] at hA
    have hx : es.getD k ⟨0, 0, 0, []⟩ = es[k]'(by omega) := by simp [show k < es.length by omega]
    rw [hx]
    exact hA
  · rw [List.take_of_length_le (by omega)] at hp
    rw [← hp, hP]
def stoCrash__c (I : Alg) (args : List D) (hp : List HO) : Option CT := match args, hp with
  | [.v (.one (.ptr 0 0)), .v (.one (.p (.int .i64 keep)))], [.pack [.obj 47 [(.ptr 1 0), (.ptr 2 0)], .pack [.obj 79 [(.row 1), (.p (.int .i64 n))], .row .upl 70 l], .pack [.obj 107 [(.row 1), (.p (.int .i64 s))], .row .byte 5 b]]] => (fun (l : List Upl) (n : Int) (b : Str) (s keep : Int) => (some (.one ⟨I.hid (b.length ≤ 100000 ∧ 0 ≤ s ∧ s ≤ b.length), (.ret (.tup [])), [.pack [.obj 47 [(.ptr 1 0), (.ptr 2 0)], .pack [.obj 79 [(.row 1), (.p (.int .i64 (I.hid ((crsP b s keep).2))))], .row .upl 70 (I.hid ((crsP b s keep).1))], .pack [.obj 107 [(.row 1), (.p (.int .i64 (I.hid (((crsB b s keep).length : Int)))))], .row .byte 5 (I.hid ((crsB b s keep)))]]]⟩) : Option CT)) l n b s keep
  | _, _ => none
theorem stoCrash__g : GoodC Tryz.prog 31 (stoCrash__c alg) := by
  intro args hp r h
  unfold stoCrash__c at h
  split at h
  · cases h; exact fun hn => stoCrash_ _ _ _ _ _ hn
  · cases h
def stoCrash__k : Know Tryz.prog := ⟨31, stoCrash__c, stoCrash__g⟩
def stoCrash__l : Know Tryz.prog := ⟨31, fun I => lendC I (stoCrash__c I), lendC_good stoCrash__g⟩
end Go.Proofs.YtjapkdcomcgamaaGreatDoor
