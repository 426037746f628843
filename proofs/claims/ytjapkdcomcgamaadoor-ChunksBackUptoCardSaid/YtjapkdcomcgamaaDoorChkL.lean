/- A body in chunks, in plain words: the machine that reads it byte by byte, and what bytes are as a whole. -/
import Derived.Test.YtjapkdcomcgamaaDoorLnL
import Derived.Test.YtjapkdcomcgamaaDoorFldA
import Derived.Test.YtjapkdcomcgamaaDoorChrD
set_option linter.all false
namespace Go.Proofs.YtjapkdcomcgamaaDoor
open Go Go.Sep Go.Ab

theorem ln_more {r : Str} {s : Ln} (h : lnRun ln0 r = .more s) : lineOf r = ([], 0, false, 0) := by
  have := lnIs_of r; rw [h] at this; exact this.1
theorem ln_line {r t rest : Str} (h : lnRun ln0 r = .line t rest) : ∃ n : Nat, lineOf r = (t, (n : Int), true, 0) ∧ n ≤ r.length ∧ 0 < n ∧ rest = r.drop n := by
  have := lnIs_of r; rw [h] at this
  obtain ⟨n, h1, h2⟩ := this
  exact ⟨n, by rw [lineOf, h1]; simp, h2⟩
theorem ln_bad {r rest : Str} {e : Int} (h : lnRun ln0 r = .bad e rest) : ∃ n : Nat, lineOf r = ([], (n : Int), false, e) ∧ e ≠ 0 ∧ n ≤ r.length ∧ 0 < n ∧ rest = r.drop n := by
  have := lnIs_of r; rw [h] at this
  obtain ⟨n, h1, h2⟩ := this
  exact ⟨n, by rw [lineOf, h1]; simp, h2⟩
theorem lineOf_n (r : Str) : ∃ n : Nat, (lineOf r).2.1 = (n : Int) ∧ n ≤ r.length ∧ ((lineOf r).2.2.1 = true ∨ (lineOf r).2.2.2 ≠ 0 → 0 < n) ∧ ((lineOf r).2.2.1 = false → (lineOf r).2.2.2 = 0 → n = 0) ∧ ((lineOf r).2.2.1 = true → (lineOf r).2.2.2 = 0) := by
  cases h : lnRun ln0 r with
  | more s => rw [ln_more h]; exact ⟨0, rfl, Nat.zero_le _, by simp, by simp, by simp⟩
  | line t rest => obtain ⟨n, h1, h2, h3, _⟩ := ln_line h; rw [h1]; exact ⟨n, rfl, h2, fun _ => h3, by simp, by simp⟩
  | bad e rest => obtain ⟨n, h1, h2, h3, h4, _⟩ := ln_bad h; rw [h1]; exact ⟨n, rfl, h3, fun _ => h4, fun _ h => absurd h h2, by simp⟩
theorem lnF_code {s : Ln} {c : UInt8} (h : (lnF s c).2.2.2 = 0) : (lnF s c).1.code = 0 := by
  unfold lnF at h ⊢
  split
  · rename_i h1; rw [if_pos h1] at h; exact h
  rename_i h1
  rw [if_neg h1] at h
  split
  · rename_i h2
    rw [if_pos h2] at h
    split
    · rfl
    · rename_i h3; rw [if_neg h3] at h; cases h
  rename_i h2
  rw [if_neg h2] at h
  split
  · rename_i h3; rw [if_pos h3] at h; cases h
  rename_i h3
  rw [if_neg h3] at h
  split
  · exact Decidable.not_not.1 h1
  rename_i h4
  rw [if_neg h4] at h
  split
  · rename_i h5; rw [if_pos h5] at h; cases h
  rename_i h5
  rw [if_neg h5] at h
  split
  · rename_i h6; rw [if_pos h6] at h; cases h
  · exact Decidable.not_not.1 h1
theorem lnF_line {s : Ln} {c : UInt8} (h : (lnF s c).2.2.1 = true) (h0 : s.code = 0) : (lnF s c).2.2.2 = 0 ∧ (lnF s c).1 = ln0 := by
  unfold lnF at h ⊢
  rw [if_neg (by simp [h0])] at h ⊢
  split
  · rename_i h2
    rw [if_pos h2] at h
    split
    · exact ⟨rfl, rfl⟩
    · rename_i h3; rw [if_neg h3] at h; cases h
  rename_i h2
  rw [if_neg h2] at h
  split at h
  · cases h
  split at h
  · cases h
  split at h
  · cases h
  split at h
  · cases h
  · cases h

/-- How long a chunk is, by its line. -/
def sizeC (line : Str) : Int × Bool := numA (Lib.trimS (cutB line 59).1 [32, 9]) 16 6
theorem numG_nonneg : ∀ (s : Str) (n : Int), 0 ≤ n → 0 ≤ (numG 16 n s).1
  | [], n, h => h
  | c :: l, n, h => by
    rw [numG]
    split
    · exact Int.le_refl _
    · exact numG_nonneg l _ (by omega)
theorem sizeC_nonneg (t : Str) : 0 ≤ (sizeC t).1 := by
  unfold sizeC numA
  split
  · exact Int.le_refl _
  · exact numG_nonneg _ _ (Int.le_refl _)

structure Ch where
  ln : Ln
  pos : Int
  left : Int
  all : Int
  tails : Int
  code : Int
def ch0 : Ch := ⟨ln0, 0, 0, 0, 0, 0⟩
/-- A line. -/
def chL (s : Ch) (t : Str) : Ch × Int :=
  if s.pos = 2 then (if t = [] then ({ s with pos := 0 }, 0) else (s, 5))
  else if s.pos = 0 then
    (if (sizeC t).2 = false then (s, 7)
    else if 4000 - s.all < (sizeC t).1 then (s, 4)
    else if (sizeC t).1 = 0 then ({ s with pos := 3 }, 0)
    else ({ s with pos := 1, left := (sizeC t).1 }, 0))
  else if s.pos = 3 then
    (if t = [] then ({ s with pos := 4 }, 0)
    else if s.tails = 16 then (s, 8)
    else ({ s with tails := s.tails + 1 }, (parseF t).2))
  else (s, 0)
/-- A byte more. -/
def chF (s : Ch) (c : UInt8) : Ch × Str × Bool × Int :=
  if s.code ≠ 0 then (s, [], false, s.code)
  else if s.pos = 4 then ({ s with code := 18 }, [], false, 18)
  else if s.pos = 1 then ({ s with left := s.left - 1, all := s.all + 1, pos := if s.left - 1 = 0 then 2 else 1 }, [c], false, 0)
  else if (lnF s.ln c).2.2.2 ≠ 0 then ({ s with ln := (lnF s.ln c).1, code := (lnF s.ln c).2.2.2 }, [], false, (lnF s.ln c).2.2.2)
  else if (lnF s.ln c).2.2.1 = true then
    (if (chL { s with ln := (lnF s.ln c).1 } (lnF s.ln c).2.1).2 ≠ 0 then ({ (chL { s with ln := (lnF s.ln c).1 } (lnF s.ln c).2.1).1 with code := (chL { s with ln := (lnF s.ln c).1 } (lnF s.ln c).2.1).2 }, [], false, (chL { s with ln := (lnF s.ln c).1 } (lnF s.ln c).2.1).2)
    else ((chL { s with ln := (lnF s.ln c).1 } (lnF s.ln c).2.1).1, [], decide ((chL { s with ln := (lnF s.ln c).1 } (lnF s.ln c).2.1).1.pos = 4), 0))
  else ({ s with ln := (lnF s.ln c).1 }, [], false, 0)

inductive ChR where
  | more (out : Str) (held : Nat)
  | over (out rest : Str)
  | bad (out : Str) (e : Int) (rest : Str)
def ChR.pre (o : Str) : ChR → ChR
  | .more p h => .more (o ++ p) h
  | .over p r => .over (o ++ p) r
  | .bad p e r => .bad (o ++ p) e r
def ChR.fg : ChR → ChR
  | .more p _ => .more p 0
  | x => x
theorem ChR.pre_nil (x : ChR) : x.pre [] = x := by cases x <;> simp [ChR.pre]
theorem ChR.pre_pre (o p : Str) (x : ChR) : (x.pre o).pre p = x.pre (p ++ o) := by cases x <;> simp [ChR.pre]
theorem ChR.fg_pre (o : Str) (x : ChR) : (x.pre o).fg = x.fg.pre o := by cases x <;> rfl

/-- What the machine makes of bytes. -/
def chRun (s : Ch) : Str → ChR
  | [] => .more [] 0
  | c :: r =>
    if (chF s c).2.2.2 ≠ 0 then .bad [] (chF s c).2.2.2 r
    else if (chF s c).2.2.1 = true then .over [] r
    else (chRun (chF s c).1 r).pre (chF s c).2.1

/-- Fields behind the last chunk. -/
def tailR : Nat → Int → Str → ChR
  | 0, _, r => .more [] r.length
  | f + 1, k, r =>
    if (lineOf r).2.2.2 ≠ 0 then .bad [] (lineOf r).2.2.2 (r.drop (lineOf r).2.1.toNat)
    else if (lineOf r).2.2.1 = false then .more [] r.length
    else if (lineOf r).1 = [] then .over [] (r.drop (lineOf r).2.1.toNat)
    else if k = 16 then .bad [] 8 (r.drop (lineOf r).2.1.toNat)
    else if (parseF (lineOf r).1).2 ≠ 0 then .bad [] (parseF (lineOf r).1).2 (r.drop (lineOf r).2.1.toNat)
    else tailR f (k + 1) (r.drop (lineOf r).2.1.toNat)
/-- Behind a chunk: its end, then what follows. -/
def endR (k : Str → ChR) (r : Str) : ChR :=
  if (lineOf r).2.2.2 ≠ 0 then .bad [] (lineOf r).2.2.2 (r.drop (lineOf r).2.1.toNat)
  else if (lineOf r).2.2.1 = false then .more [] r.length
  else if (lineOf r).1 = [] then k (r.drop (lineOf r).2.1.toNat)
  else .bad [] 5 (r.drop (lineOf r).2.1.toNat)
/-- The bytes of a body in chunks. -/
def bodyR : Nat → Int → Str → ChR
  | 0, _, r => .more [] r.length
  | f + 1, a, r =>
    if (lineOf r).2.2.2 ≠ 0 then .bad [] (lineOf r).2.2.2 (r.drop (lineOf r).2.1.toNat)
    else if (lineOf r).2.2.1 = false then .more [] r.length
    else if (sizeC (lineOf r).1).2 = false then .bad [] 7 (r.drop (lineOf r).2.1.toNat)
    else if 4000 - a < (sizeC (lineOf r).1).1 then .bad [] 4 (r.drop (lineOf r).2.1.toNat)
    else if (sizeC (lineOf r).1).1 = 0 then tailR f 0 (r.drop (lineOf r).2.1.toNat)
    else if ((r.drop (lineOf r).2.1.toNat).length : Int) < (sizeC (lineOf r).1).1 then .more (r.drop (lineOf r).2.1.toNat) 0
    else (endR (bodyR f (a + (sizeC (lineOf r).1).1)) ((r.drop (lineOf r).2.1.toNat).drop (sizeC (lineOf r).1).1.toNat)).pre ((r.drop (lineOf r).2.1.toNat).take (sizeC (lineOf r).1).1.toNat)

/-- In a line. -/
theorem chRun_line {s : Ch} (hc : s.code = 0) (hp : s.pos = 0 ∨ s.pos = 2 ∨ s.pos = 3) : ∀ (r : Str) (l : Ln), l.code = 0 → chRun { s with ln := l } r = match lnRun l r with
    | .more _ => .more [] 0
    | .bad e rest => .bad [] e rest
    | .line t rest => if (chL { s with ln := ln0 } t).2 ≠ 0 then .bad [] (chL { s with ln := ln0 } t).2 rest else if (chL { s with ln := ln0 } t).1.pos = 4 then .over [] rest else chRun (chL { s with ln := ln0 } t).1 rest
  | [], l, hl => rfl
  | c :: r, l, hl => by
    have e0 : chF { s with ln := l } c = (if (lnF l c).2.2.2 ≠ 0 then ({ s with ln := (lnF l c).1, code := (lnF l c).2.2.2 }, [], false, (lnF l c).2.2.2)
      else if (lnF l c).2.2.1 = true then
        (if (chL { s with ln := (lnF l c).1 } (lnF l c).2.1).2 ≠ 0 then ({ (chL { s with ln := (lnF l c).1 } (lnF l c).2.1).1 with code := (chL { s with ln := (lnF l c).1 } (lnF l c).2.1).2 }, [], false, (chL { s with ln := (lnF l c).1 } (lnF l c).2.1).2)
        else ((chL { s with ln := (lnF l c).1 } (lnF l c).2.1).1, [], decide ((chL { s with ln := (lnF l c).1 } (lnF l c).2.1).1.pos = 4), 0))
      else ({ s with ln := (lnF l c).1 }, [], false, 0)) := by
      unfold chF
      rw [if_neg (show ¬ (s.code ≠ 0) by rw [hc]; simp), if_neg (show ¬ s.pos = 4 by omega), if_neg (show ¬ s.pos = 1 by omega)]
    by_cases h1 : (lnF l c).2.2.1 = true
    · obtain ⟨h2, h3⟩ := lnF_line h1 hl
      rw [if_neg (by simp [h2]), if_pos h1, h3] at e0
      rw [chRun, e0, lnRun, if_pos h1]
      show _ = (if (chL { s with ln := ln0 } (lnF l c).2.1).2 ≠ 0 then ChR.bad [] (chL { s with ln := ln0 } (lnF l c).2.1).2 r else if (chL { s with ln := ln0 } (lnF l c).2.1).1.pos = 4 then .over [] r else chRun (chL { s with ln := ln0 } (lnF l c).2.1).1 r)
      generalize chL { s with ln := ln0 } (lnF l c).2.1 = z
      by_cases h4 : z.2 = 0
      · by_cases h5 : z.1.pos = 4
        · simp [h4, h5]
        · simp [h4, h5, ChR.pre_nil]
      · simp [h4]
    · by_cases h2 : (lnF l c).2.2.2 = 0
      · have ih := chRun_line hc hp r (lnF l c).1 (lnF_code h2)
        rw [if_neg (by simp [h2]), if_neg h1] at e0
        rw [chRun, e0, lnRun, if_neg h1]
        simp only [h2, ne_eq, not_true_eq_false, if_false, Bool.false_eq_true, ChR.pre_nil]
        exact ih
      · rw [if_pos h2] at e0
        rw [chRun, e0, lnRun, if_neg h1, if_pos h2]
        simp [h2]
theorem chRun_line0 {s : Ch} (hc : s.code = 0) (hp : s.pos = 0 ∨ s.pos = 2 ∨ s.pos = 3) (hl : s.ln = ln0) (r : Str) : chRun s r =
    if (lineOf r).2.2.2 ≠ 0 then .bad [] (lineOf r).2.2.2 (r.drop (lineOf r).2.1.toNat)
    else if (lineOf r).2.2.1 = false then .more [] 0
    else if (chL s (lineOf r).1).2 ≠ 0 then .bad [] (chL s (lineOf r).1).2 (r.drop (lineOf r).2.1.toNat)
    else if (chL s (lineOf r).1).1.pos = 4 then .over [] (r.drop (lineOf r).2.1.toNat)
    else chRun (chL s (lineOf r).1).1 (r.drop (lineOf r).2.1.toNat) := by
  have e : s = { s with ln := ln0 } := by rw [← hl]
  have h := chRun_line hc hp r ln0 rfl
  rw [← e] at h
  rw [h]
  cases hr : lnRun ln0 r with
  | more x => rw [ln_more hr]; simp
  | line t rest => obtain ⟨n, h1, h2, h3, rfl⟩ := ln_line hr; rw [h1]; simp
  | bad e rest => obtain ⟨n, h1, h2, h3, h4, rfl⟩ := ln_bad hr; rw [h1]; simp [h2]
/-- In a chunk. -/
theorem chRun_data : ∀ (r : Str) (s : Ch) (n : Nat), s.code = 0 → s.pos = 1 → s.left = ((n + 1 : Nat) : Int) → chRun s r = if r.length < n + 1 then .more r 0 else (chRun { s with pos := 2, left := 0, all := s.all + (n + 1 : Nat) } (r.drop (n + 1))).pre (r.take (n + 1))
  | [], s, n, hc, hp, hl => by rw [if_pos (by simp)]; rfl
  | c :: r, s, n, hc, hp, hl => by
    have e0 : chF s c = ({ s with left := s.left - 1, all := s.all + 1, pos := if s.left - 1 = 0 then 2 else 1 }, [c], false, 0) := by
      unfold chF
      rw [if_neg (by simp [hc]), if_neg (by omega), if_pos hp]
    rw [chRun, e0]
    simp only [ne_eq, not_true_eq_false, if_false, Bool.false_eq_true]
    cases n with
    | zero =>
      rw [if_pos (by omega), if_neg (by simp)]
      simp only [hl]
      rfl
    | succ n =>
      rw [if_neg (by omega)]
      have ih := chRun_data r { s with left := s.left - 1, all := s.all + 1, pos := 1 } n hc rfl (by show s.left - 1 = _; omega)
      rw [ih]
      simp only [List.length_cons, List.drop_succ_cons, List.take_succ_cons]
      by_cases h : r.length < n + 1
      · rw [if_pos h, if_pos (by omega)]; rfl
      · rw [if_neg h, if_neg (by omega), ChR.pre_pre]
        congr 2
        simp only [Ch.mk.injEq, true_and, and_true]
        omega
theorem chL_tail {s : Ch} (hp : s.pos = 3) (t : Str) : chL s t = (if t = [] then ({ s with pos := 4 }, 0) else if s.tails = 16 then (s, 8) else ({ s with tails := s.tails + 1 }, (parseF t).2)) := by
  unfold chL
  rw [if_neg (by omega), if_neg (by omega), if_pos hp]
theorem run_tail : ∀ (f : Nat) (r : Str) (s : Ch), r.length < f → s.code = 0 → s.pos = 3 → s.ln = ln0 → chRun s r = (tailR f s.tails r).fg
  | 0, r, s, hf, _, _, _ => by omega
  | f + 1, r, s, hf, hc, hp, hl => by
    rw [chRun_line0 hc (.inr (.inr hp)) hl, tailR, chL_tail hp]
    obtain ⟨n, hn, h1, h2, h3, h4⟩ := lineOf_n r
    rw [hn, Int.toNat_natCast]
    have ih := fun (hlt : (r.drop n).length < f) => run_tail f (r.drop n) { s with pos := 3, tails := s.tails + 1 } hlt hc rfl hl
    rw [List.length_drop] at ih
    generalize lineOf r = x at *
    obtain ⟨t, n', ok, e⟩ := x
    simp only at *
    by_cases c1 : e = 0
    · subst c1
      cases ok with
      | false => simp [ChR.fg]
      | true =>
        have hpos := h2 (.inl rfl)
        by_cases c3 : t = []
        · simp [c3, ChR.fg]
        · by_cases c4 : s.tails = 16
          · simp [c3, c4, ChR.fg]
          · by_cases c5 : (parseF t).2 = 0
            · simp only [c3, c4, c5, hp, ne_eq, not_true_eq_false, if_false, if_true, Bool.true_eq_false, show ¬ (3 : Int) = 4 by decide]
              exact ih (by omega)
            · simp [c3, c4, c5, ChR.fg]
    · simp [c1, ChR.fg]
theorem run_body : ∀ (f : Nat) (r : Str) (s : Ch), r.length < f → s.code = 0 → s.pos = 0 → s.ln = ln0 → s.tails = 0 → chRun s r = (bodyR f s.all r).fg
  | 0, r, s, hf, _, _, _, _ => by omega
  | f + 1, r, s, hf, hc, hp, hl, ht => by
    have hL : ∀ t, chL s t = (if (sizeC t).2 = false then (s, 7) else if 4000 - s.all < (sizeC t).1 then (s, 4) else if (sizeC t).1 = 0 then ({ s with pos := 3 }, 0) else ({ s with pos := 1, left := (sizeC t).1 }, 0)) := fun t => by
      unfold chL
      rw [if_neg (by omega), if_pos hp]
    rw [chRun_line0 hc (.inl hp) hl, bodyR, hL]
    obtain ⟨n, hn, h1, h2, h3, h4⟩ := lineOf_n r
    rw [hn, Int.toNat_natCast]
    have hm0 := sizeC_nonneg (lineOf r).1
    have hrl : (r.drop n).length = r.length - n := List.length_drop
    generalize r.drop n = q at *
    generalize lineOf r = x at *
    obtain ⟨t, n', ok, e⟩ := x
    simp only at *
    by_cases c1 : e = 0
    · subst c1
      cases ok with
      | false => simp [ChR.fg]
      | true =>
        have hpos := h2 (.inl rfl)
        by_cases c3 : (sizeC t).2 = false
        · simp [c3, ChR.fg]
        by_cases c4 : 4000 - s.all < (sizeC t).1
        · simp [c3, c4, ChR.fg]
        by_cases c5 : (sizeC t).1 = 0
        · have := run_tail f q { s with pos := 3 } (by omega) hc rfl hl
          rw [c5] at c4
          simp only [c3, c4, c5, ne_eq, not_true_eq_false, if_false, if_true, Bool.true_eq_false, show ¬ (3 : Int) = 4 by decide]
          rw [this]
          show (tailR f s.tails q).fg = _
          rw [ht]
        generalize hsz : (sizeC t).1 = m at *
        obtain ⟨k, rfl⟩ : ∃ k : Nat, m = ((k + 1 : Nat) : Int) := ⟨(m - 1).toNat, by omega⟩
        simp only [c3, c4, c5, ne_eq, not_true_eq_false, if_false, if_true, Bool.true_eq_false, show ¬ (1 : Int) = 4 by decide]
        rw [chRun_data q { s with pos := 1, left := ((k + 1 : Nat) : Int) } k hc rfl rfl, Int.toNat_natCast]
        by_cases c6 : q.length < k + 1
        · rw [if_pos c6, if_pos (by omega)]; rfl
        rw [if_neg c6, if_neg (by omega), ChR.fg_pre]
        congr 1
        have hd : (q.drop (k + 1)).length = q.length - (k + 1) := List.length_drop
        generalize q.drop (k + 1) = q2 at *
        rw [chRun_line0 (by exact hc) (.inr (.inl rfl)) (by exact hl), endR]
        obtain ⟨n2, hn2, g1, g2, g3, g4⟩ := lineOf_n q2
        rw [hn2, Int.toNat_natCast]
        have ih := fun (hlt : (q2.drop n2).length < f) => run_body f (q2.drop n2) { s with pos := 0, left := 0, all := s.all + ((k + 1 : Nat) : Int) } hlt hc rfl hl ht
        rw [List.length_drop] at ih
        unfold chL
        simp only [if_true]
        generalize lineOf q2 = x2 at *
        obtain ⟨t2, n2', ok2, e2⟩ := x2
        simp only at *
        by_cases d1 : e2 = 0
        · subst d1
          cases ok2 with
          | false => simp [ChR.fg]
          | true =>
            by_cases d3 : t2 = []
            · simp only [d3, ne_eq, not_true_eq_false, if_false, if_true, Bool.true_eq_false, show ¬ (0 : Int) = 4 by decide]
              exact ih (by omega)
            · simp [d3, ChR.fg]
        · simp [d1, ChR.fg]
    · simp [c1, ChR.fg]
/-- The whole. -/
def chunksR (b : Str) : ChR := bodyR (b.length + 1) 0 b
theorem run_chunks (b : Str) : chRun ch0 b = (chunksR b).fg := run_body (b.length + 1) b ch0 (Nat.lt_succ_self _) rfl rfl rfl rfl
theorem ChR.pre_bad {o o' rest : Str} {e : Int} {x : ChR} (h : x.pre o = .bad o' e rest) : ∃ p, x = .bad p e rest ∧ o' = o ++ p := by
  cases x <;> simp only [ChR.pre, ChR.bad.injEq, reduceCtorEq] at h
  obtain ⟨rfl, rfl, rfl⟩ := h
  exact ⟨_, rfl, rfl⟩
theorem ChR.pre_over {o o' rest : Str} {x : ChR} (h : x.pre o = .over o' rest) : ∃ p, x = .over p rest ∧ o' = o ++ p := by
  cases x <;> simp only [ChR.pre, ChR.over.injEq, reduceCtorEq] at h
  obtain ⟨rfl, rfl⟩ := h
  exact ⟨_, rfl, rfl⟩
theorem run_rest_bad : ∀ {r : Str} {s : Ch} {o rest : Str} {e : Int}, chRun s r = .bad o e rest → rest.length < r.length ∧ e ≠ 0
  | [], s, o, rest, e, h => by cases h
  | c :: r, s, o, rest, e, h => by
    rw [chRun] at h
    split at h
    · rename_i h0; cases h; exact ⟨by simp, h0⟩
    split at h
    · cases h
    · obtain ⟨p, h1, _⟩ := ChR.pre_bad h
      have := run_rest_bad h1
      exact ⟨by rw [List.length_cons]; omega, this.2⟩
theorem run_rest_over : ∀ {r : Str} {s : Ch} {o rest : Str}, chRun s r = .over o rest → rest.length < r.length
  | [], s, o, rest, h => by cases h
  | c :: r, s, o, rest, h => by
    rw [chRun] at h
    split at h
    · cases h
    split at h
    · cases h; simp
    · obtain ⟨p, h1, _⟩ := ChR.pre_over h
      have := run_rest_over h1
      rw [List.length_cons]; omega

/-- What is told of a byte that comes in at a place. -/
def usedR (b : Str) : ChR → Int
  | .more _ h => (b.length : Int) - h
  | .over _ r => (b.length : Int) - r.length
  | .bad _ _ r => (b.length : Int) - r.length
def outR : ChR → Str
  | .more o _ => o
  | .over o _ => o
  | .bad o _ _ => o
def isR : ChR → Bool
  | .over _ _ => true
  | _ => false
def codeR : ChR → Int
  | .bad _ e _ => e
  | _ => 0
/-- The code that is told of a byte. -/
def wantR (b : Str) (R : ChR) (i : Nat) : Int :=
  match R with
  | .more _ _ => 0
  | .over _ r => if (b.length : Int) - r.length ≤ i then 18 else 0
  | .bad _ e r => if (b.length : Int) - r.length - 1 ≤ i then e else 0
def wantB (b : Str) (R : ChR) (i : Nat) : Bool :=
  match R with
  | .over _ r => decide ((i : Int) = (b.length : Int) - r.length - 1)
  | _ => false
/-- Ahead of each byte. -/
inductive ChAt (b : Str) (R : ChR) (i : Nat) (s : Ch) (got : Str) : Prop
  | run (h : (chRun s (b.drop i)).pre got = R.fg)
  | over (o r : Str) (h : R = .over o r) (hi : b.length - r.length ≤ i) (hr : r.length ≤ b.length) (hp : s.pos = 4) (hc : s.code = 0 ∨ s.code = 18) (hg : got = o)
  | bad (o r : Str) (e : Int) (h : R = .bad o e r) (hi : b.length - r.length ≤ i) (hr : r.length ≤ b.length) (hc : s.code = e) (he : e ≠ 0) (hg : got = o)
theorem chAt_0 (b : Str) : ChAt b (chunksR b) 0 ch0 [] := .run (by rw [List.drop_zero, ChR.pre_nil, run_chunks])
theorem chF_data {s : Ch} {c : UInt8} : (chF s c).2.1.length ≤ 1 ∧ ((chF s c).2.2.2 ≠ 0 → (chF s c).2.1 = []) ∧ ((chF s c).2.2.1 = true → (chF s c).2.2.2 = 0 ∧ (chF s c).2.1 = [] ∧ (chF s c).1.pos = 4 ∧ (chF s c).1.code = 0) ∧ ((chF s c).2.2.2 ≠ 0 → (chF s c).2.2.1 = false ∧ (chF s c).1.code = (chF s c).2.2.2) := by
  unfold chF
  split
  · simp
  rename_i h0
  split
  · simp
  split
  · simp
  split
  · simp
  split
  · split
    · simp
    · refine ⟨by simp, by simp, fun h => ⟨rfl, rfl, by simpa using h, ?_⟩, fun h => absurd rfl h⟩
      have : ∀ (x : Ch) (t : Str), x.code = 0 → (chL x t).1.code = 0 := by
        intro x t hx
        unfold chL
        split
        · split <;> exact hx
        split
        · split
          · exact hx
          split
          · exact hx
          split <;> exact hx
        split
        · split
          · exact hx
          split <;> exact hx
        · exact hx
      exact this _ _ (by simpa using h0)
  · simp
theorem chAt_step {b : Str} {R : ChR} {i : Nat} {s : Ch} {got : Str} (h : ChAt b R i s got) (hi : i < b.length) :
    ChAt b R (i + 1) (chF s b[i]).1 (got ++ (chF s b[i]).2.1) ∧
    (chF s b[i]).2.2.2 = wantR b R i ∧ (chF s b[i]).2.2.1 = wantB b R i := by
  obtain ⟨f1, f2, f3, f4⟩ := chF_data (s := s) (c := b[i])
  cases h with
  | run h =>
    rw [List.drop_eq_getElem_cons hi, chRun] at h
    by_cases h1 : (chF s b[i]).2.2.2 = 0
    · rw [if_neg (by simp [h1])] at h
      by_cases h2 : (chF s b[i]).2.2.1 = true
      · rw [if_pos h2] at h
        cases R with
        | more p k => simp [ChR.pre, ChR.fg] at h
        | bad p e r => simp [ChR.pre, ChR.fg] at h
        | over p r =>
          simp only [ChR.pre, ChR.fg, ChR.over.injEq, List.append_nil] at h
          obtain ⟨rfl, rfl⟩ := h
          obtain ⟨_, g1, g2, g3⟩ := f3 h2
          have hl : (b.drop (i + 1)).length = b.length - (i + 1) := List.length_drop
          refine ⟨.over _ _ rfl (by omega) (by omega) g2 (.inl g3) (by rw [g1, List.append_nil]), ?_, ?_⟩
          · rw [h1]
            simp only [wantR, hl]
            rw [if_neg (by omega)]
          · rw [h2]
            simp only [wantB, hl]
            exact (decide_eq_true (by omega)).symm
      · rw [if_neg h2, ChR.pre_pre] at h
        have h2' : (chF s b[i]).2.2.1 = false := by simpa using h2
        refine ⟨.run h, ?_, ?_⟩
        · rw [h1]
          cases R with
          | more p k => rfl
          | over p r =>
            obtain ⟨p', h3, _⟩ := ChR.pre_over h
            have := run_rest_over h3
            rw [List.length_drop] at this
            simp only [wantR]
            rw [if_neg (by omega)]
          | bad p e r =>
            obtain ⟨p', h3, _⟩ := ChR.pre_bad h
            have := run_rest_bad h3
            rw [List.length_drop] at this
            simp only [wantR]
            rw [if_neg (by omega)]
        · rw [h2']
          cases R with
          | more p k => rfl
          | bad p e r => rfl
          | over p r =>
            obtain ⟨p', h3, _⟩ := ChR.pre_over h
            have := run_rest_over h3
            rw [List.length_drop] at this
            simp only [wantB]
            exact (decide_eq_false (by omega)).symm
    · rw [if_pos h1] at h
      cases R with
      | more p k => simp [ChR.pre, ChR.fg] at h
      | over p r => simp [ChR.pre, ChR.fg] at h
      | bad p e r =>
        simp only [ChR.pre, ChR.fg, ChR.bad.injEq, List.append_nil] at h
        obtain ⟨rfl, rfl, rfl⟩ := h
        obtain ⟨g1, g2⟩ := f4 h1
        have hl : (b.drop (i + 1)).length = b.length - (i + 1) := List.length_drop
        refine ⟨.bad _ _ _ rfl (by omega) (by omega) g2 h1 (by rw [f2 h1, List.append_nil]), ?_, ?_⟩
        · simp only [wantR, hl]
          rw [if_pos (by omega)]
        · rw [g1]; rfl
  | over o r h h2 hr hp hc hg =>
    subst h
    have e0 : chF s b[i] = ({ s with code := 18 }, [], false, 18) := by
      unfold chF
      rcases hc with hc | hc
      · rw [if_neg (by simp [hc]), if_pos hp]
      · rw [if_pos (by rw [hc]; decide), hc]
        have : s = { s with code := 18 } := by rw [← hc]
        rw [← this]
    rw [e0]
    refine ⟨.over o r rfl (by omega) hr hp (.inr rfl) (by rw [List.append_nil, hg]), ?_, ?_⟩
    · simp only [wantR]
      rw [if_pos (by omega)]
    · simp only [wantB]
      exact (decide_eq_false (by omega)).symm
  | bad o r e h h2 hr hc he hg =>
    subst h
    have e0 : chF s b[i] = (s, [], false, e) := by
      unfold chF
      rw [if_pos (by rw [hc]; exact he), hc]
    rw [e0]
    refine ⟨.bad o r e rfl (by omega) hr hc he (by rw [List.append_nil, hg]), ?_, ?_⟩
    · simp only [wantR]
      rw [if_pos (by omega)]
    · rfl
theorem chAt_end {b : Str} {R : ChR} {s : Ch} {got : Str} (h : ChAt b R b.length s got) : got = outR R := by
  cases h with
  | run h =>
    rw [List.drop_length, chRun] at h
    cases R with
    | more p k => simp only [ChR.pre, ChR.fg, ChR.more.injEq, List.append_nil] at h; exact h.1
    | over p r => simp [ChR.pre, ChR.fg] at h
    | bad p e r => simp [ChR.pre, ChR.fg] at h
  | over o r h _ _ _ _ hg => subst h; exact hg
  | bad o r e h _ _ _ _ hg => subst h; exact hg
end Go.Proofs.YtjapkdcomcgamaaDoor
