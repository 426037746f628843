/- Lines of a stream, byte by byte: the plain machine, and the line at the beginning of bytes. -/
import Derived.Test.YtjapkdcomcgamaaDoorChrC
set_option linter.all false
namespace Go.Proofs.YtjapkdcomcgamaaDoor
open Go Go.Sep Go.Ab

structure Ln where
  b : Str
  cr : Bool
  code : Int
  deriving DecidableEq
def ln0 : Ln := ⟨[], false, 0⟩
def seenC (c : UInt8) : Bool := seenB (c.toNat : Int)
/-- A byte more: what becomes of it; the line, if one ends; a code. -/
def lnF (s : Ln) (c : UInt8) : Ln × Str × Bool × Int :=
  if s.code ≠ 0 then (s, [], false, s.code)
  else if s.cr then (if c = 10 then (⟨[], false, 0⟩, s.b, true, 0) else (⟨s.b, s.cr, 2⟩, [], false, 2))
  else if c = 10 then (⟨s.b, s.cr, 2⟩, [], false, 2)
  else if c = 13 then (⟨s.b, true, s.code⟩, [], false, 0)
  else if seenC c = false then (⟨s.b, s.cr, 3⟩, [], false, 3)
  else if s.b.length = 200 then (⟨s.b, s.cr, 4⟩, [], false, 4)
  else (⟨s.b ++ [c], s.cr, s.code⟩, [], false, 0)
def lnB (s : Ln) : Bool := decide (0 < s.b.length) || s.cr

/-- The line at the beginning of bytes: its text, how many bytes it has with its end, does one end there; a code. -/
def lineGo (pre : Str) : Str → Str × Int × Bool × Int
  | [] => ([], 0, false, 0)
  | c :: r =>
    if c = 13 then
      match r with
      | [] => ([], 0, false, 0)
      | d :: _ => if d = 10 then (pre, (pre.length : Int) + 2, true, 0) else ([], (pre.length : Int) + 2, false, 2)
    else if c = 10 then ([], (pre.length : Int) + 1, false, 2)
    else if seenC c = false then ([], (pre.length : Int) + 1, false, 3)
    else if pre.length = 200 then ([], (pre.length : Int) + 1, false, 4)
    else lineGo (pre ++ [c]) r
def lineOf (b : Str) : Str × Int × Bool × Int := lineGo [] b

/-- What comes of bytes: all are held; or a line, and what is behind; or a code, and what is behind. -/
inductive LnR where
  | more (s : Ln)
  | line (t rest : Str)
  | bad (e : Int) (rest : Str)
def lnRun (s : Ln) : Str → LnR
  | [] => .more s
  | c :: r => if (lnF s c).2.2.1 = true then .line (lnF s c).2.1 r else if (lnF s c).2.2.2 ≠ 0 then .bad (lnF s c).2.2.2 r else lnRun (lnF s c).1 r
/-- The same of the line at the beginning. -/
def LnIs (pre r : Str) : LnR → Prop
  | .more s => lineGo pre r = ([], 0, false, 0) ∧ s.code = 0 ∧ (lnB s = true ↔ r ≠ [] ∨ pre ≠ [])
  | .line t rest => ∃ n : Nat, lineGo pre r = (t, ((pre.length + n : Nat) : Int), true, 0) ∧ n ≤ r.length ∧ 0 < n ∧ rest = r.drop n
  | .bad e rest => ∃ n : Nat, lineGo pre r = ([], ((pre.length + n : Nat) : Int), false, e) ∧ e ≠ 0 ∧ n ≤ r.length ∧ 0 < n ∧ rest = r.drop n
theorem lnIs_go : ∀ (r pre : Str), LnIs pre r (lnRun ⟨pre, false, 0⟩ r)
  | [], pre => ⟨rfl, rfl, by cases pre <;> simp [lnB]⟩
  | c :: r, pre => by
    by_cases h10 : c = 10
    · subst h10
      have e : lnRun ⟨pre, false, 0⟩ (10 :: r) = .bad 2 r := by simp [lnRun, lnF]
      rw [e]
      exact ⟨1, by simp [lineGo], by decide, by simp, by decide, rfl⟩
    by_cases h13 : c = 13
    · subst h13
      cases r with
      | nil =>
        have e : lnRun ⟨pre, false, 0⟩ [13] = .more ⟨pre, true, 0⟩ := by simp [lnRun, lnF]
        rw [e]
        exact ⟨by simp [lineGo], rfl, by simp [lnB]⟩
      | cons d r =>
        by_cases hd : d = 10
        · subst hd
          have e : lnRun ⟨pre, false, 0⟩ (13 :: 10 :: r) = .line pre r := by simp [lnRun, lnF]
          rw [e]
          exact ⟨2, by simp [lineGo], by simp, by decide, by simp⟩
        · have e : lnRun ⟨pre, false, 0⟩ (13 :: d :: r) = .bad 2 r := by simp [lnRun, lnF, hd]
          rw [e]
          exact ⟨2, by simp [lineGo, hd], by decide, by simp, by decide, by simp⟩
    by_cases hs : seenC c = false
    · have e : lnRun ⟨pre, false, 0⟩ (c :: r) = .bad 3 r := by simp [lnRun, lnF, h10, h13, hs]
      rw [e]
      exact ⟨1, by simp [lineGo.eq_def, h10, h13, hs], by decide, by simp, by decide, rfl⟩
    by_cases hl : pre.length = 200
    · have e : lnRun ⟨pre, false, 0⟩ (c :: r) = .bad 4 r := by simp [lnRun, lnF, h10, h13, hs, hl]
      rw [e]
      exact ⟨1, by rw [lineGo.eq_def]; simp [h10, h13, hs, hl], by decide, by simp, by decide, rfl⟩
    have ih := lnIs_go r (pre ++ [c])
    have e1 : lnF ⟨pre, false, 0⟩ c = (⟨pre ++ [c], false, 0⟩, [], false, 0) := by simp [lnF, h10, h13, hs, hl]
    have e2 : lineGo pre (c :: r) = lineGo (pre ++ [c]) r := by rw [lineGo.eq_def]; simp [h10, h13, hs, hl]
    have e3 : lnRun ⟨pre, false, 0⟩ (c :: r) = lnRun ⟨pre ++ [c], false, 0⟩ r := by rw [lnRun, e1]; simp
    rw [e3]
    generalize lnRun ⟨pre ++ [c], false, 0⟩ r = x at ih
    cases x with
    | more s =>
      obtain ⟨h1, h2, h3⟩ := ih
      exact ⟨by rw [e2, h1], h2, by rw [h3]; simp⟩
    | line t rest =>
      obtain ⟨n, h1, h2, h3, h4⟩ := ih
      exact ⟨n + 1, by rw [e2, h1]; simp; omega, by simp; omega, by omega, by rw [h4]; simp⟩
    | bad e rest =>
      obtain ⟨n, h1, h2, h3, h4, h5⟩ := ih
      exact ⟨n + 1, by rw [e2, h1]; simp; omega, h2, by simp; omega, by omega, by rw [h5]; simp⟩
theorem lnIs_of (r : Str) : LnIs [] r (lnRun ln0 r) := lnIs_go r []
theorem lineGo_app (t : Str) : ∀ s pre : Str, seenA s = true → pre.length + s.length ≤ 200 → lineGo pre (s ++ 13 :: 10 :: t) = (pre ++ s, ((pre ++ s).length : Int) + 2, true, 0)
  | [], pre, _, _ => by simp [lineGo]
  | c :: s, pre, h, hl => by
    have hc : seenC c = true := by unfold seenA at h; rw [List.all_cons, Bool.and_eq_true] at h; exact h.1
    have hs : seenA s = true := by unfold seenA at h ⊢; rw [List.all_cons, Bool.and_eq_true] at h; exact h.2
    have h13 : c ≠ 13 := fun e => by subst e; revert hc; decide +kernel
    have h10 : c ≠ 10 := fun e => by subst e; revert hc; decide +kernel
    rw [List.length_cons] at hl
    have ih := lineGo_app t s (pre ++ [c]) hs (by rw [List.length_append]; simp; omega)
    have e2 : lineGo pre (c :: (s ++ 13 :: 10 :: t)) = lineGo (pre ++ [c]) (s ++ 13 :: 10 :: t) := by
      rw [lineGo.eq_def]
      simp only [h13, h10, hc, if_false, Bool.true_eq_false]
      rw [if_neg (by omega)]
    rw [List.cons_append, e2, ih]
    simp
theorem lineOf_app {s : Str} (t : Str) (h : seenA s = true) (hl : s.length ≤ 200) : lineOf (s ++ 13 :: 10 :: t) = (s, (s.length : Int) + 2, true, 0) := by
  unfold lineOf
  rw [lineGo_app t s [] h (by simpa using hl)]
  simp
end Go.Proofs.YtjapkdcomcgamaaDoor
