/- A log's entries as bytes: the plain law. -/
import Derived.Test.YtjapkdcomcgamaaGreatDoorAbP
set_option linter.all false
namespace Go.Jrn
open Go Go.Ab

/-- A number in groups of seven bits, the lowest first. -/
def sevF : Nat → Nat → Str
  | 0, u => [UInt8.ofNat u]
  | f + 1, u => if u < 128 then [UInt8.ofNat u] else UInt8.ofNat (u % 128 + 128) :: sevF f (u / 128)
def sev (u : Nat) : Str := sevF 9 u
theorem sevF_more : ∀ (f u : Nat), u < 128 ^ (f + 1) → ∀ g, f ≤ g → sevF g u = sevF f u
  | 0, u, h, g, _ => by
    cases g with
    | zero => rfl
    | succ g => simp only [sevF]; rw [if_pos (by simpa using h)]
  | f + 1, u, h, g, hg => by
    cases g with
    | zero => omega
    | succ g =>
      rw [sevF, sevF]
      split
      · rfl
      · rw [sevF_more f (u / 128) (by rw [Nat.div_lt_iff_lt_mul (by omega)]; rw [Nat.pow_succ] at h; exact h) g (by omega)]
theorem sev_small {u : Nat} (h : u < 128) : sev u = [UInt8.ofNat u] := by rw [sev, sevF, if_pos h]
theorem sev_big {u : Nat} (h : 128 ≤ u) (hu : u < 128 ^ 9) : sev u = UInt8.ofNat (u % 128 + 128) :: sev (u / 128) := by
  rw [sev, sevF, if_neg (by omega), sev, sevF_more 8 (u / 128) (Nat.lt_of_le_of_lt (Nat.div_le_self _ _) hu) 9 (by omega)]
theorem sev_len (u : Nat) : 1 ≤ (sev u).length ∧ (sev u).length ≤ 10 := by
  have h : ∀ f u, 1 ≤ (sevF f u).length ∧ (sevF f u).length ≤ f + 1 := by
    intro f
    induction f with
    | zero => intro u; exact ⟨Nat.le_refl _, Nat.le_refl _⟩
    | succ f ih =>
      intro u
      rw [sevF]
      split
      · simp
      · have := ih (u / 128); simp; omega
  exact h 9 u

/-- A number at the beginning: its value, what is behind it, is it whole (and written as short as may be)? i groups came before. -/
def numF (i u : Nat) : Str → Int × Str × Bool
  | [] => (0, [], false)
  | c :: r => if 5 ≤ i then (0, [], false) else
    if c.toNat < 128 then ((u + c.toNat * 128 ^ i : Nat) - 1, r, decide (i = 0 ∨ 0 < c.toNat)) else numF (i + 1) (u + c.toNat % 128 * 128 ^ i) r
def num (b : Str) : Int × Str × Bool := numF 0 0 b

/-- How many groups. -/
def numK (i : Nat) : Str → Nat
  | [] => i
  | c :: r => if 5 ≤ i then i else if c.toNat < 128 then i + 1 else numK (i + 1) r
theorem numF_rest (b : Str) : ∀ (i u : Nat) (l : Str), b.drop i = l → (numF i u l).2.2 = true → (numF i u l).2.1 = b.drop (numK i l) ∧ i < numK i l
  | i, u, [], h, ht => by simp [numF] at ht
  | i, u, c :: r, h, ht => by
    rw [numF] at ht ⊢
    rw [numK]
    split at ht
    · cases ht
    · rename_i h5
      rw [if_neg h5, if_neg h5]
      have hr : b.drop (i + 1) = r := by rw [← List.drop_drop, h]; rfl
      split
      · rename_i hc; rw [if_pos hc] at ht; exact ⟨hr.symm, by omega⟩
      · rename_i hc
        rw [if_neg hc] at ht
        have := numF_rest b (i + 1) _ r hr ht
        exact ⟨this.1, by omega⟩


theorem numF_step {b : Str} {i : Nat} (u : Nat) (h : i < b.length) (h5 : i < 5) : numF i u (b.drop i) =
    if (b.getD i 0).toNat < 128 then (((u + (b.getD i 0).toNat * 128 ^ i : Nat) : Int) - 1, b.drop (i + 1), decide (i = 0 ∨ 0 < (b.getD i 0).toNat)) else numF (i + 1) (u + (b.getD i 0).toNat % 128 * 128 ^ i) (b.drop (i + 1)) := by
  rw [List.drop_eq_getElem_cons h, numF, if_neg (by omega)]
  have : b.getD i 0 = b[i] := by simp [h]
  rw [this]
theorem numK_step {b : Str} {i : Nat} (h : i < b.length) (h5 : i < 5) : numK i (b.drop i) = if (b.getD i 0).toNat < 128 then i + 1 else numK (i + 1) (b.drop (i + 1)) := by
  rw [List.drop_eq_getElem_cons h, numK, if_neg (by omega)]
  have : b.getD i 0 = b[i] := by simp [h]
  rw [this]
theorem numF_end {b : Str} {i : Nat} (u : Nat) (h : b.length ≤ i ∨ 5 ≤ i) : numF i u (b.drop i) = (0, [], false) := by
  cases hd : b.drop i with
  | nil => rfl
  | cons c r =>
    have : i < b.length := by
      rcases Nat.lt_or_ge i b.length with h1 | h1
      · exact h1
      · rw [List.drop_of_length_le h1] at hd; cases hd
    rw [numF, if_pos (by omega)]

def few (n : Int) : Bool := decide (-1 ≤ n) && decide (n < 1073741824)
def mayM (e : Ent) : Bool := decide (1 ≤ e.kind) && decide (e.kind ≤ 6) && few e.id && few e.n && decide (e.text.length < 1048576)
def enc3 (e : Ent) : Str := sev (e.kind + 1).toNat ++ sev (e.id + 1).toNat ++ sev (e.n + 1).toNat ++ e.text
def encB (e : Ent) : Str := sev ((enc3 e).length + 1) ++ enc3 e
def encM (e : Ent) : Str := if mayM e then encB e else []
def encC (e : Ent) : Int := if mayM e then 0 else 1
/-- Three numbers. -/
def three (b : Str) : Option (Int × Int × Int × Str) :=
  match num b with
  | (k, r, true) => (match num r with
    | (i, r, true) => (match num r with
      | (n, r, true) => some (k, i, n, r)
      | _ => none)
    | _ => none)
  | _ => none
/-- Numbers that are known, and those to come. -/
def thr (j : Nat) (a b c : Int) (s : Str) : Option (Int × Int × Int × Str) :=
  match j with
  | 0 => three s
  | 1 => (match num s with
    | (i, r, true) => (match num r with
      | (n, r, true) => some (a, i, n, r)
      | _ => none)
    | _ => none)
  | 2 => (match num s with
    | (n, r, true) => some (a, b, n, r)
    | _ => none)
  | _ => some (a, b, c, s)
/-- The first entry: what is behind it; false: none is whole there. -/
def oneX (b : Str) : Ent × Str × Bool :=
  match num b with
  | (n, r, true) => if n < 0 ∨ (r.length : Int) < n then (⟨0, 0, 0, []⟩, [], false) else
    match three (r.take n.toNat) with
    | some (k, i, m, t) => (⟨k, i, m, t⟩, r.drop n.toNat, mayM ⟨k, i, m, t⟩)
    | none => (⟨0, 0, 0, []⟩, [], false)
  | _ => (⟨0, 0, 0, []⟩, [], false)
def oneM (b : Str) : Option (Ent × Str) := if (oneX b).2.2 then some ((oneX b).1, (oneX b).2.1) else none
def decF : Nat → Str → List Ent × Str
  | 0, b => ([], b)
  | f + 1, b => match oneM b with
    | some (e, r) => (e :: (decF f r).1, (decF f r).2)
    | none => ([], b)
def dec (b : Str) : List Ent × Str := decF b.length b

theorem num_rest_lt {b : Str} (h : (num b).2.2 = true) : (num b).2.1.length < b.length := by
  obtain ⟨h1, h2⟩ := numF_rest b 0 0 b rfl h
  rw [num, h1, List.length_drop]
  cases b with
  | nil => simp [num, numF] at h
  | cons c r => simp; omega
theorem numF_le : ∀ (l : Str) (i u : Nat), (numF i u l).2.1.length ≤ l.length
  | [], i, u => Nat.le_refl _
  | c :: r, i, u => by
    rw [numF]
    split
    · simp
    · split
      · simp
      · have := numF_le r (i + 1) (u + c.toNat % 128 * 128 ^ i); simp; omega
theorem num_rest_le (b : Str) : (num b).2.1.length ≤ b.length := numF_le b 0 0
theorem oneX_lt {b : Str} (h : (oneX b).2.2 = true) : (oneX b).2.1.length < b.length := by
  unfold oneX at h ⊢
  split at h
  · rename_i n r0 hn
    have := num_rest_lt (b := b) (by rw [hn])
    rw [hn] at this
    simp only at this
    split at h
    · cases h
    · rename_i hc
      rw [if_neg hc]
      split at h
      · rename_i ht; simp only [ht]; simp; omega
      · cases h
  · cases h
theorem oneM_lt {b : Str} {e : Ent} {r : Str} (h : oneM b = some (e, r)) : r.length < b.length := by
  unfold oneM at h
  split at h
  · rename_i hx
    simp only [Option.some.injEq, Prod.mk.injEq] at h
    rw [← h.2]; exact oneX_lt hx
  · cases h
theorem oneM_no {s : Str} (h : (num s).2.2 = false) : oneM s = none := by
  rw [oneM, oneX, show num s = ((num s).1, (num s).2.1, false) by rw [← h]]; rfl
theorem oneM_neg {s : Str} (h : (num s).1 < 0 ∨ ((num s).2.1.length : Int) < (num s).1) : oneM s = none := by
  cases hk : (num s).2.2 with
  | false => exact oneM_no hk
  | true =>
    have hx : oneX s = (⟨0, 0, 0, []⟩, [], false) := by
      unfold oneX
      rw [show num s = ((num s).1, (num s).2.1, true) by rw [← hk]]
      simp only
      rw [if_pos h]
    rw [oneM, hx]; rfl
theorem decF_more : ∀ (f : Nat) (b : Str), b.length ≤ f → ∀ g, b.length ≤ g → decF f b = decF g b
  | 0, b, h, g, hg => by
    have : b = [] := List.eq_nil_of_length_eq_zero (by omega)
    subst this
    cases g with
    | zero => rfl
    | succ g => rfl
  | f + 1, b, h, g, hg => by
    cases g with
    | zero =>
      have : b = [] := List.eq_nil_of_length_eq_zero (by omega)
      subst this; rfl
    | succ g =>
      rw [decF, decF]
      cases ho : oneM b with
      | none => rfl
      | some p =>
        obtain ⟨e, r⟩ := p
        have := oneM_lt ho
        simp only
        rw [decF_more f r (by omega) g (by omega)]
theorem dec_some {b : Str} {e : Ent} {r : Str} (h : oneM b = some (e, r)) : dec b = (e :: (dec r).1, (dec r).2) := by
  have hl := oneM_lt h
  obtain ⟨n, hn⟩ : ∃ n, b.length = n + 1 := ⟨b.length - 1, by omega⟩
  unfold dec
  rw [hn, decF, h]
  simp only
  rw [decF_more n r (by omega) r.length (Nat.le_refl _)]
theorem dec_none {b : Str} (h : oneM b = none) : dec b = ([], b) := by
  unfold dec
  cases b with
  | nil => rfl
  | cons c r => rw [List.length_cons, decF, h]
theorem decF_len : ∀ (f : Nat) (b : Str), (decF f b).1.length + (decF f b).2.length ≤ b.length
  | 0, b => by simp [decF]
  | f + 1, b => by
    rw [decF]
    cases ho : oneM b with
    | none => simp
    | some p =>
      obtain ⟨e, r⟩ := p
      have := oneM_lt ho
      have := decF_len f r
      simp only [List.length_cons]; omega
theorem dec_len (b : Str) : (dec b).1.length + (dec b).2.length ≤ b.length := decF_len _ b
end Go.Jrn
