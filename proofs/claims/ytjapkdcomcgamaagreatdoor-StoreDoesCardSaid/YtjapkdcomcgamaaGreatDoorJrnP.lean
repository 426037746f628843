/- A log's entries: there and back, and torn: the plain law. -/
import Derived.Test.YtjapkdcomcgamaaGreatDoorJrnL
set_option linter.all false
namespace Go.Jrn
open Go Go.Ab

theorem pow5 {i : Nat} (h : i < 5) : 128 ^ (5 - i) = 128 * 128 ^ (5 - (i + 1)) := by
  rw [show 5 - i = (5 - (i + 1)) + 1 by omega, Nat.pow_succ, Nat.mul_comm]
/-- What is read as a number is that number's text. -/
theorem numF_back : ∀ (s : Str) (i u : Nat) (v : Int) (r : Str), numF i u s = (v, r, true) → ∃ x, v = ((u + x * 128 ^ i : Nat) : Int) - 1 ∧ s = sev x ++ r ∧ (0 < i → 0 < x) ∧ x < 128 ^ (5 - i)
  | [], i, u, v, r, h => by simp [numF] at h
  | c :: l, i, u, v, r, h => by
    rw [numF] at h
    split at h
    · simp at h
    · rename_i h5
      have hp := pow5 (i := i) (by omega)
      have hpos : 0 < 128 ^ (5 - (i + 1)) := Nat.pow_pos (by omega)
      split at h
      · rename_i hc
        simp only [Prod.mk.injEq, decide_eq_true_eq] at h
        obtain ⟨rfl, rfl, h3⟩ := h
        refine ⟨c.toNat, rfl, ?_, by omega, by omega⟩
        rw [sev_small hc, UInt8.ofNat_toNat]; rfl
      · rename_i hc
        obtain ⟨y, h1, h2, h3, h4⟩ := numF_back l (i + 1) _ v r h
        have hy := h3 (by omega)
        have hc2 : c.toNat < 256 := UInt8.toNat_lt c
        have h45 : 128 ^ (5 - (i + 1)) ≤ 128 ^ 4 := Nat.pow_le_pow_right (by omega) (by omega)
        refine ⟨c.toNat % 128 + 128 * y, ?_, ?_, by omega, ?_⟩
        · rw [h1, Nat.pow_succ, Nat.add_mul]
          congr 2
          rw [Nat.add_assoc]
          congr 1
          rw [Nat.mul_comm (128 ^ i) 128, Nat.mul_comm 128 y, Nat.mul_assoc]
        · rw [sev_big (by omega) (by omega), h2, show (c.toNat % 128 + 128 * y) % 128 + 128 = c.toNat by omega, show (c.toNat % 128 + 128 * y) / 128 = y by omega, UInt8.ofNat_toNat]; rfl
        · rw [hp]; omega
theorem num_back {s r : Str} {v : Int} (h : num s = (v, r, true)) : -1 ≤ v ∧ v < 34359738367 ∧ s = sev (v + 1).toNat ++ r := by
  obtain ⟨x, h1, h2, _, h4⟩ := numF_back s 0 0 v r h
  simp only [Nat.pow_zero, Nat.mul_one, Nat.zero_add, Nat.sub_zero] at h1 h4
  have : (v + 1).toNat = x := by omega
  rw [this]
  exact ⟨by omega, by omega, h2⟩
/-- A number's text is read as that number. -/
theorem numF_forth : ∀ (x i u : Nat) (r : Str), i < 5 → x < 128 ^ (5 - i) → (0 < i → 0 < x) → numF i u (sev x ++ r) = (((u + x * 128 ^ i : Nat) : Int) - 1, r, true) := by
  intro x
  induction x using Nat.strongRecOn with
  | _ x ih =>
    intro i u r h5 hx hi
    have hp := pow5 h5
    have h55 : 128 ^ (5 - i) ≤ 128 ^ 5 := Nat.pow_le_pow_right (by omega) (by omega)
    rcases Nat.lt_or_ge x 128 with hs | hb
    · have e : (UInt8.ofNat x).toNat = x := by rw [UInt8.toNat_ofNat']; omega
      rw [sev_small hs, List.cons_append, numF, if_neg (by omega), e, if_pos hs]
      simp only [List.nil_append, Prod.mk.injEq, true_and, decide_eq_true_eq]
      omega
    · have e : (UInt8.ofNat (x % 128 + 128)).toNat = x % 128 + 128 := by rw [UInt8.toNat_ofNat']; omega
      have hi4 : i + 1 < 5 := by
        rcases Nat.lt_or_ge (i + 1) 5 with h | h
        · exact h
        · have : i = 4 := by omega
          subst this; simp at hx; omega
      rw [sev_big hb (by omega), List.cons_append, numF, if_neg (by omega), e, if_neg (by omega), ih (x / 128) (by omega) (i + 1) _ r hi4 (by rw [Nat.div_lt_iff_lt_mul (by omega), Nat.mul_comm]; omega) (by omega)]
      simp only [Prod.mk.injEq, and_true]
      congr 2
      rw [show (x % 128 + 128) % 128 = x % 128 by omega, Nat.pow_succ, Nat.add_assoc]
      congr 1
      rw [Nat.mul_comm (128 ^ i) 128, ← Nat.mul_assoc, ← Nat.add_mul]
      congr 1
      omega
theorem num_forth {v : Int} {r : Str} (h1 : -1 ≤ v) (h2 : v < 34359738367) : num (sev (v + 1).toNat ++ r) = (v, r, true) := by
  rw [num, numF_forth (v + 1).toNat 0 0 r (by omega) (by simp; omega) (by omega)]
  simp only [Nat.pow_zero, Nat.mul_one, Nat.zero_add, Prod.mk.injEq, and_true]
  omega
/-- A number's text that is cut off is no number. -/
theorem numF_torn : ∀ (x i u : Nat) (p : Str), x < 128 ^ 9 → p.length < (sev x).length → p <+: sev x → (numF i u p).2.2 = false := by
  intro x
  induction x using Nat.strongRecOn with
  | _ x ih =>
    intro i u p hx hl hp
    cases p with
    | nil => rfl
    | cons c p =>
      rcases Nat.lt_or_ge x 128 with hs | hb
      · rw [sev_small hs] at hl; simp at hl
      · rw [sev_big hb hx] at hl hp
        obtain ⟨rfl, hp2⟩ := List.cons_prefix_cons.1 hp
        have e : (UInt8.ofNat (x % 128 + 128)).toNat = x % 128 + 128 := by rw [UInt8.toNat_ofNat']; omega
        rw [numF]
        split
        · rfl
        · rw [e, if_neg (by omega)]
          exact ih (x / 128) (by omega) (i + 1) _ p (Nat.lt_of_le_of_lt (Nat.div_le_self _ _) hx) (by simpa using hl) hp2

theorem three_back {s t : Str} {k i n : Int} (h : three s = some (k, i, n, t)) : s = sev (k + 1).toNat ++ sev (i + 1).toNat ++ sev (n + 1).toNat ++ t := by
  unfold three at h
  split at h
  · rename_i k' r1 h1
    split at h
    · rename_i i' r2 h2
      split at h
      · rename_i n' r3 h3
        simp only [Option.some.injEq, Prod.mk.injEq] at h
        obtain ⟨rfl, rfl, rfl, rfl⟩ := h
        obtain ⟨_, _, e1⟩ := num_back h1
        obtain ⟨_, _, e2⟩ := num_back h2
        obtain ⟨_, _, e3⟩ := num_back h3
        rw [e1, e2, e3]; simp only [List.append_assoc]
      · cases h
    · cases h
  · cases h
theorem three_forth {k i n : Int} {t : Str} (hk : -1 ≤ k ∧ k < 34359738367) (hi : -1 ≤ i ∧ i < 34359738367) (hn : -1 ≤ n ∧ n < 34359738367) : three (sev (k + 1).toNat ++ sev (i + 1).toNat ++ sev (n + 1).toNat ++ t) = some (k, i, n, t) := by
  unfold three
  rw [List.append_assoc, List.append_assoc, num_forth hk.1 hk.2]
  simp only
  rw [num_forth hi.1 hi.2]
  simp only
  rw [num_forth hn.1 hn.2]
theorem oneM_back {s r : Str} {e : Ent} (h : oneM s = some (e, r)) : mayM e = true ∧ s = encB e ++ r := by
  unfold oneM at h
  split at h
  · rename_i hx
    simp only [Option.some.injEq, Prod.mk.injEq] at h
    obtain ⟨rfl, rfl⟩ := h
    unfold oneX at hx ⊢
    split at hx
    · rename_i n q hn
      split at hx
      · cases hx
      · rename_i hc
        rw [if_neg hc]
        split at hx
        · rename_i k i m t ht
          simp only [ht]
          refine ⟨hx, ?_⟩
          obtain ⟨_, _, e1⟩ := num_back hn
          have e2 := three_back ht
          have hl : (q.take n.toNat).length = n.toNat := by rw [List.length_take]; omega
          have e3 : enc3 ⟨k, i, m, t⟩ = q.take n.toNat := by rw [e2]; rfl
          rw [encB, e3, hl, show n.toNat + 1 = (n + 1).toNat by omega, List.append_assoc, List.take_append_drop]
          exact e1
        · cases hx
    · cases hx
  · cases h
theorem mayM_nums {e : Ent} (h : mayM e = true) : (-1 ≤ e.kind ∧ e.kind < 34359738367) ∧ (-1 ≤ e.id ∧ e.id < 34359738367) ∧ (-1 ≤ e.n ∧ e.n < 34359738367) ∧ e.text.length < 1048576 := by
  simp only [mayM, few, Bool.and_eq_true, decide_eq_true_eq] at h
  omega
theorem enc3_len {e : Ent} (h : mayM e = true) : (enc3 e).length < 1048606 := by
  have := mayM_nums h
  have h1 := sev_len (e.kind + 1).toNat
  have h2 := sev_len (e.id + 1).toNat
  have h3 := sev_len (e.n + 1).toNat
  simp only [enc3, List.length_append]; omega
theorem oneM_forth {e : Ent} (r : Str) (h : mayM e = true) : oneM (encB e ++ r) = some (e, r) := by
  have hl := enc3_len h
  obtain ⟨h1, h2, h3, _⟩ := mayM_nums h
  have hn : num (encB e ++ r) = (((enc3 e).length : Int), enc3 e ++ r, true) := by
    have := num_forth (v := ((enc3 e).length : Int)) (r := enc3 e ++ r) (by omega) (by omega)
    rw [show (((enc3 e).length : Int) + 1).toNat = (enc3 e).length + 1 by omega] at this
    rw [encB, List.append_assoc]; exact this
  have hx : oneX (encB e ++ r) = (e, r, true) := by
    unfold oneX
    rw [hn]
    simp only
    rw [if_neg (by rw [List.length_append]; omega), Int.toNat_natCast, List.take_left' rfl, List.drop_left' rfl]
    have ht : three (enc3 e) = some (e.kind, e.id, e.n, e.text) := three_forth h1 h2 h3
    rw [ht]
    simp only
    have : mayM ⟨e.kind, e.id, e.n, e.text⟩ = true := h
    rw [this]
  rw [oneM, hx]; rfl
/-- An entry that is cut off is none. -/
theorem oneM_torn {e : Ent} {p : Str} (h : mayM e = true) (hp : p <+: encB e) (hl : p.length < (encB e).length) : oneM p = none := by
  have hlen := enc3_len h
  rw [encB] at hp hl
  rw [List.length_append] at hl
  rcases Nat.lt_or_ge p.length (sev ((enc3 e).length + 1)).length with h1 | h1
  · refine oneM_no ?_
    have hp2 : p <+: sev ((enc3 e).length + 1) := by
      obtain ⟨t, ht⟩ := hp
      have := congrArg (List.take p.length) ht
      rw [List.take_left' rfl, List.take_append_of_le_length (by omega)] at this
      rw [this]; exact List.take_prefix _ _
    exact numF_torn _ 0 0 p (by omega) h1 hp2
  · obtain ⟨t, ht⟩ := hp
    have e1 : p = sev ((enc3 e).length + 1) ++ p.drop (sev ((enc3 e).length + 1)).length := by
      have := congrArg (List.take (sev ((enc3 e).length + 1)).length) ht
      rw [List.take_left' rfl, List.take_append_of_le_length h1] at this
      rw [← this]
      rw [List.length_take, Nat.min_eq_left h1, List.take_append_drop]
    have hn := num_forth (v := ((enc3 e).length : Int)) (r := p.drop (sev ((enc3 e).length + 1)).length) (by omega) (by omega)
    rw [show (((enc3 e).length : Int) + 1).toNat = (enc3 e).length + 1 by omega, ← e1] at hn
    refine oneM_neg (.inr ?_)
    rw [hn]
    simp only [List.length_drop]
    omega

def encAll : List Ent → Str
  | [] => []
  | e :: l => encB e ++ encAll l
theorem encAll_append (a b : List Ent) : encAll (a ++ b) = encAll a ++ encAll b := by
  induction a with
  | nil => rfl
  | cons e l ih => simp [encAll, ih, List.append_assoc]
/-- There and back. -/
theorem dec_back : ∀ (f : Nat) (b : Str), b.length ≤ f → b = encAll (dec b).1 ++ (dec b).2 ∧ ∀ e ∈ (dec b).1, mayM e = true
  | f, b, hf => by
    cases ho : oneM b with
    | none => rw [dec_none ho]; exact ⟨rfl, fun e h => by cases h⟩
    | some p =>
      obtain ⟨e, r⟩ := p
      obtain ⟨h1, h2⟩ := oneM_back ho
      have hlt := oneM_lt ho
      cases f with
      | zero => omega
      | succ f =>
        obtain ⟨h3, h4⟩ := dec_back f r (by omega)
        rw [dec_some ho]
        refine ⟨?_, fun x hx => ?_⟩
        · simp only [encAll]
          rw [List.append_assoc, ← h3]; exact h2
        · cases hx with
          | head => exact h1
          | tail _ h => exact h4 x h
/-- As far as it is whole. -/
theorem dec_forth : ∀ (l : List Ent) (r : Str), (∀ e ∈ l, mayM e = true) → dec (encAll l ++ r) = (l ++ (dec r).1, (dec r).2)
  | [], r, _ => rfl
  | e :: l, r, h => by
    rw [encAll, List.append_assoc, dec_some (oneM_forth _ (h e (List.mem_cons_self ..))), dec_forth l r fun x hx => h x (List.mem_cons_of_mem _ hx)]; rfl
theorem torn : ∀ (l : List Ent) (k : Nat), (∀ e ∈ l, mayM e = true) → k ≤ (encAll l).length → ∃ W, W ≤ l.length ∧ (encAll (l.take W)).length ≤ k ∧ (∀ j, j < l.length → ((encAll (l.take (j + 1))).length ≤ k ↔ j < W)) ∧
    (dec ((encAll l).take k)).1 = l.take W ∧ (dec ((encAll l).take k)).2.length + (encAll (l.take W)).length = k
  | [], k, _, hk => by
    have : k = 0 := by simpa [encAll] using hk
    subst this
    exact ⟨0, Nat.le_refl _, Nat.le_refl _, fun j hj => by simp at hj, rfl, rfl⟩
  | e :: l, k, hm, hk => by
    have he := hm e (List.mem_cons_self ..)
    simp only [encAll, List.length_append] at hk
    rcases Nat.lt_or_ge k (encB e).length with h1 | h1
    · have ht : (encAll (e :: l)).take k = (encB e).take k := by rw [encAll, List.take_append_of_le_length (by omega)]
      have hl : ((encB e).take k).length = k := by rw [List.length_take]; omega
      have hn := oneM_torn he (List.take_prefix k (encB e)) (by omega)
      rw [ht, dec_none hn]
      refine ⟨0, Nat.zero_le _, Nat.zero_le _, fun j _ => ⟨fun h => ?_, fun h => by omega⟩, rfl, by simp [encAll, hl]⟩
      rw [List.take_succ_cons, encAll, List.length_append] at h; omega
    · obtain ⟨W, a1, a2, a3, a4, a5⟩ := torn l (k - (encB e).length) (fun x hx => hm x (List.mem_cons_of_mem _ hx)) (by omega)
      have ht : (encAll (e :: l)).take k = encB e ++ (encAll l).take (k - (encB e).length) := by
        rw [encAll, List.take_append, List.take_of_length_le h1]
      rw [ht, dec_some (oneM_forth _ he)]
      refine ⟨W + 1, by simp; omega, ?_, fun j hj => ?_, by simp [a4], ?_⟩
      · rw [List.take_succ_cons, encAll, List.length_append]; omega
      · rw [List.take_succ_cons, encAll, List.length_append]
        cases j with
        | zero => simp [encAll]; omega
        | succ j =>
          have := a3 j (by simpa using hj)
          omega
      · rw [List.take_succ_cons, encAll, List.length_append]; simp only; omega
theorem encB_len {e : Ent} (h : mayM e = true) : (encB e).length ≤ e.text.length + 50 := by
  have h0 := sev_len ((enc3 e).length + 1)
  have h1 := sev_len (e.kind + 1).toNat
  have h2 := sev_len (e.id + 1).toNat
  have h3 := sev_len (e.n + 1).toNat
  simp only [encB, enc3, List.length_append] at h0 ⊢; omega
end Go.Jrn
