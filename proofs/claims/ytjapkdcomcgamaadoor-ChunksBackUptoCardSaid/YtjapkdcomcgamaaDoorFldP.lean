/- Fields of a head: there and back, the plain law. -/
import Derived.Test.YtjapkdcomcgamaaDoorFldA
set_option linter.all false
namespace Go.Proofs.YtjapkdcomcgamaaDoor
open Go Go.Sep Go.Ab
set_option maxRecDepth 100000

theorem indexByte_app (c : UInt8) (t : Str) : ∀ s : Str, (∀ x ∈ s, x ≠ c) → Lib.indexByte (s ++ c :: t) c = s.length
  | [], _ => by simp [Lib.indexByte]
  | b :: l, h => by
    have ih := indexByte_app c t l (fun x hx => h x (List.mem_cons_of_mem _ hx))
    have hb : (b == c) = false := by simpa using h b (List.mem_cons_self ..)
    simp only [List.cons_append, Lib.indexByte, hb, ih, List.length_cons]
    rw [if_neg (by simp), if_neg (by try simp; try omega)]
    try omega
theorem tokA_mem {s : Str} (h : tokA s = true) {x : UInt8} (hx : x ∈ s) : tokB (x.toNat : Int) = true := List.all_eq_true.1 h x hx
theorem tokA_no58 {s : Str} (h : tokA s = true) : ∀ x ∈ s, x ≠ 58 := fun x hx e => by
  have := tokA_mem h hx
  subst e
  revert this
  decide +kernel
theorem tokenA_tok {s : Str} (h : tokenA s = true) : s ≠ [] ∧ tokA s = true := by
  unfold tokenA at h
  simpa using h
theorem cutB_text {n v : Str} (h : tokA n = true) : cutB (n ++ [58, 32] ++ v) 58 = (n, 32 :: v, true) := by
  have e : n ++ [58, 32] ++ v = n ++ 58 :: 32 :: v := by simp
  have hi := indexByte_app 58 (32 :: v) n (tokA_no58 h)
  rw [e]
  unfold cutB
  rw [hi, if_pos (by omega)]
  simp
theorem trL_blank (v : Str) : trL (32 :: v) = trL v := by rw [trL_cons, if_pos (by decide)]
theorem trim_blank (v : Str) : Lib.trimS (32 :: v) [32, 9] = Lib.trimS v [32, 9] := by
  rw [trimS_eq, trimS_eq, tr_comm, tr_comm, trL_blank]
theorem seen_blank (v : Str) : seenA (32 :: v) = seenA v := by
  have h : seenA (32 :: v) = (seenB ((32 : UInt8).toNat : Int) && seenA v) := by unfold seenA; rw [List.all_cons]
  rw [h, show seenB ((32 : UInt8).toNat : Int) = true by decide +kernel, Bool.true_and]
theorem trim_mem {s : Str} {x : UInt8} (h : x ∈ Lib.trimS s [32, 9]) : x ∈ s := by
  unfold Lib.trimS Lib.trimLeftS Lib.trimRightS at h
  have h := (List.dropWhile_sublist _).subset h
  rw [List.mem_reverse] at h
  have h := (List.dropWhile_sublist _).subset h
  simpa using h
theorem seen_trim {s : Str} (h : seenA s = true) : seenA (Lib.trimS s [32, 9]) = true :=
  List.all_eq_true.2 fun x hx => List.all_eq_true.1 h x (trim_mem hx)

/-- A field that has a text. -/
structure Fit (f : Fld) : Prop where
  tok : tokenA f.name = true
  len : f.name.length ≤ 40
  seen : seenA f.value = true
  trim : Lib.trimS f.value [32, 9] = f.value
theorem text_fit {f : Fld} (h : (textF f).2 = 0) : Fit f ∧ f.name.length + 2 + f.value.length ≤ 200 ∧ (textF f).1 = f.name ++ [58, 32] ++ f.value := by
  unfold textF at h ⊢
  split at h
  · cases h
  · split at h
    · cases h
    · split at h
      · cases h
      · rename_i h1 h2 h3
        rw [if_neg h1, if_neg h2, if_neg h3]
        simp only [not_or, Bool.not_eq_false, Decidable.not_not] at h1 h3
        exact ⟨⟨h1, by omega, h3.1, h3.2⟩, by omega, rfl⟩
theorem fit_parse {f : Fld} (h : Fit f) : parseF (f.name ++ [58, 32] ++ f.value) = (f, 0) := by
  obtain ⟨h1, h2, h3, h4⟩ := h
  unfold parseF
  rw [cutB_text (tokenA_tok h1).2]
  simp only [seen_blank, trim_blank]
  rw [if_neg (by simp), if_neg (by simp [h1]), if_neg (by omega), if_neg (by simp [h3]), h4]
theorem parse_fit {s : Str} (h : (parseF s).2 = 0) : Fit (parseF s).1 := by
  unfold parseF at h ⊢
  split at h
  · cases h
  · split at h
    · cases h
    · split at h
      · cases h
      · split at h
        · cases h
        · rename_i h1 h2 h3 h4
          rw [if_neg h1, if_neg h2, if_neg h3, if_neg h4]
          exact ⟨by simpa using h2, by simpa using h3, seen_trim (by simpa using h4), trimS_idem _⟩
theorem parse_bad {s : Str} (h : (parseF s).2 ≠ 0) : (parseF s).1 = ⟨[], []⟩ := by
  unfold parseF at h ⊢
  split
  · rfl
  · split
    · rfl
    · split
      · rfl
      · split
        · rfl
        · rename_i h1 h2 h3 h4
          rw [if_neg h1, if_neg h2, if_neg h3, if_neg h4] at h
          exact absurd rfl h
theorem fit_text {f : Fld} (h : Fit f) : textF f = if 200 < f.name.length + 2 + f.value.length then ([], 4) else (f.name ++ [58, 32] ++ f.value, 0) := by
  obtain ⟨h1, h2, h3, h4⟩ := h
  unfold textF
  rw [if_neg (by simp [h1])]
  by_cases hl : 200 < f.name.length + 2 + f.value.length
  · rw [if_pos (Or.inr hl), if_pos hl]
  · rw [if_neg (by omega), if_neg (by simp [h3, h4]), if_neg hl]
theorem text_parse {f : Fld} (h : (textF f).2 = 0) : parseF (textF f).1 = (f, 0) ∧ (textF f).1.length ≤ 200 := by
  obtain ⟨h1, h2, h3⟩ := text_fit h
  rw [h3]
  exact ⟨fit_parse h1, by simp; omega⟩
theorem parse_len (s : Str) : (parseF s).1.name.length ≤ s.length ∧ (parseF s).1.value.length ≤ s.length := by
  have h := cutB_len s 58
  have ht := trimS_le (cutB s 58).2.1 [32, 9]
  unfold parseF
  repeat' split
  all_goals simp only [List.length_nil]
  all_goals omega
theorem great1 {f : Fld} : (decide (100 < [f].length) || [f].any fun f => decide (1000 < f.name.length + f.value.length)) = false → f.name.length + f.value.length ≤ 1000 := by
  intro h
  simp at h
  omega
end Go.Proofs.YtjapkdcomcgamaaDoor
