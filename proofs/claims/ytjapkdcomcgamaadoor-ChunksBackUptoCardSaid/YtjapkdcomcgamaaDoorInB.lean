/- What came in, and how much it is together. -/
import Derived.Test.YtjapkdcomcgamaaDoorInZ
import Derived.Test.YtjapkdcomcgamaaDoorRows
set_option linter.all false
namespace Go.Ab
open Go Go.Sep
variable [Facts]
section
variable {H : Type} {hsh : TypeId × Value → H} {Pr : Program} {w : World} {hF : Holds w} {base : Nat} {spare : Nat → Bool} {held : Bool}
theorem slice_elems2 {α : Type} {t e : TypeId} {size : Nat} {R : Sep.Rel α} {T : Nat → α → Prop} (ht : Pr.underlying t = some (.slice e)) (hs : Pr.cellsOf e = size) {fuel : Nat} {cs : List Value} {y : DataW H × List MemPlace}
    (h : DataW.trod hsh Pr w base spare held fuel t cs = some y) (he : ∀ n ci z i, (elemsOf y.1)[i]? = some z.1 → DataW.trod hsh Pr w base spare held n e ci = some z → ∃ x, R w ci x ∧ T i x) :
    ∃ xs, RSl size R w cs xs ∧ xs.length = (elemsOf y.1).length ∧ ∀ i x, xs[i]? = some x → T i x := by
  rcases DataW.trod_slice ht h with ⟨rfl, rfl⟩ | ⟨a, len, cap, elems, rest, n, _, rfl, rfl, _, hl, hm, hlen, hel, _, _⟩
  · exact ⟨[], ⟨_, [], rfl, ⟨none, 0, rfl, Nat.le_refl _, Nat.zero_le _, fun _ => rfl, by simp, fun j u h => by simp at h⟩, fun i x h => by simp at h⟩, rfl, fun i x h => by simp at h⟩
  · subst hs
    have each : ∀ i, i < len → ∃ ci : List Value, ci.length = Pr.cellsOf e ∧ (∀ j u, ci[j]? = some u → w.cell? ((a.add (i * Pr.cellsOf e)).add j) = some u) ∧ ∃ x, R w ci x ∧ T i x := by
      intro i hi
      have h1 := hel i hi
      rw [List.getElem?_eq_getElem (by omega), Option.bind_eq_some_iff] at h1
      obtain ⟨ci, hci, hy⟩ := h1
      obtain ⟨h2, h3⟩ := cells?_get hci
      exact ⟨ci, h2, h3, he n ci _ i (by simp [elemsOf, List.getElem?_eq_getElem (show i < elems.length by omega)]) hy⟩
    have all : ∀ m, m ≤ len → ∃ (vs : List Value) (xs : List α), xs.length = m ∧ vs.length = m * Pr.cellsOf e ∧ (∀ j u, vs[j]? = some u → w.cell? (a.add j) = some u) ∧ ∀ i x, xs[i]? = some x → R w ((vs.drop (i * Pr.cellsOf e)).take (Pr.cellsOf e)) x ∧ T i x := by
      intro m
      induction m with
      | zero => intro _; exact ⟨[], [], rfl, by simp, fun j u h => by simp at h, fun i x h => by simp at h⟩
      | succ m ih =>
        intro hm'
        obtain ⟨vs, xs, h1, h2, h3, h4⟩ := ih (by omega)
        obtain ⟨ci, c1, c2, x, c3⟩ := each m (by omega)
        refine ⟨vs ++ ci, xs ++ [x], by simp [h1], by simp [h2, c1, Nat.succ_mul], fun j u hj => ?_, fun i z hi => ?_⟩
        · rcases Nat.lt_or_ge j vs.length with hj1 | hj1
          · rw [List.getElem?_append_left hj1] at hj; exact h3 j u hj
          · rw [List.getElem?_append_right hj1] at hj
            have h5 := c2 _ _ hj
            rw [Addr.add_add, h2, show m * Pr.cellsOf e + (j - m * Pr.cellsOf e) = j by omega] at h5
            exact h5
        · rcases Nat.lt_or_ge i xs.length with hi1 | hi1
          · rw [List.getElem?_append_left hi1] at hi
            have h5 := h4 i z hi
            have h6 : i * Pr.cellsOf e + Pr.cellsOf e ≤ vs.length := by rw [h2, ← Nat.succ_mul]; exact Nat.mul_le_mul_right _ (by omega)
            rw [List.drop_append_of_le_length (by omega), List.take_append_of_le_length (by simp; omega)]
            exact h5
          · rw [List.getElem?_append_right hi1] at hi
            have hi2 : i = m := by
              have := (List.getElem?_eq_some_iff.1 hi).1
              simp at this; omega
            subst hi2
            rw [h1, Nat.sub_self] at hi
            simp at hi
            subst hi
            rw [← h2, List.drop_left, List.take_of_length_le (by omega)]
            exact c3
    obtain ⟨vs, xs, h1, h2, h3, h4⟩ := all len (Nat.le_refl _)
    refine ⟨xs, ⟨_, vs, rfl, ⟨some a, cap, by rw [h1], by omega, hm, (fun h => by cases h), by rw [h1]; exact h2, fun j u hj => ?_⟩, fun i x hi => (h4 i x hi).1⟩, by simp [elemsOf, h1, hlen], fun i x hi => (h4 i x hi).2⟩
    have hsp : a.spot = none := by
      cases hv : vs with
      | nil => rw [hv] at hj; simp at hj
      | cons u0 r =>
        have := h3 0 u0 (by rw [hv]; rfl)
        rw [show a.add 0 = a by simp [Addr.add]] at this
        exact spot_of this
    exact ⟨⟨a, rfl, hsp⟩, by rw [← add_adr hsp]; exact h3 j u hj⟩
/-- A list of rows of bytes, each with its datum. -/
def QLB (d : DataW H) (ps : List P) : Prop := ∃ l : List Str, ps = [.list .bytes l] ∧ wfS l ∧ (∀ x ∈ l, wfS x) ∧ l.length = (elemsOf d).length ∧ ∀ (i : Nat) (x : Str), l[i]? = some x → ∃ z, (elemsOf d)[i]? = some z ∧ x.length = (elemsOf z).length
theorem op_rows {t e b : TypeId} (ht : Pr.underlying t = some (.slice e)) (hc : Pr.cellsOf e = 1) (hb : Nat.blt 0 (Pr.bytesOf e) = true) (he : Pr.underlying e = some (.slice b)) (hcb : Pr.cellsOf b = 1) (hbb : Nat.blt 0 (Pr.bytesOf b) = true) (hub : Pr.underlying b = some (.int .u8))
    {fuel : Nat} {cs : List Value} {y : DataW H × List MemPlace} (h : DataW.trod hsh Pr w base spare held fuel t cs = some y) (hs : Small Pr t y.1) : ∃ ps, MPs (frzW w hF) ps cs ∧ QLB y.1 ps := by
  obtain ⟨l, hl, hlen, hT⟩ := slice_elems2 (R := fun _ cs (x : Str) => MPs (frzW w hF) (enc alg .bytes x) cs ∧ wfS x) (T := fun i (x : Str) => ∃ z, (elemsOf y.1)[i]? = some z ∧ x.length = (elemsOf z).length) (size := 1) ht hc h (fun n ci z i hz ht' => by
    have hz2 := small_elem ht hs (List.mem_of_getElem? hz)
    obtain ⟨x, hx, hxl⟩ := slice_elems (R := fun _ cs (x : U.byte.den) => MPs (frzW w hF) (enc alg .byte x) cs ∧ wfZ .byte x) he hcb ht' (fun n ci z hz ht'' => by
      obtain ⟨ps, h1, x, rfl, hx⟩ := op_byte (hF := hF) hub n ci z ht'' (small_elem he hz2 hz)
      exact ⟨x, h1, hx⟩)
    have hx' := hx
    obtain ⟨v, vs, rfl, _, _⟩ := hx
    exact ⟨x, ⟨⟨in_list (u := .byte) (fun _ _ h => h.1) hx', trivial⟩, by unfold wfS; rw [hxl]; exact small_len he hbb hz2⟩, z.1, hz, hxl⟩)
  have hl' := hl
  obtain ⟨v, vs, rfl, _, hx⟩ := hl
  refine ⟨[.list .bytes l], ⟨in_list (u := .bytes) (fun _ _ h => h.1) hl', trivial⟩, l, rfl, by unfold wfS; rw [hlen]; exact small_len ht hb hs, fun x hm => ?_, hlen, hT⟩
  obtain ⟨i, hi⟩ := List.getElem?_of_mem hm
  exact (hx i x hi).2
end
end Go.Ab
namespace Go.Proofs.YtjapkdcomcgamaaDoor
open Go Go.Ab
theorem bulk_one {H : Type} (d : DataW H) : 1 ≤ Rows.uptoBulk d := by
  cases d with
  | lit l => cases l <;> simp [Rows.uptoBulk]
  | nil => simp [Rows.uptoBulk]
  | ptr d => simp [Rows.uptoBulk]
  | slice elems spare => simp [Rows.uptoBulk]
  | agg parts => simp [Rows.uptoBulk]
  | iface t d => simp [Rows.uptoBulk]
  | map entries => simp [Rows.uptoBulk]
  | held h => simp [Rows.uptoBulk]
theorem bulk_all {H : Type} : ∀ l : List (DataW H), l.length ≤ Rows.uptoBulkAll l
  | [] => by simp [Rows.uptoBulkAll]
  | x :: r => by have := bulk_one x; have := bulk_all r; simp only [Rows.uptoBulkAll, List.length_cons]; omega
theorem bulk_elems {H : Type} (d : DataW H) : Rows.uptoBulkAll (elemsOf d) ≤ Rows.uptoBulk d := by
  cases d <;> simp [elemsOf, Rows.uptoBulk, Rows.uptoBulkAll]
  omega
theorem bulk_len {H : Type} (d : DataW H) : (elemsOf d).length ≤ Rows.uptoBulk d := Nat.le_trans (bulk_all _) (bulk_elems d)
theorem flat_bulk {H : Type} : ∀ (l : List Str) (ds : List (DataW H)), l.length = ds.length → (∀ (i : Nat) (x : Str), l[i]? = some x → ∃ z, ds[i]? = some z ∧ x.length = (elemsOf z).length) → l.flatten.length ≤ Rows.uptoBulkAll ds
  | [], _, _, _ => Nat.zero_le _
  | x :: l, [], h, _ => by cases h
  | x :: l, d :: ds, h, hx => by
    obtain ⟨z, hz, hl⟩ := hx 0 x rfl
    cases hz
    have ih := flat_bulk l ds (by simpa using h) (fun i y hy => hx (i + 1) y hy)
    have := bulk_len d
    simp only [List.flatten_cons, List.length_append, Rows.uptoBulkAll]; omega
end Go.Proofs.YtjapkdcomcgamaaDoor
