/- LinesBack: the plain law. -/
import Derived.Test.YtmmfcghieefoaaaLinesL
namespace Go.Sep.P
/-- Of line s and its end, p has come. -/
def Back (s p : List UInt8) (st : Lines) : Prop :=
  (∀ c ∈ s, seen c = true) ∧ s.length ≤ 200 ∧
  ((∃ q, s = p ++ q ∧ st = ⟨p, false, 0⟩) ∨ (p = s ++ [13] ∧ st = ⟨s, true, 0⟩) ∨ (p = s ++ [13, 10] ∧ st = ⟨[], false, 0⟩))

theorem Back.start {s : List UInt8} (h : s.all seen = true) (hl : s.length ≤ 200) : Back s [] ⟨[], false, 0⟩ :=
  ⟨by simpa using h, hl, .inl ⟨s, rfl, rfl⟩⟩

theorem Back.len {s p : List UInt8} {st : Lines} (h : Back s p st) : st.b.length ≤ 200 := by
  obtain ⟨_, hl, ⟨q, rfl, rfl⟩ | ⟨_, rfl⟩ | ⟨_, rfl⟩⟩ := h
  · simp at hl ⊢; omega
  · exact hl
  · simp

theorem Back.done {s : List UInt8} {st : Lines} (h : Back s (s ++ [13, 10]) st) : st = ⟨[], false, 0⟩ := by
  obtain ⟨_, _, ⟨q, e, _⟩ | ⟨e, _⟩ | ⟨_, rfl⟩⟩ := h
  · have := congrArg List.length e; simp only [List.length_append, List.length_cons, List.length_nil] at this; omega
  · have := congrArg List.length e; simp only [List.length_append, List.length_cons, List.length_nil] at this; omega
  · rfl

theorem not_seen {c : UInt8} (h : seen c = true) : c ≠ 13 ∧ c ≠ 10 := by
  constructor <;> (rintro rfl; exact absurd h (by decide))

theorem Back.step {s p q : List UInt8} {c : UInt8} {st : Lines} (h : Back s p st) (e : s ++ [13, 10] = p ++ c :: q) :
    ∃ st' t is, Lines.feed st c = (st', t, is, 0) ∧ Back s (p ++ [c]) st' ∧ is = q.isEmpty ∧ (q = [] → t = s) ∧ begun st' = !q.isEmpty := by
  obtain ⟨hs, hl, ⟨q', rfl, rfl⟩ | ⟨rfl, rfl⟩ | ⟨rfl, rfl⟩⟩ := h
  · cases q' with
    | nil =>
      simp only [List.append_nil] at *
      have e' : ([13, 10] : List UInt8) = c :: q := by simpa using e
      cases e'
      exact ⟨⟨p, true, 0⟩, [], false, by simp [Lines.feed], ⟨hs, hl, .inr (.inl ⟨rfl, rfl⟩)⟩, rfl, by simp, by simp [begun]⟩
    | cons d q' =>
      have e' : d :: (q' ++ [13, 10]) = c :: q := by simpa [List.append_assoc] using e
      cases e'
      have hd := hs c (by simp)
      obtain ⟨h1, h2⟩ := not_seen hd
      have h3 : p.length ≠ 200 := by simp at hl; omega
      exact ⟨⟨p ++ [c], false, 0⟩, [], false, by simp [Lines.feed, h1, h2, h3, hd], ⟨hs, hl, .inl ⟨q', by simp, rfl⟩⟩, by simp, by simp, by cases p <;> cases q' <;> rfl⟩
  · have e' : ([10] : List UInt8) = c :: q := by simpa [List.append_assoc] using e
    cases e'
    exact ⟨⟨[], false, 0⟩, s, true, by simp [Lines.feed], ⟨hs, hl, .inr (.inr ⟨by simp, rfl⟩)⟩, rfl, by simp, by simp [begun]⟩
  · have := congrArg List.length e; simp only [List.length_append, List.length_cons, List.length_nil] at this; omega
end Go.Sep.P
