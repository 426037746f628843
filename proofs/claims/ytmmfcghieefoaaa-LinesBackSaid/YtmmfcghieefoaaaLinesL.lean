/- Lines of a stream: the plain law. -/
import Derived.Test.YtmmfcghieefoaaaLinesP
namespace Go.Sep.P
abbrev LineR := List UInt8 × Int × Bool × Int
def lineGo (pre : List UInt8) : List UInt8 → LineR
  | [] => ([], 0, false, 0)
  | c :: r =>
    if c = 13 then
      match r with
      | [] => ([], 0, false, 0)
      | d :: _ => if d = 10 then (pre, (pre.length : Int) + 2, true, 0) else ([], (pre.length : Int) + 2, false, 2)
    else if c = 10 then ([], (pre.length : Int) + 1, false, 2)
    else if !seen c then ([], (pre.length : Int) + 1, false, 3)
    else if pre.length = 200 then ([], (pre.length : Int) + 1, false, 4)
    else lineGo (pre ++ [c]) r
def lineOf (bs : List UInt8) : LineR := lineGo [] bs


def clean (c : UInt8) : Prop := c ≠ 13 ∧ c ≠ 10 ∧ seen c = true
structure Good (s : Lines) (cur : List UInt8) : Prop where
  code : s.code = 0
  clean : ∀ c ∈ s.b, clean c
  len : s.b.length ≤ 200
  cur : cur = s.b ++ (if s.cr then [13] else [])

theorem lineGo_clean (b : List UInt8) : ∀ (pre r : List UInt8), (∀ c ∈ b, clean c) → pre.length + b.length ≤ 200 → lineGo pre (b ++ r) = lineGo (pre ++ b) r := by
  induction b with
  | nil => intro pre r _ _; simp
  | cons c b ih =>
    intro pre r h hl
    obtain ⟨h1, h2, h3⟩ := h c (by simp)
    have h4 : pre.length ≠ 200 := by simp at hl; omega
    rw [List.cons_append, lineGo.eq_def]
    simp only [h1, h2, h3, h4, if_false, Bool.not_true, Bool.false_eq_true]
    rw [ih (pre ++ [c]) r (fun d hd => h d (by simp [hd])) (by simp at hl ⊢; omega)]
    simp

def begun (s : Lines) : Bool := !s.b.isEmpty || s.cr
theorem Good.begun {s : Lines} {cur : List UInt8} (h : Good s cur) : begun s = !cur.isEmpty := by
  rw [h.cur]; unfold P.begun
  cases s.b <;> cases s.cr <;> simp

theorem feed_len {s : Lines} (c : UInt8) (h : s.b.length ≤ 200) : (s.feed c).1.b.length ≤ 200 := by
  unfold Lines.feed
  repeat' split
  all_goals simp
  all_goals omega

theorem Good.step {s : Lines} {cur : List UInt8} (h : Good s cur) (c : UInt8) :
    ∃ n : Int, lineOf (cur ++ [c]) = ((s.feed c).2.1, n, (s.feed c).2.2.1, (s.feed c).2.2.2) ∧ (s.feed c).1.code = (s.feed c).2.2.2 ∧
      ((s.feed c).2.2.1 = true → n = cur.length + 1 ∧ (s.feed c).2.2.2 = 0 ∧ Good (s.feed c).1 []) ∧
      ((s.feed c).2.2.1 = false → (s.feed c).2.2.2 = 0 → Good (s.feed c).1 (cur ++ [c])) := by
  obtain ⟨b, cr, code⟩ := s
  obtain ⟨h0, hcl, hlen, hcur⟩ := h
  simp only at h0 hcl hlen hcur
  subst h0
  unfold lineOf
  cases cr
  · simp only [Bool.false_eq_true, if_false, List.append_nil] at hcur
    subst hcur
    rw [lineGo_clean cur [] [c] hcl (by simpa using hlen), List.nil_append, lineGo.eq_def]
    by_cases h1 : c = 10
    · subst h1; exact ⟨_, rfl, rfl, by simp [Lines.feed], by simp [Lines.feed]⟩
    · by_cases h2 : c = 13
      · subst h2; exact ⟨_, rfl, rfl, by simp [Lines.feed], fun _ _ => ⟨rfl, hcl, hlen, rfl⟩⟩
      · by_cases h3 : seen c = true
        · by_cases h4 : cur.length = 200
          · exact ⟨(cur.length : Int) + 1, by simp [Lines.feed, h1, h2, h3, h4], by simp [Lines.feed, h1, h2, h3, h4], by simp [Lines.feed, h1, h2, h3, h4], by simp [Lines.feed, h1, h2, h3, h4]⟩
          · have e : Lines.feed ⟨cur, false, 0⟩ c = (⟨cur ++ [c], false, 0⟩, [], false, 0) := by simp [Lines.feed, h1, h2, h3, h4]
            rw [e]
            refine ⟨0, by simp [h1, h2, h3, h4, lineGo], rfl, by simp, fun _ _ => ⟨rfl, ?_, ?_, by simp⟩⟩
            · intro d hd
              simp only [List.mem_append, List.mem_singleton] at hd
              rcases hd with hd | rfl
              · exact hcl d hd
              · exact ⟨h2, h1, h3⟩
            · simp; omega
        · exact ⟨(cur.length : Int) + 1, by simp [Lines.feed, h1, h2, h3], by simp [Lines.feed, h1, h2, h3], by simp [Lines.feed, h1, h2, h3], by simp [Lines.feed, h1, h2, h3]⟩
  · simp only [if_true] at hcur
    subst hcur
    rw [List.append_assoc, lineGo_clean b [] ([13] ++ [c]) hcl (by simpa using hlen), List.nil_append, List.singleton_append, lineGo.eq_def]
    by_cases h1 : c = 10
    · subst h1
      refine ⟨(b.length : Int) + 2, rfl, rfl, fun _ => ⟨by simp; omega, rfl, rfl, by simp [Lines.feed], by simp [Lines.feed], by simp [Lines.feed]⟩, by simp [Lines.feed]⟩
    · exact ⟨(b.length : Int) + 2, by simp [Lines.feed, h1], by simp [Lines.feed, h1], by simp [Lines.feed, h1], by simp [Lines.feed, h1]⟩

/-- What the law's loop knows. -/
def Inv (pre : List UInt8) (f : Nat) (s : Lines) : Prop := s.b.length ≤ 200 ∧ f ≤ pre.length ∧ (s.code = 0 → Good s (pre.drop f))
theorem Inv.start : Inv [] 0 ⟨[], false, 0⟩ := ⟨by simp, by simp, fun _ => ⟨rfl, by simp, by simp, rfl⟩⟩
theorem Inv.dead {pre : List UInt8} {f : Nat} {s : Lines} (h : Inv pre f s) (h0 : s.code ≠ 0) (c : UInt8) : Lines.feed s c = (s, [], false, s.code) ∧ Inv (pre ++ [c]) f s :=
  ⟨by simp [Lines.feed, h0], h.1, by simp; have := h.2.1; omega, fun h1 => (h0 h1).elim⟩
/-- A round: what Feed tells is what LineOf tells. -/
theorem Inv.step {pre : List UInt8} {f : Nat} {s : Lines} (h : Inv pre f s) (h0 : s.code = 0) (c : UInt8) :
    ∃ s' t ended e, ∃ (m : Int) (n : Nat), Lines.feed s c = (s', t, ended, e) ∧ s'.code = e ∧ lineOf ((pre ++ [c]).drop f) = (t, m, ended, e) ∧
      (ended = true → m = n ∧ e = 0 ∧ f + n = pre.length + 1 ∧ Inv (pre ++ [c]) (f + n) s' ∧ begun s' = false) ∧ (ended = false → Inv (pre ++ [c]) f s' ∧ (e = 0 → begun s' = true)) := by
  obtain ⟨hl, hf, hg⟩ := h
  have hgood := hg h0
  obtain ⟨n, h1, h2, h3, h4⟩ := hgood.step c
  have hd : (pre ++ [c]).drop f = pre.drop f ++ [c] := by rw [List.drop_append_of_le_length hf]
  have hlen := feed_len c hl
  generalize hr : s.feed c = r at h1 h2 h3 h4 hlen
  obtain ⟨s', t, ended, e⟩ := r
  simp only at h1 h2 h3 h4 hlen
  refine ⟨s', t, ended, e, n, n.toNat, rfl, h2, by rw [hd, h1], ?_, ?_⟩
  · intro he
    obtain ⟨h5, h6, h7⟩ := h3 he
    have hn : f + n.toNat = pre.length + 1 := by simp at h5; omega
    refine ⟨by omega, h6, hn, ⟨hlen, by rw [hn]; simp, fun _ => by rw [hn, List.drop_of_length_le (by simp)]; exact h7⟩, by rw [h7.begun]; rfl⟩
  · intro he
    refine ⟨⟨hlen, by simp; omega, fun h5 => by rw [hd]; exact h4 he (h2 ▸ h5)⟩, fun h5 => by rw [(h4 he h5).begun]; simp⟩
end Go.Sep.P
