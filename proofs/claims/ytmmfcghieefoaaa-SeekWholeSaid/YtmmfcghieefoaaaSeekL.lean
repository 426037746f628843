/- A mark in a stream: the plain law (the failure function of Knuth, Morris and Pratt). -/
import Derived.Test.YtmmfcghieefoaaaOps
set_option linter.all false
namespace Go.Sep.P

theorem suffix_of_suffix {a b s : List UInt8} (ha : a <:+ s) (hb : b <:+ s) (h : a.length ≤ b.length) : a <:+ b := List.suffix_of_suffix_length_le ha hb h

/-- n is the greatest number up to b of which the mark's first bytes end s. -/
structure Top (m s : List UInt8) (b n : Nat) : Prop where
  le : n ≤ b
  suf : m.take n <:+ s
  top : ∀ k, k ≤ b → m.take k <:+ s → k ≤ n

theorem Top.eq {m s : List UInt8} {b n n' : Nat} (h : Top m s b n) (h' : Top m s b n') : n = n' :=
  Nat.le_antisymm (h'.top n h.le h.suf) (h.top n' h'.le h'.suf)

/-- The longest end of s that begins the mark, of at most b bytes. -/
def heldFrom (m s : List UInt8) : Nat → Nat
  | 0 => 0
  | k + 1 => if m.take (k + 1) <:+ s then k + 1 else heldFrom m s k

theorem heldFrom_top (m s : List UInt8) : ∀ b, Top m s b (heldFrom m s b)
  | 0 => ⟨Nat.le_refl _, by simp [heldFrom], fun k hk _ => hk⟩
  | b + 1 => by
    unfold heldFrom
    split
    · rename_i h; exact ⟨Nat.le_refl _, h, fun k hk _ => hk⟩
    · rename_i h
      have ih := heldFrom_top m s b
      refine ⟨Nat.le_succ_of_le ih.le, ih.suf, fun k hk hs => ?_⟩
      rcases Nat.lt_or_ge k (b + 1) with h1 | h1
      · exact ih.top k (by omega) hs
      · have : k = b + 1 := by omega
        subst this; exact (h hs).elim

def held (m s : List UInt8) : Nat := heldFrom m s (m.length - 1)
def border (m : List UInt8) (i : Nat) : Nat := heldFrom m (m.take i) (i - 1)

theorem border_lt {m : List UInt8} {i : Nat} (h : 0 < i) : border m i < i := by
  have := (heldFrom_top m (m.take i) (i - 1)).le
  unfold border; omega

/-- The loop that falls back. -/
def fall (m : List UInt8) (c : UInt8) : Nat → Nat → Nat
  | 0, n => n
  | f + 1, n => if n = 0 then 0 else if m[n]? = some c then n else fall m c f (border m n)

theorem fall_zero (m : List UInt8) (c : UInt8) (f : Nat) : fall m c f 0 = 0 := by cases f <;> simp [fall]

theorem fall_more (m : List UInt8) (c : UInt8) : ∀ (f n : Nat), n ≤ f → ∀ g, n ≤ g → fall m c f n = fall m c g n
  | 0, n, h, g, _ => by
    have : n = 0 := by omega
    subst this; rw [fall_zero, fall_zero]
  | f + 1, n, h, g, hg => by
    cases g with
    | zero =>
      have : n = 0 := by omega
      subst this; rw [fall_zero, fall_zero]
    | succ g =>
      simp only [fall]
      split
      · rfl
      · split
        · rfl
        · rename_i h0 _
          have hb := border_lt (m := m) (i := n) (by omega)
          exact fall_more m c f _ (by omega) g (by omega)

structure FallOk (m : List UInt8) (c : UInt8) (n j : Nat) : Prop where
  le : j ≤ n
  suf : m.take j <:+ m.take n
  top : ∀ k, k ≤ n → m.take k <:+ m.take n → m[k]? = some c → k ≤ j
  fits : j = 0 ∨ m[j]? = some c

theorem fall_ok (m : List UInt8) (c : UInt8) (hm : ∀ k, k ≤ m.length → (m.take k).length = k) : ∀ (f n : Nat), n ≤ f → n ≤ m.length → FallOk m c n (fall m c f n)
  | 0, n, h, hn => by
    have : n = 0 := by omega
    subst this
    exact ⟨Nat.le_refl _, List.suffix_refl _, fun k hk _ _ => hk, .inl rfl⟩
  | f + 1, n, h, hn => by
    simp only [fall]
    split
    · rename_i h0; subst h0; exact ⟨Nat.le_refl _, List.suffix_refl _, fun k hk _ _ => hk, .inl rfl⟩
    · split
      · rename_i h0 h1; exact ⟨Nat.le_refl _, List.suffix_refl _, fun k hk _ _ => hk, .inr h1⟩
      · rename_i h0 h1
        have hb := border_lt (m := m) (i := n) (by omega)
        have ht : Top m (m.take n) (n - 1) (border m n) := heldFrom_top m (m.take n) (n - 1)
        have ih := fall_ok m c hm f (border m n) (by omega) (by omega)
        refine ⟨by have := ih.le; omega, ih.suf.trans ht.suf, fun k hk hs hc => ?_, ih.fits⟩
        have hne : k ≠ n := by rintro rfl; exact h1 hc
        have hkb : k ≤ border m n := ht.top k (by omega) hs
        refine ih.top k hkb (suffix_of_suffix hs ht.suf ?_) hc
        rw [hm k (by omega), hm _ (by omega)]
        exact hkb

theorem take_len {m : List UInt8} : ∀ k, k ≤ m.length → (m.take k).length = k := fun k hk => by simp; omega

theorem take_succ_suffix {m s : List UInt8} {k : Nat} {c : UInt8} (hk : k < m.length) : m.take (k + 1) <:+ s ++ [c] ↔ m.take k <:+ s ∧ m[k]? = some c := by
  rw [List.take_succ_eq_append_getElem hk, List.getElem?_eq_getElem hk]
  constructor
  · rintro ⟨t, ht⟩
    rw [← List.append_assoc] at ht
    have := List.append_inj' ht rfl
    exact ⟨⟨t, this.1⟩, by simpa using this.2⟩
  · rintro ⟨⟨t, ht⟩, hc⟩
    have hc' : m[k] = c := by simpa using hc
    exact ⟨t, by rw [← List.append_assoc, ht, hc']⟩

/-- One byte more. -/
theorem Top.step {m s : List UInt8} {b n : Nat} {c : UInt8} (h : Top m s b n) (hb : b < m.length) :
    (m[fall m c n n]? = some c → Top m (s ++ [c]) (b + 1) (fall m c n n + 1)) ∧ (m[fall m c n n]? ≠ some c → Top m (s ++ [c]) (b + 1) 0 ∧ fall m c n n = 0) := by
  have hn : n ≤ m.length := by have := h.le; omega
  have hf := fall_ok m c take_len n n (Nat.le_refl _) hn
  generalize fall m c n n = j at hf
  have hjl : j < m.length := by have := hf.le; have := h.le; omega
  -- every k+1 that ends s ++ [c]
  have key : ∀ k, k + 1 ≤ b + 1 → m.take (k + 1) <:+ s ++ [c] → k ≤ j ∧ m[k]? = some c := by
    intro k hk hs
    obtain ⟨h1, h2⟩ := (take_succ_suffix (by omega)).1 hs
    have h3 := h.top k (by omega) h1
    have h4 : m.take k <:+ m.take n := suffix_of_suffix h1 h.suf (by rw [take_len k (by omega), take_len n hn]; exact h3)
    exact ⟨hf.top k h3 h4 h2, h2⟩
  constructor
  · intro hc
    refine ⟨by have := hf.le; have := h.le; omega, (take_succ_suffix hjl).2 ⟨hf.suf.trans h.suf, hc⟩, fun k hk hs => ?_⟩
    cases k with
    | zero => omega
    | succ k => have := (key k hk hs).1; omega
  · intro hc
    have hj0 : j = 0 := hf.fits.resolve_right hc
    subst hj0
    refine ⟨⟨Nat.zero_le _, by simp, fun k hk hs => ?_⟩, rfl⟩
    cases k with
    | zero => omega
    | succ k =>
      obtain ⟨h1, h2⟩ := key k hk hs
      have : k = 0 := by omega
      subst this; exact (hc h2).elim

theorem Top.lower {m s : List UInt8} {b b' n : Nat} (h : Top m s b n) (hn : n ≤ b') (hb : b' ≤ b) : Top m s b' n := ⟨hn, h.suf, fun k hk hs => h.top k (by omega) hs⟩

theorem held_top (m s : List UInt8) : Top m s (m.length - 1) (held m s) := heldFrom_top m s _

/-- The new border, out of the old one. -/
theorem border_step {m : List UInt8} {i : Nat} (hi : i < m.length) (h0 : 0 < i) :
    border m (i + 1) = (if m[fall m m[i] (border m i) (border m i)]? = some m[i] then fall m m[i] (border m i) (border m i) + 1 else 0) := by
  have ht := heldFrom_top m (m.take i) (i - 1)
  have hs := ht.step (c := m[i]) (by omega)
  have e : m.take i ++ [m[i]] = m.take (i + 1) := (List.take_succ_eq_append_getElem hi).symm
  rw [e, show i - 1 + 1 = i by omega] at hs
  have hnew := heldFrom_top m (m.take (i + 1)) (i + 1 - 1)
  change Top m (m.take (i + 1)) i (border m (i + 1)) at hnew
  change (m[fall m m[i] (border m i) (border m i)]? = some m[i] → _) ∧ _ at hs
  split
  · rename_i hc; exact hnew.eq (hs.1 hc)
  · rename_i hc; exact hnew.eq (hs.2 hc).1

theorem fall_take {m : List UInt8} {n k j : Nat} (hj : 0 < j) (hk : k + j = n) (hn : n ≤ m.length) (h : m.take k ++ m.take j = m.take n) :
    m.take k ++ m.take (j - border m j) = m.take (k + (j - border m j)) ∧ m.take (k + (j - border m j)) ++ m.take (border m j) = m.take n := by
  have hb := border_lt (m := m) hj
  have ht : Top m (m.take j) (j - 1) (border m j) := heldFrom_top m (m.take j) (j - 1)
  generalize border m j = b at hb ht
  obtain ⟨t, e⟩ := ht.suf
  have hl := congrArg List.length e
  rw [List.length_append, take_len b (by omega), take_len j (by omega)] at hl
  have e2 : t = m.take (j - b) := by
    have h1 : (m.take j).take t.length = t := by rw [← e]; simp
    rw [List.take_take, show min t.length j = j - b by omega] at h1
    exact h1.symm
  subst e2
  have e3 : m.take n = (m.take k ++ m.take (j - b)) ++ m.take b := by rw [List.append_assoc, e, h]
  have e4 : m.take (k + (j - b)) = m.take k ++ m.take (j - b) := by
    have h1 : (m.take n).take (k + (j - b)) = m.take (k + (j - b)) := by rw [List.take_take, show min (k + (j - b)) n = k + (j - b) by omega]
    rw [← h1, e3]
    exact List.take_left' (by rw [List.length_append, take_len k (by omega), take_len _ (by omega)])
  exact ⟨e4.symm, by rw [e4, e3]⟩

theorem fall_next {m : List UInt8} {c : UInt8} {j : Nat} (h0 : 0 < j) (h : m[j]? ≠ some c) : fall m c j j = fall m c (border m j) (border m j) := by
  have hb := border_lt (m := m) h0
  cases j with
  | zero => omega
  | succ i =>
    rw [fall, if_neg (by omega), if_neg h]
    exact fall_more m c _ _ (by omega) _ (Nat.le_refl _)
theorem fall_stop {m : List UInt8} {c : UInt8} {j : Nat} (h : j = 0 ∨ m[j]? = some c) : fall m c j j = j := by
  cases j with
  | zero => rfl
  | succ i => rw [fall, if_neg (by omega), if_pos (h.resolve_left (by omega))]

theorem held_nil (m : List UInt8) : held m [] = 0 := by
  have h : ∀ k, k ≤ m.length → heldFrom m [] k = 0 := by
    intro k
    induction k with
    | zero => intro _; rfl
    | succ k ih =>
      intro hk
      rw [heldFrom, if_neg, ih (by omega)]
      intro hs
      have := hs.length_le
      rw [List.length_take, List.length_nil] at this; omega
  exact h _ (by omega)
/-! ### Feed -/
/-- What is told, what is held then, was it a mark? (m is not empty; n bytes are held) -/
def feed (m : List UInt8) (n : Nat) (c : UInt8) : List UInt8 × Nat × Bool :=
  let j := fall m c n n
  let out := m.take (n - j)
  if m[j]? = some c then (if j + 1 < m.length then (out, j + 1, false) else (out, 0, true)) else (out ++ [c], 0, false)

/-- The object's state: with the bytes since the last mark. -/
theorem feed_spec {m s : List UInt8} (hm : 0 < m.length) (c : UInt8) {n : Nat} (ht : Top m s (m.length - 1) n) :
    ((feed m n c).2.2 = true ↔ m <:+ s ++ [c]) ∧ ((feed m n c).2.2 = false → Top m (s ++ [c]) (m.length - 1) (feed m n c).2.1) ∧ ((feed m n c).2.2 = true → (feed m n c).2.1 = 0 ∧ n + 1 = m.length) ∧
      (feed m n c).1 ++ (if (feed m n c).2.2 then m else m.take (feed m n c).2.1) = m.take n ++ [c] ∧ (feed m n c).1.length ≤ n + 1 := by
  generalize hr : feed m n c = r
  have hn : n ≤ m.length - 1 := ht.le
  have hs := ht.step (c := c) (by omega)
  have hf := fall_ok m c take_len n n (Nat.le_refl _) (by omega)
  rw [show m.length - 1 + 1 = m.length by omega] at hs
  -- the bytes that were held: those that are told, and those that are held on
  have hsplit : m.take (n - fall m c n n) ++ m.take (fall m c n n) = m.take n := by
    obtain ⟨t, ht'⟩ := hf.suf
    have hl := congrArg List.length ht'
    rw [List.length_append, take_len _ (by have := hf.le; omega), take_len n (by omega)] at hl
    have h1 : (m.take n).take t.length = t := by rw [← ht']; simp
    rw [List.take_take, show min t.length n = n - fall m c n n by omega] at h1
    rw [h1]; exact ht'
  by_cases hc : m[fall m c n n]? = some c
  · have hjl : fall m c n n < m.length := by
      have := hf.le; omega
    have htop := hs.1 hc
    have hcc : m.take (fall m c n n) ++ [c] = m.take (fall m c n n + 1) := by
      rw [List.take_succ_eq_append_getElem hjl]
      rw [List.getElem?_eq_getElem hjl] at hc
      simp at hc; rw [hc]
    by_cases hlt : fall m c n n + 1 < m.length
    · have e : r = (m.take (n - fall m c n n), fall m c n n + 1, false) := by simp only [← hr, feed, hc, hlt, if_true]
      rw [e]
      refine ⟨⟨by simp, fun hsuf => ?_⟩, fun _ => ?_, by simp, ?_⟩
      · have := htop.top m.length (Nat.le_refl _) (by rw [List.take_length]; exact hsuf)
        omega
      · exact htop.lower (by omega) (by omega)
      · simp only [Bool.false_eq_true, if_false]
        rw [← hcc, ← List.append_assoc, hsplit]
        exact ⟨rfl, by simp; omega⟩
    · have hj : fall m c n n + 1 = m.length := by omega
      have e : r = (m.take (n - fall m c n n), 0, true) := by simp only [← hr, feed, hc, hlt, if_true, if_false]
      rw [e]
      have hml : m.take (fall m c n n + 1) = m := by rw [hj, List.take_length]
      have hjn : fall m c n n = n := by
        have := hf.le; omega
      refine ⟨⟨fun _ => ?_, by simp⟩, by simp, fun _ => ⟨rfl, by omega⟩, ?_⟩
      · have := htop.suf; rw [hml] at this; exact this
      · simp only [if_true]
        refine ⟨?_, by simp; omega⟩
        rw [← hsplit, List.append_assoc, hcc.trans hml]
  · obtain ⟨htop, hj0⟩ := hs.2 hc
    have e : r = (m.take n ++ [c], 0, false) := by simp only [← hr, feed, hc, if_false]; rw [hj0, Nat.sub_zero]
    rw [e]
    refine ⟨⟨by simp, fun hsuf => ?_⟩, fun _ => ?_, by simp, by simp, by simp; omega⟩
    · have := htop.top m.length (Nat.le_refl _) (by rw [List.take_length]; exact hsuf)
      omega
    · exact htop.lower (Nat.zero_le _) (by omega)
end Go.Sep.P
