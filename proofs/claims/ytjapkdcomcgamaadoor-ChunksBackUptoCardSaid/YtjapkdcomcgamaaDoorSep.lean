/- Separation over blocks: what the state holds is a list of chunks with disjoint footprints. -/
import Derived.WalkKit
import Derived.WalkSpells
set_option linter.all false
namespace Go.Sep
open Go

/-- Outside of F nothing is said; on F the world w' is as w was; streams and tape are as they were. -/
structure Keeps (F : Nat → Prop) (w w' : World) : Prop where
  os : w'.os = w.os
  tape : w'.tape = w.tape
  output : w'.output = w.output
  size : w.heap.size ≤ w'.heap.size
  block : ∀ k, F k → w'.heap[k]? = w.heap[k]?

theorem Keeps.refl (F : Nat → Prop) (w : World) : Keeps F w w := ⟨rfl, rfl, rfl, Nat.le_refl _, fun _ _ => rfl⟩
theorem Keeps.trans {F : Nat → Prop} {a b c : World} (h : Keeps F a b) (k : Keeps F b c) : Keeps F a c :=
  ⟨k.os.trans h.os, k.tape.trans h.tape, k.output.trans h.output, Nat.le_trans h.size k.size, fun i hi => (k.block i hi).trans (h.block i hi)⟩
theorem Keeps.mono {F G : Nat → Prop} {w w' : World} (h : Keeps F w w') (hg : ∀ k, G k → F k) : Keeps G w w' :=
  ⟨h.os, h.tape, h.output, h.size, fun k hk => h.block k (hg k hk)⟩

structure Chunk where
  holds : World → (Nat → Prop) → Prop
  lt : ∀ {w F}, holds w F → ∀ k, F k → k < w.heap.size
  keep : ∀ {w w' F}, holds w F → Keeps F w w' → holds w' F

def sep : List Chunk → World → (Nat → Prop) → Prop
  | [], _, F => ∀ k, ¬ F k
  | c :: l, w, F => ∃ A B, (∀ k, F k ↔ A k ∨ B k) ∧ (∀ k, A k → ¬ B k) ∧ c.holds w A ∧ sep l w B

/-- The state: these chunks, apart from each other. -/
def At (w : World) (l : List Chunk) : Prop := ∃ F, sep l w F

theorem sep_congr {l : List Chunk} {w : World} {F G : Nat → Prop} (h : sep l w F) (e : ∀ k, G k ↔ F k) : sep l w G := by
  have : G = F := funext fun k => propext (e k)
  rw [this]; exact h

theorem sep_lt {l : List Chunk} {w : World} {F : Nat → Prop} (h : sep l w F) : ∀ k, F k → k < w.heap.size := by
  induction l generalizing F with
  | nil => intro k hk; exact (h k hk).elim
  | cons c l ih =>
    obtain ⟨A, B, e, _, hc, hl⟩ := h
    intro k hk
    rcases (e k).1 hk with h1 | h1
    · exact c.lt hc k h1
    · exact ih hl k h1

theorem sep_keep {l : List Chunk} {w w' : World} {F : Nat → Prop} (h : sep l w F) (hk : Keeps F w w') : sep l w' F := by
  induction l generalizing F with
  | nil => exact h
  | cons c l ih =>
    obtain ⟨A, B, e, d, hc, hl⟩ := h
    exact ⟨A, B, e, d, c.keep hc (hk.mono fun k h => (e k).2 (.inl h)), ih hl (hk.mono fun k h => (e k).2 (.inr h))⟩

theorem sep_swap {c d : Chunk} {l : List Chunk} {w : World} {F : Nat → Prop} (h : sep (c :: d :: l) w F) : sep (d :: c :: l) w F := by
  obtain ⟨A, B, e, dj, hc, A', B', e', dj', hd, hl⟩ := h
  refine ⟨A', fun k => A k ∨ B' k, ?_, ?_, hd, A, B', fun k => Iff.rfl, ?_, hc, hl⟩
  · intro k; rw [e k, e' k]; constructor
    · rintro (h | h | h) <;> simp [h]
    · rintro (h | h | h) <;> simp [h]
  · rintro k h (h1 | h1)
    · exact dj k h1 ((e' k).2 (.inl h))
    · exact dj' k h h1
  · intro k h h1; exact dj k h ((e' k).2 (.inr h1))

theorem sep_perm {l m : List Chunk} (p : l.Perm m) : ∀ {w : World} {F : Nat → Prop}, sep l w F → sep m w F := by
  induction p with
  | nil => intro w F h; exact h
  | cons c _ ih => intro w F h; obtain ⟨A, B, e, d, hc, hl⟩ := h; exact ⟨A, B, e, d, hc, ih hl⟩
  | swap c d l => intro w F h; exact sep_swap h
  | trans _ _ ih1 ih2 => intro w F h; exact ih2 (ih1 h)

theorem At.perm {l m : List Chunk} {w : World} (h : At w l) (p : l.Perm m) : At w m := h.imp fun _ hF => sep_perm p hF

theorem pull_perm : ∀ (l : List Chunk) (i : Nat) (c : Chunk), l[i]? = some c → l.Perm (c :: l.eraseIdx i)
  | [], i, c, h => by simp at h
  | d :: l, 0, c, h => by simp at h; subst h; exact .refl _
  | d :: l, i + 1, c, h => by
    have h' : l[i]? = some c := by simpa using h
    have ih := pull_perm l i c h'
    exact (ih.cons d).trans (.swap _ _ _)

/-- The chunk number i to the front. -/
theorem At.pull {l : List Chunk} {w : World} (h : At w l) (i : Nat) (c : Chunk) (hc : l[i]? = some c) : At w (c :: l.eraseIdx i) := h.perm (pull_perm l i c hc)

theorem At.swap {c d : Chunk} {l : List Chunk} {w : World} (h : At w (c :: d :: l)) : At w (d :: c :: l) := h.imp fun _ => sep_swap
/-- The first one behind the second, the third ..: -/
theorem At.rot2 {a b c : Chunk} {l : List Chunk} {w : World} (h : At w (a :: b :: c :: l)) : At w (c :: a :: b :: l) :=
  h.perm ((List.Perm.swap c b l |>.cons a).trans (List.Perm.swap c a (b :: l)))
theorem At.rot3 {a b c d : Chunk} {l : List Chunk} {w : World} (h : At w (a :: b :: c :: d :: l)) : At w (d :: a :: b :: c :: l) :=
  h.perm ((((List.Perm.swap d c l).cons b).trans (List.Perm.swap d b (c :: l))).cons a |>.trans (List.Perm.swap d a (b :: c :: l)))

theorem At.tail {c : Chunk} {l : List Chunk} {w : World} (h : At w (c :: l)) : At w l := by
  obtain ⟨F, A, B, _, _, _, hl⟩ := h; exact ⟨B, hl⟩
theorem At.head {c : Chunk} {l : List Chunk} {w : World} (h : At w (c :: l)) : ∃ A, c.holds w A := by
  obtain ⟨F, A, B, _, _, hc, _⟩ := h; exact ⟨A, hc⟩

/-- What one step does to the first chunk; the others keep. -/
theorem At.step {c c' : Chunk} {l : List Chunk} {w w' : World} (H : At w (c :: l))
    (h : ∀ A, c.holds w A → ∃ A', c'.holds w' A' ∧ (∀ k, A' k → A k ∨ w.heap.size ≤ k) ∧ Keeps (fun k => k < w.heap.size ∧ ¬ A k) w w') : At w' (c' :: l) := by
  obtain ⟨F, A, B, e, d, hc, hl⟩ := H
  obtain ⟨A', hc', hA', hk⟩ := h A hc
  have hlt := sep_lt hl
  refine ⟨fun k => A' k ∨ B k, A', B, fun _ => Iff.rfl, ?_, hc', sep_keep hl (hk.mono fun k hB => ⟨hlt k hB, fun hA => d k hA hB⟩)⟩
  intro k h1 h2
  rcases hA' k h1 with h3 | h3
  · exact d k h3 h2
  · have := hlt k h2; omega

/-- A step that lays a chunk in new blocks alone. -/
theorem At.new {c' : Chunk} {l : List Chunk} {w w' : World} (H : At w l) {A' : Nat → Prop} (hc' : c'.holds w' A') (hA' : ∀ k, A' k → w.heap.size ≤ k)
    (hk : Keeps (fun k => k < w.heap.size) w w') : At w' (c' :: l) := by
  obtain ⟨B, hl⟩ := H
  have hlt := sep_lt hl
  refine ⟨fun k => A' k ∨ B k, A', B, fun _ => Iff.rfl, ?_, hc', sep_keep hl (hk.mono fun k hB => hlt k hB)⟩
  intro k h1 h2
  have := hlt k h2; have := hA' k h1; omega

/-- A step that turns no old block. -/
theorem At.keep {l : List Chunk} {w w' : World} (H : At w l) (hk : Keeps (fun k => k < w.heap.size) w w') : At w' l := by
  obtain ⟨B, hl⟩ := H
  exact ⟨B, sep_keep hl (hk.mono (sep_lt hl))⟩

theorem keeps_drew (w : World) (F : Nat → Prop) : Keeps F w w.drew := ⟨rfl, rfl, rfl, Nat.le_refl _, fun _ _ => rfl⟩
theorem keeps_alloc (w : World) (o : Obj) : Keeps (fun k => k < w.heap.size) w (w.alloc o) :=
  ⟨rfl, rfl, rfl, by simp, fun k hk => by show (w.heap.push o)[k]? = _; rw [Array.getElem?_push, if_neg (by omega)]⟩
theorem At.drew {l : List Chunk} {w : World} (H : At w l) : At w.drew l := H.keep (keeps_drew w _)
theorem At.drewN {l : List Chunk} {w : World} (H : At w l) (n : Nat) : At { w with drawn := n } l := H.keep ⟨rfl, rfl, rfl, Nat.le_refl _, fun _ _ => rfl⟩
/-- A new block that nobody speaks of. -/
theorem At.allocAny {l : List Chunk} {w : World} (H : At w l) (o : Obj) : At (w.alloc o) l := H.keep (keeps_alloc w o)

/-! ### chunks made of chunks -/

def exC {α : Type} (f : α → Chunk) : Chunk where
  holds w F := ∃ x, (f x).holds w F
  lt := fun ⟨x, h⟩ => (f x).lt h
  keep := fun ⟨x, h⟩ k => ⟨x, (f x).keep h k⟩

def sepC (l : List Chunk) : Chunk where
  holds w F := sep l w F
  lt := sep_lt
  keep := sep_keep

def pureC (p : Prop) : Chunk where
  holds _ F := p ∧ ∀ k, ¬ F k
  lt := fun h k hk => (h.2 k hk).elim
  keep := fun h _ => h

theorem At.ex {α : Type} {f : α → Chunk} {l : List Chunk} {w : World} : At w (exC f :: l) ↔ ∃ x, At w (f x :: l) := by
  constructor
  · rintro ⟨F, A, B, e, d, ⟨x, hx⟩, hl⟩; exact ⟨x, F, A, B, e, d, hx, hl⟩
  · rintro ⟨x, F, A, B, e, d, hx, hl⟩; exact ⟨F, A, B, e, d, ⟨x, hx⟩, hl⟩

theorem At.pure {p : Prop} {l : List Chunk} {w : World} : At w (pureC p :: l) ↔ p ∧ At w l := by
  constructor
  · rintro ⟨F, A, B, e, d, ⟨hp, _⟩, hl⟩; exact ⟨hp, B, hl⟩
  · rintro ⟨hp, B, hl⟩; exact ⟨B, fun _ => False, B, fun k => by simp, fun _ h => h.elim, ⟨hp, fun _ h => h⟩, hl⟩

theorem sep_append {l m : List Chunk} {w : World} {F : Nat → Prop} : sep (l ++ m) w F ↔ ∃ A B, (∀ k, F k ↔ A k ∨ B k) ∧ (∀ k, A k → ¬ B k) ∧ sep l w A ∧ sep m w B := by
  induction l generalizing F with
  | nil =>
    constructor
    · intro h; exact ⟨fun _ => False, F, fun k => by simp, fun _ h => h.elim, fun _ h => h, h⟩
    · rintro ⟨A, B, e, _, hA, hB⟩; exact sep_congr hB fun k => by rw [e k]; simp [hA k]
  | cons c l ih =>
    constructor
    · rintro ⟨A, B, e, d, hc, h⟩
      obtain ⟨A', B', e', d', h1, h2⟩ := ih.1 h
      refine ⟨fun k => A k ∨ A' k, B', ?_, ?_, ⟨A, A', fun _ => Iff.rfl, fun k h3 h4 => d k h3 ((e' k).2 (.inl h4)), hc, h1⟩, h2⟩
      · intro k; rw [e k, e' k, or_assoc]
      · rintro k (h3 | h3) h4
        · exact d k h3 ((e' k).2 (.inr h4))
        · exact d' k h3 h4
    · rintro ⟨A, B, e, d, ⟨A', B', e', d', hc, h1⟩, h2⟩
      refine ⟨A', fun k => B' k ∨ B k, ?_, ?_, hc, ih.2 ⟨B', B, fun _ => Iff.rfl, fun k h3 h4 => d k ((e' k).2 (.inr h3)) h4, h1, h2⟩⟩
      · intro k; rw [e k, e' k, or_assoc]
      · rintro k h3 (h4 | h4)
        · exact d' k h3 h4
        · exact d k ((e' k).2 (.inl h3)) h4

theorem At.many {m l : List Chunk} {w : World} : At w (sepC m :: l) ↔ At w (m ++ l) := by
  constructor
  · rintro ⟨F, A, B, e, d, h1, h2⟩; exact ⟨F, sep_append.2 ⟨A, B, e, d, h1, h2⟩⟩
  · rintro ⟨F, h⟩; obtain ⟨A, B, e, d, h1, h2⟩ := sep_append.1 h; exact ⟨F, A, B, e, d, h1, h2⟩

/-! ### a block -/

/-- Block b is these cells of type T; no cell of it is frozen. -/
def objC (b : Nat) (T : TypeId) (cs : List Value) : Chunk where
  holds w F := (∀ k, F k ↔ k = b) ∧ w.heap[b]? = some (.cells cs.toArray T (0, 0))
  lt := fun h k hk => by
    have := (h.1 k).1 hk; subst this
    exact (Array.getElem?_eq_some_iff.1 h.2).1
  keep := fun h hk => ⟨h.1, (hk.block _ ((h.1 _).2 rfl)).trans h.2⟩

theorem At.obj {b : Nat} {T : TypeId} {cs : List Value} {l : List Chunk} {w : World} (H : At w (objC b T cs :: l)) : w.heap[b]? = some (.cells cs.toArray T (0, 0)) := by
  obtain ⟨A, h⟩ := H.head; exact h.2

theorem cell_of_obj {w : World} {b : Nat} {T : TypeId} {cs : List Value} (h : w.heap[b]? = some (.cells cs.toArray T (0, 0))) (i : Nat) : w.cell? ⟨b, i, none⟩ = cs[i]? := by
  simp [World.cell?, h]
theorem free_of_obj {w : World} {b : Nat} {T : TypeId} {cs : List Value} (h : w.heap[b]? = some (.cells cs.toArray T (0, 0))) (i : Nat) : w.frozen? ⟨b, i, none⟩ = false := by
  simp [World.frozen?, h]

theorem At.cell {b : Nat} {T : TypeId} {cs : List Value} {l : List Chunk} {w : World} (H : At w (objC b T cs :: l)) (i : Nat) : w.cell? ⟨b, i, none⟩ = cs[i]? := cell_of_obj H.obj i
theorem At.free {b : Nat} {T : TypeId} {cs : List Value} {l : List Chunk} {w : World} (H : At w (objC b T cs :: l)) (i : Nat) : w.frozen? ⟨b, i, none⟩ = false := free_of_obj H.obj i
theorem At.ltb {b : Nat} {T : TypeId} {cs : List Value} {l : List Chunk} {w : World} (H : At w (objC b T cs :: l)) : b < w.heap.size := (Array.getElem?_eq_some_iff.1 H.obj).1

theorem keeps_setCell (w : World) (a : Addr) (u : Value) : Keeps (fun k => k ≠ a.block) w (w.setCell a u) :=
  ⟨rfl, rfl, rfl, by simp [World.setCell], fun k hk => by simp only [World.setCell, Array.getElem?_modify]; rw [if_neg (by omega)]⟩

theorem heap_setCell_obj {w : World} {b : Nat} {T : TypeId} {cs : List Value} (h : w.heap[b]? = some (.cells cs.toArray T (0, 0))) (i : Nat) (u : Value) :
    (w.setCell ⟨b, i, none⟩ u).heap[b]? = some (.cells (cs.set i u).toArray T (0, 0)) := by
  simp [World.setCell, Array.getElem?_modify, h, List.setIfInBounds_toArray]

theorem At.store {b : Nat} {T : TypeId} {cs : List Value} {l : List Chunk} {w : World} (H : At w (objC b T cs :: l)) (i : Nat) (u : Value) :
    At (w.setCell ⟨b, i, none⟩ u) (objC b T (cs.set i u) :: l) :=
  H.step fun A hA => ⟨A, ⟨hA.1, heap_setCell_obj hA.2 i u⟩, fun _ h => .inl h, (keeps_setCell w ⟨b, i, none⟩ u).mono fun k hk e => hk.2 ((hA.1 k).2 e)⟩

theorem At.allocObj {l : List Chunk} {w : World} (H : At w l) (cs : List Value) (T : TypeId) : At (w.alloc (.cells cs.toArray T)) (objC w.heap.size T cs :: l) :=
  H.new (A' := fun k => k = w.heap.size) ⟨fun _ => Iff.rfl, by show (w.heap.push _)[_]? = _; simp⟩ (fun k h => by omega) (keeps_alloc w _)

/-! ### the world as it was when all began -/

def initC (W : World) : Chunk where
  holds w F := (∀ k, F k ↔ k < W.heap.size) ∧ Keeps (fun k => k < W.heap.size) W w
  lt := fun h k hk => Nat.lt_of_lt_of_le ((h.1 k).1 hk) h.2.size
  keep := fun h hk => ⟨h.1, h.2.trans (hk.mono fun k h1 => (h.1 k).2 h1)⟩

theorem At.begin (W : World) : At W [initC W] :=
  ⟨fun k => k < W.heap.size, fun k => k < W.heap.size, fun _ => False, fun k => by simp, fun _ _ h => h, ⟨fun _ => Iff.rfl, Keeps.refl _ _⟩, fun _ h => h⟩

open Go.RowKit in
theorem At.below {W w : World} {l : List Chunk} (H : At w (initC W :: l)) : Below W.heap.size W w := by
  obtain ⟨A, _, h⟩ := H.head; exact ⟨h.os, h.tape, h.output, h.size, h.block⟩

end Go.Sep
