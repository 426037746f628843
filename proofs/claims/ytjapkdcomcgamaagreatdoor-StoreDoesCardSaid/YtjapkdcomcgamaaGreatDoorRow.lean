/- Slices: what is read of one, what is owned of one; append, at whatever source. -/
import Derived.WalkKit
import Derived.WalkSpells
set_option linter.all false
namespace Go.Sep
open Go

/-- Outside of F nothing is said; on F the world w' is as w was; streams and tape are as they were. -/
structure Keeps (F : Nat → Prop) (w w' : World) : Prop where
  os : w'.os = w.os
  tape : w'.tape = w.tape
  output : w'.output = w.output
  size : w.heap.size ≤ w'.heap.size
  block : ∀ k, F k → w'.heap[k]? = w.heap[k]?

theorem Keeps.refl (F : Nat → Prop) (w : World) : Keeps F w w := ⟨rfl, rfl, rfl, Nat.le_refl _, fun _ _ => rfl⟩
theorem Keeps.trans {F : Nat → Prop} {a b c : World} (h : Keeps F a b) (k : Keeps F b c) : Keeps F a c :=
  ⟨k.os.trans h.os, k.tape.trans h.tape, k.output.trans h.output, Nat.le_trans h.size k.size, fun i hi => (k.block i hi).trans (h.block i hi)⟩
theorem Keeps.mono {F G : Nat → Prop} {w w' : World} (h : Keeps F w w') (hg : ∀ k, G k → F k) : Keeps G w w' :=
  ⟨h.os, h.tape, h.output, h.size, fun k hk => h.block k (hg k hk)⟩

structure Chunk where
  holds : World → (Nat → Prop) → Prop
  lt : ∀ {w F}, holds w F → ∀ k, F k → k < w.heap.size
  keep : ∀ {w w' F}, holds w F → Keeps F w w' → holds w' F

def sep : List Chunk → World → (Nat → Prop) → Prop
  | [], _, F => ∀ k, ¬ F k
  | c :: l, w, F => ∃ A B, (∀ k, F k ↔ A k ∨ B k) ∧ (∀ k, A k → ¬ B k) ∧ c.holds w A ∧ sep l w B

/-- The state: these chunks, apart from each other. -/
def At (w : World) (l : List Chunk) : Prop := ∃ F, sep l w F

theorem sep_congr {l : List Chunk} {w : World} {F G : Nat → Prop} (h : sep l w F) (e : ∀ k, G k ↔ F k) : sep l w G := by
  have : G = F := funext fun k => propext (e k)
  rw [this]; exact h

theorem sep_lt {l : List Chunk} {w : World} {F : Nat → Prop} (h : sep l w F) : ∀ k, F k → k < w.heap.size := by
  induction l generalizing F with
  | nil => intro k hk; exact (h k hk).elim
  | cons c l ih =>
    obtain ⟨A, B, e, _, hc, hl⟩ := h
    intro k hk
    rcases (e k).1 hk with h1 | h1
    · exact c.lt hc k h1
    · exact ih hl k h1

theorem sep_keep {l : List Chunk} {w w' : World} {F : Nat → Prop} (h : sep l w F) (hk : Keeps F w w') : sep l w' F := by
  induction l generalizing F with
  | nil => exact h
  | cons c l ih =>
    obtain ⟨A, B, e, d, hc, hl⟩ := h
    exact ⟨A, B, e, d, c.keep hc (hk.mono fun k h => (e k).2 (.inl h)), ih hl (hk.mono fun k h => (e k).2 (.inr h))⟩

theorem sep_swap {c d : Chunk} {l : List Chunk} {w : World} {F : Nat → Prop} (h : sep (c :: d :: l) w F) : sep (d :: c :: l) w F := by
  obtain ⟨A, B, e, dj, hc, A', B', e', dj', hd, hl⟩ := h
  refine ⟨A', fun k => A k ∨ B' k, ?_, ?_, hd, A, B', fun k => Iff.rfl, ?_, hc, hl⟩
  · intro k; rw [e k, e' k]; constructor
    · rintro (h | h | h) <;> simp [h]
    · rintro (h | h | h) <;> simp [h]
  · rintro k h (h1 | h1)
    · exact dj k h1 ((e' k).2 (.inl h))
    · exact dj' k h h1
  · intro k h h1; exact dj k h ((e' k).2 (.inr h1))

theorem sep_perm {l m : List Chunk} (p : l.Perm m) : ∀ {w : World} {F : Nat → Prop}, sep l w F → sep m w F := by
  induction p with
  | nil => intro w F h; exact h
  | cons c _ ih => intro w F h; obtain ⟨A, B, e, d, hc, hl⟩ := h; exact ⟨A, B, e, d, hc, ih hl⟩
  | swap c d l => intro w F h; exact sep_swap h
  | trans _ _ ih1 ih2 => intro w F h; exact ih2 (ih1 h)

theorem At.perm {l m : List Chunk} {w : World} (h : At w l) (p : l.Perm m) : At w m := h.imp fun _ hF => sep_perm p hF

theorem pull_perm : ∀ (l : List Chunk) (i : Nat) (c : Chunk), l[i]? = some c → l.Perm (c :: l.eraseIdx i)
  | [], i, c, h => by simp at h
  | d :: l, 0, c, h => by simp at h; subst h; exact .refl _
  | d :: l, i + 1, c, h => by
    have h' : l[i]? = some c := by simpa using h
    have ih := pull_perm l i c h'
    exact (ih.cons d).trans (.swap _ _ _)

/-- The chunk number i to the front. -/
theorem At.pull {l : List Chunk} {w : World} (h : At w l) (i : Nat) (c : Chunk) (hc : l[i]? = some c) : At w (c :: l.eraseIdx i) := h.perm (pull_perm l i c hc)

theorem At.swap {c d : Chunk} {l : List Chunk} {w : World} (h : At w (c :: d :: l)) : At w (d :: c :: l) := h.imp fun _ => sep_swap
/-- The first one behind the second, the third ..: -/
theorem At.rot2 {a b c : Chunk} {l : List Chunk} {w : World} (h : At w (a :: b :: c :: l)) : At w (c :: a :: b :: l) :=
  h.perm ((List.Perm.swap c b l |>.cons a).trans (List.Perm.swap c a (b :: l)))
theorem At.rot3 {a b c d : Chunk} {l : List Chunk} {w : World} (h : At w (a :: b :: c :: d :: l)) : At w (d :: a :: b :: c :: l) :=
  h.perm ((((List.Perm.swap d c l).cons b).trans (List.Perm.swap d b (c :: l))).cons a |>.trans (List.Perm.swap d a (b :: c :: l)))

theorem At.tail {c : Chunk} {l : List Chunk} {w : World} (h : At w (c :: l)) : At w l := by
  obtain ⟨F, A, B, _, _, _, hl⟩ := h; exact ⟨B, hl⟩
theorem At.head {c : Chunk} {l : List Chunk} {w : World} (h : At w (c :: l)) : ∃ A, c.holds w A := by
  obtain ⟨F, A, B, _, _, hc, _⟩ := h; exact ⟨A, hc⟩

/-- What one step does to the first chunk; the others keep. -/
theorem At.step {c c' : Chunk} {l : List Chunk} {w w' : World} (H : At w (c :: l))
    (h : ∀ A, c.holds w A → ∃ A', c'.holds w' A' ∧ (∀ k, A' k → A k ∨ w.heap.size ≤ k) ∧ Keeps (fun k => k < w.heap.size ∧ ¬ A k) w w') : At w' (c' :: l) := by
  obtain ⟨F, A, B, e, d, hc, hl⟩ := H
  obtain ⟨A', hc', hA', hk⟩ := h A hc
  have hlt := sep_lt hl
  refine ⟨fun k => A' k ∨ B k, A', B, fun _ => Iff.rfl, ?_, hc', sep_keep hl (hk.mono fun k hB => ⟨hlt k hB, fun hA => d k hA hB⟩)⟩
  intro k h1 h2
  rcases hA' k h1 with h3 | h3
  · exact d k h3 h2
  · have := hlt k h2; omega

/-- A step that lays a chunk in new blocks alone. -/
theorem At.new {c' : Chunk} {l : List Chunk} {w w' : World} (H : At w l) {A' : Nat → Prop} (hc' : c'.holds w' A') (hA' : ∀ k, A' k → w.heap.size ≤ k)
    (hk : Keeps (fun k => k < w.heap.size) w w') : At w' (c' :: l) := by
  obtain ⟨B, hl⟩ := H
  have hlt := sep_lt hl
  refine ⟨fun k => A' k ∨ B k, A', B, fun _ => Iff.rfl, ?_, hc', sep_keep hl (hk.mono fun k hB => hlt k hB)⟩
  intro k h1 h2
  have := hlt k h2; have := hA' k h1; omega

/-- A step that turns no old block. -/
theorem At.keep {l : List Chunk} {w w' : World} (H : At w l) (hk : Keeps (fun k => k < w.heap.size) w w') : At w' l := by
  obtain ⟨B, hl⟩ := H
  exact ⟨B, sep_keep hl (hk.mono (sep_lt hl))⟩

theorem keeps_drew (w : World) (F : Nat → Prop) : Keeps F w w.drew := ⟨rfl, rfl, rfl, Nat.le_refl _, fun _ _ => rfl⟩
theorem keeps_alloc (w : World) (o : Obj) : Keeps (fun k => k < w.heap.size) w (w.alloc o) :=
  ⟨rfl, rfl, rfl, by simp, fun k hk => by show (w.heap.push o)[k]? = _; rw [Array.getElem?_push, if_neg (by omega)]⟩
theorem At.drew {l : List Chunk} {w : World} (H : At w l) : At w.drew l := H.keep (keeps_drew w _)
theorem At.drewN {l : List Chunk} {w : World} (H : At w l) (n : Nat) : At { w with drawn := n } l := H.keep ⟨rfl, rfl, rfl, Nat.le_refl _, fun _ _ => rfl⟩
/-- A new block that nobody speaks of. -/
theorem At.allocAny {l : List Chunk} {w : World} (H : At w l) (o : Obj) : At (w.alloc o) l := H.keep (keeps_alloc w o)

/-! ### chunks made of chunks -/

def exC {α : Type} (f : α → Chunk) : Chunk where
  holds w F := ∃ x, (f x).holds w F
  lt := fun ⟨x, h⟩ => (f x).lt h
  keep := fun ⟨x, h⟩ k => ⟨x, (f x).keep h k⟩

def sepC (l : List Chunk) : Chunk where
  holds w F := sep l w F
  lt := sep_lt
  keep := sep_keep

def pureC (p : Prop) : Chunk where
  holds _ F := p ∧ ∀ k, ¬ F k
  lt := fun h k hk => (h.2 k hk).elim
  keep := fun h _ => h

theorem At.ex {α : Type} {f : α → Chunk} {l : List Chunk} {w : World} : At w (exC f :: l) ↔ ∃ x, At w (f x :: l) := by
  constructor
  · rintro ⟨F, A, B, e, d, ⟨x, hx⟩, hl⟩; exact ⟨x, F, A, B, e, d, hx, hl⟩
  · rintro ⟨x, F, A, B, e, d, hx, hl⟩; exact ⟨F, A, B, e, d, ⟨x, hx⟩, hl⟩

theorem At.pure {p : Prop} {l : List Chunk} {w : World} : At w (pureC p :: l) ↔ p ∧ At w l := by
  constructor
  · rintro ⟨F, A, B, e, d, ⟨hp, _⟩, hl⟩; exact ⟨hp, B, hl⟩
  · rintro ⟨hp, B, hl⟩; exact ⟨B, fun _ => False, B, fun k => by simp, fun _ h => h.elim, ⟨hp, fun _ h => h⟩, hl⟩

theorem sep_append {l m : List Chunk} {w : World} {F : Nat → Prop} : sep (l ++ m) w F ↔ ∃ A B, (∀ k, F k ↔ A k ∨ B k) ∧ (∀ k, A k → ¬ B k) ∧ sep l w A ∧ sep m w B := by
  induction l generalizing F with
  | nil =>
    constructor
    · intro h; exact ⟨fun _ => False, F, fun k => by simp, fun _ h => h.elim, fun _ h => h, h⟩
    · rintro ⟨A, B, e, _, hA, hB⟩; exact sep_congr hB fun k => by rw [e k]; simp [hA k]
  | cons c l ih =>
    constructor
    · rintro ⟨A, B, e, d, hc, h⟩
      obtain ⟨A', B', e', d', h1, h2⟩ := ih.1 h
      refine ⟨fun k => A k ∨ A' k, B', ?_, ?_, ⟨A, A', fun _ => Iff.rfl, fun k h3 h4 => d k h3 ((e' k).2 (.inl h4)), hc, h1⟩, h2⟩
      · intro k; rw [e k, e' k, or_assoc]
      · rintro k (h3 | h3) h4
        · exact d k h3 ((e' k).2 (.inr h4))
        · exact d' k h3 h4
    · rintro ⟨A, B, e, d, ⟨A', B', e', d', hc, h1⟩, h2⟩
      refine ⟨A', fun k => B' k ∨ B k, ?_, ?_, hc, ih.2 ⟨B', B, fun _ => Iff.rfl, fun k h3 h4 => d k ((e' k).2 (.inr h3)) h4, h1, h2⟩⟩
      · intro k; rw [e k, e' k, or_assoc]
      · rintro k h3 (h4 | h4)
        · exact d' k h3 h4
        · exact d k ((e' k).2 (.inl h3)) h4

theorem At.many {m l : List Chunk} {w : World} : At w (sepC m :: l) ↔ At w (m ++ l) := by
  constructor
  · rintro ⟨F, A, B, e, d, h1, h2⟩; exact ⟨F, sep_append.2 ⟨A, B, e, d, h1, h2⟩⟩
  · rintro ⟨F, h⟩; obtain ⟨A, B, e, d, h1, h2⟩ := sep_append.1 h; exact ⟨F, A, B, e, d, h1, h2⟩

/-! ### a block -/

/-- Block b is these cells of type T; no cell of it is frozen. -/
def objC (b : Nat) (T : TypeId) (cs : List Value) : Chunk where
  holds w F := (∀ k, F k ↔ k = b) ∧ w.heap[b]? = some (.cells cs.toArray T (0, 0))
  lt := fun h k hk => by
    have := (h.1 k).1 hk; subst this
    exact (Array.getElem?_eq_some_iff.1 h.2).1
  keep := fun h hk => ⟨h.1, (hk.block _ ((h.1 _).2 rfl)).trans h.2⟩

theorem At.obj {b : Nat} {T : TypeId} {cs : List Value} {l : List Chunk} {w : World} (H : At w (objC b T cs :: l)) : w.heap[b]? = some (.cells cs.toArray T (0, 0)) := by
  obtain ⟨A, h⟩ := H.head; exact h.2

theorem cell_of_obj {w : World} {b : Nat} {T : TypeId} {cs : List Value} (h : w.heap[b]? = some (.cells cs.toArray T (0, 0))) (i : Nat) : w.cell? ⟨b, i, none⟩ = cs[i]? := by
  simp [World.cell?, h]
theorem free_of_obj {w : World} {b : Nat} {T : TypeId} {cs : List Value} (h : w.heap[b]? = some (.cells cs.toArray T (0, 0))) (i : Nat) : w.frozen? ⟨b, i, none⟩ = false := by
  simp [World.frozen?, h]

theorem At.cell {b : Nat} {T : TypeId} {cs : List Value} {l : List Chunk} {w : World} (H : At w (objC b T cs :: l)) (i : Nat) : w.cell? ⟨b, i, none⟩ = cs[i]? := cell_of_obj H.obj i
theorem At.free {b : Nat} {T : TypeId} {cs : List Value} {l : List Chunk} {w : World} (H : At w (objC b T cs :: l)) (i : Nat) : w.frozen? ⟨b, i, none⟩ = false := free_of_obj H.obj i
theorem At.ltb {b : Nat} {T : TypeId} {cs : List Value} {l : List Chunk} {w : World} (H : At w (objC b T cs :: l)) : b < w.heap.size := (Array.getElem?_eq_some_iff.1 H.obj).1

theorem keeps_setCell (w : World) (a : Addr) (u : Value) : Keeps (fun k => k ≠ a.block) w (w.setCell a u) :=
  ⟨rfl, rfl, rfl, by simp [World.setCell], fun k hk => by simp only [World.setCell, Array.getElem?_modify]; rw [if_neg (by omega)]⟩

theorem heap_setCell_obj {w : World} {b : Nat} {T : TypeId} {cs : List Value} (h : w.heap[b]? = some (.cells cs.toArray T (0, 0))) (i : Nat) (u : Value) :
    (w.setCell ⟨b, i, none⟩ u).heap[b]? = some (.cells (cs.set i u).toArray T (0, 0)) := by
  simp [World.setCell, Array.getElem?_modify, h, List.setIfInBounds_toArray]

theorem At.store {b : Nat} {T : TypeId} {cs : List Value} {l : List Chunk} {w : World} (H : At w (objC b T cs :: l)) (i : Nat) (u : Value) :
    At (w.setCell ⟨b, i, none⟩ u) (objC b T (cs.set i u) :: l) :=
  H.step fun A hA => ⟨A, ⟨hA.1, heap_setCell_obj hA.2 i u⟩, fun _ h => .inl h, (keeps_setCell w ⟨b, i, none⟩ u).mono fun k hk e => hk.2 ((hA.1 k).2 e)⟩

theorem At.allocObj {l : List Chunk} {w : World} (H : At w l) (cs : List Value) (T : TypeId) : At (w.alloc (.cells cs.toArray T)) (objC w.heap.size T cs :: l) :=
  H.new (A' := fun k => k = w.heap.size) ⟨fun _ => Iff.rfl, by show (w.heap.push _)[_]? = _; simp⟩ (fun k h => by omega) (keeps_alloc w _)

/-! ### the world as it was when all began -/

def initC (W : World) : Chunk where
  holds w F := (∀ k, F k ↔ k < W.heap.size) ∧ Keeps (fun k => k < W.heap.size) W w
  lt := fun h k hk => Nat.lt_of_lt_of_le ((h.1 k).1 hk) h.2.size
  keep := fun h hk => ⟨h.1, h.2.trans (hk.mono fun k h1 => (h.1 k).2 h1)⟩

theorem At.begin (W : World) : At W [initC W] :=
  ⟨fun k => k < W.heap.size, fun k => k < W.heap.size, fun _ => False, fun k => by simp, fun _ _ h => h, ⟨fun _ => Iff.rfl, Keeps.refl _ _⟩, fun _ h => h⟩

open Go.RowKit in
theorem At.below {W w : World} {l : List Chunk} (H : At w (initC W :: l)) : Below W.heap.size W w := by
  obtain ⟨A, _, h⟩ := H.head; exact ⟨h.os, h.tape, h.output, h.size, h.block⟩

end Go.Sep
namespace Go.Sep
open Go

def blk (ao : Option Addr) : Nat := match ao with | some a => a.block | none => 0
def ofs (ao : Option Addr) : Nat := match ao with | some a => a.off | none => 0
/-- Where cell j of a slice stands. -/
def adr (ao : Option Addr) (j : Nat) : Addr := ⟨blk ao, ofs ao + j, none⟩

/-- The slice v of n elements, size cells each, reads as cells cs. -/
def Rd (w : World) (size : Nat) (v : Value) (n : Nat) (cs : List Value) : Prop :=
  ∃ ao cap, v = .slice ao n cap ∧ n ≤ cap ∧ cap ≤ maxLen ∧ (ao = none → cap = 0) ∧ cs.length = n * size ∧
    ∀ j u, cs[j]? = some u → (∃ a, ao = some a ∧ a.spot = none) ∧ w.cell? (adr ao j) = some u

theorem add_adr {a : Addr} (h : a.spot = none) (j : Nat) : a.add j = adr (some a) j := by
  cases a with | mk b o s => cases h; unfold Addr.add adr blk ofs; split <;> simp_all

/-- What append, copy and the rest read of a source: m elements, the cells news. -/
def Src (P : Program) (w : World) (size : Nat) (x : Value) (m : Nat) (news : List Value) : Prop :=
  news.length = m * size ∧ (∀ w', (Builtin.lenOf x).run P w' = .ok m w') ∧ ∀ w', w'.heap = w.heap → (Builtin.firstCells size m x).run P w' = .ok news.toArray w'

theorem cell_heap {w w' : World} (h : w'.heap = w.heap) (a : Addr) : w'.cell? a = w.cell? a := by simp [World.cell?, h]

theorem Rd.src {P : Program} {w : World} {size : Nat} {v : Value} {n : Nat} {cs : List Value} (h : Rd w size v n cs) : Src P w size v n cs := by
  obtain ⟨ao, cap, rfl, _, _, _, hl, hc⟩ := h
  refine ⟨hl, fun w' => rfl, fun w' hw => ?_⟩
  cases ao with
  | none =>
    have : cs = [] := by
      cases cs with
      | nil => rfl
      | cons u r => obtain ⟨⟨a, h, _⟩, _⟩ := hc 0 u rfl; cases h
    subst this
    simp [Builtin.firstCells]
  | some a =>
    refine run_firstCells_some w' size n a n cap cs hl fun j u hu => ?_
    obtain ⟨⟨a', h1, h2⟩, h3⟩ := hc j u hu
    cases h1
    rw [add_adr h2, cell_heap hw]; exact h3

theorem src_new {P : Program} {w : World} {g T : Nat} {cs : Array Value} {fz : Nat × Nat} {size n cap : Nat} (h : w.heap[g]? = some (.cells cs T fz)) (hl : cs.size = n * size) :
    Src P w size (.slice (some ⟨g, 0, none⟩) n cap) n cs.toList := by
  refine ⟨by simpa using hl, fun w' => rfl, fun w' hw => ?_⟩
  refine run_firstCells_some w' size n _ n cap cs.toList (by simpa using hl) fun j u hu => ?_
  rw [add_adr rfl, cell_heap hw]
  simp only [adr, blk, ofs, World.cell?, h, Nat.zero_add]
  simpa using hu

def bv (c : UInt8) : Value := .int .u8 (c.toNat : Int)
def bvs (l : List UInt8) : List Value := l.map bv
@[simp] theorem bvs_length (l : List UInt8) : (bvs l).length = l.length := by simp [bvs]
theorem bvs_append (l m : List UInt8) : bvs (l ++ m) = bvs l ++ bvs m := by simp [bvs]
theorem bvs_getElem? (l : List UInt8) (j : Nat) : (bvs l)[j]? = (l[j]?).map bv := by simp [bvs]

theorem src_string {P : Program} {w : World} (s : ByteArray) : Src P w 1 (.string s) s.size (bvs s.data.toList) := by
  refine ⟨by simp [bvs], fun w' => rfl, fun w' _ => ?_⟩
  have hx : (Array.map (fun b : UInt8 => Value.int IntKind.u8 (b.toNat : Int)) s.data).extract 0 s.size = Array.map (fun b : UInt8 => Value.int IntKind.u8 (b.toNat : Int)) s.data := by
    have hs : s.size = (Array.map (fun b : UInt8 => Value.int IntKind.u8 (b.toNat : Int)) s.data).size := by rw [Array.size_map]; rfl
    rw [hs, Array.extract_size]
  have e : (s.extract 0 s.size) = s := by simp
  simp only [Builtin.firstCells, e, Sem.run_pure]
  congr 1
  apply Array.ext'
  simp [bvs, bv]

/-- No cell of the first n is frozen. -/
def Free (fz : Nat × Nat) (n : Nat) : Prop := fz.1 = fz.2 ∨ n ≤ fz.1
theorem Free.cell {fz : Nat × Nat} {n : Nat} (h : Free fz n) : ∀ j, j < n → ¬ (fz.1 ≤ j ∧ j < fz.2) := fun j hj hc => by unfold Free at h; omega

/-- v owns the cells xs. -/
def Owns (w : World) (E size : Nat) (v : Value) (n : Nat) (xs : List Value) : Prop :=
  xs.length = n * size ∧
  ((v = .slice none 0 0 ∧ n = 0) ∨
   ∃ g cap cur fz, v = .slice (some ⟨g, 0, none⟩) n cap ∧ w.heap[g]? = some (.cells cur E fz) ∧ Free fz cur.size ∧ n ≤ cap ∧ cap ≤ maxLen ∧ cap * size ≤ cur.size ∧ cur.toList.take (n * size) = xs)

def rowC (E size : Nat) (v : Value) (n : Nat) (xs : List Value) : Chunk where
  holds w F := (∀ k, F k ↔ v.ownBlock = some k) ∧ Owns w E size v n xs
  lt := by
    rintro w F ⟨hF, hl, hv⟩ k hk
    have hk := (hF k).1 hk
    rcases hv with ⟨rfl, _⟩ | ⟨g, cap, cur, fz, rfl, hg, _⟩
    · simp [Value.ownBlock] at hk
    · simp [Value.ownBlock] at hk; subst hk; exact (Array.getElem?_eq_some_iff.1 hg).1
  keep := by
    rintro w w' F ⟨hF, hl, hv⟩ hk
    refine ⟨hF, hl, ?_⟩
    rcases hv with h | ⟨g, cap, cur, fz, rfl, hg, r⟩
    · exact .inl h
    · exact .inr ⟨g, cap, cur, fz, rfl, (hk.block g ((hF g).2 rfl)).trans hg, r⟩

theorem Owns.rd {w : World} {E size : Nat} {v : Value} {n : Nat} {xs : List Value} (h : Owns w E size v n xs) : Rd w size v n xs := by
  obtain ⟨hl, ⟨rfl, rfl⟩ | ⟨g, cap, cur, fz, rfl, hg, _, hnc, hcm, hcs, ht⟩⟩ := h
  · have : xs = [] := List.eq_nil_of_length_eq_zero (by simpa using hl)
    subst this
    exact ⟨none, 0, rfl, Nat.le_refl _, Nat.zero_le _, fun _ => rfl, by simp, fun j u h => by simp at h⟩
  · refine ⟨_, cap, rfl, hnc, hcm, (fun h => by cases h), hl, fun j u hu => ⟨⟨_, rfl, rfl⟩, ?_⟩⟩
    rw [← ht, List.getElem?_take] at hu
    split at hu
    · simp only [adr, blk, ofs, World.cell?, hg, Nat.zero_add]; simpa using hu
    · cases hu

theorem At.rd {w : World} {E size : Nat} {v : Value} {n : Nat} {xs : List Value} {l : List Chunk} (H : At w (rowC E size v n xs :: l)) : Rd w size v n xs := by
  obtain ⟨A, h⟩ := H.head; exact h.2.rd
theorem At.rowLen {w : World} {E size : Nat} {v : Value} {n : Nat} {xs : List Value} {l : List Chunk} (H : At w (rowC E size v n xs :: l)) : xs.length = n * size := by
  obtain ⟨A, h⟩ := H.head; exact h.2.1
theorem At.rowShape {w : World} {E size : Nat} {v : Value} {n : Nat} {xs : List Value} {l : List Chunk} (H : At w (rowC E size v n xs :: l)) : ∃ ao cap, v = .slice ao n cap := by
  obtain ⟨ao, cap, h, _⟩ := H.rd; exact ⟨ao, cap, h⟩

theorem At.nilRow {w : World} {l : List Chunk} (H : At w l) (E size : Nat) : At w (rowC E size (.slice none 0 0) 0 [] :: l) :=
  H.new (A' := fun _ => False) ⟨fun k => by simp [Value.ownBlock], by simp, .inl ⟨rfl, rfl⟩⟩ (fun _ h => h.elim) (Keeps.refl _ _)

/-- A new row, owned. -/
theorem At.allocRow {w : World} {l : List Chunk} (H : At w l) (E size n : Nat) (cs : Array Value) (fz : Nat × Nat) (hcs : cs.size = n * size) (hn : n ≤ maxLen) (hf : Free fz cs.size) :
    At (w.alloc (.cells cs E fz)) (rowC E size (.slice (some ⟨w.heap.size, 0, none⟩) n n) n cs.toList :: l) :=
  H.new (A' := fun k => k = w.heap.size) ⟨fun k => ⟨fun h => by rw [h]; rfl, fun h => by cases h; rfl⟩, by simpa using hcs, .inr ⟨w.heap.size, n, cs, fz, rfl, heap_alloc_new w _, hf, Nat.le_refl _, hn, Nat.le_of_eq hcs.symm, List.take_of_length_le (by simp [hcs])⟩⟩
    (fun k h => by omega) (keeps_alloc w _)

theorem free_zero (n : Nat) : Free (0, 0) n := .inl rfl

/-- storeCells into an owned row. -/
theorem run_storeCells_free (P : Program) (g o : Nat) (t : TypeId) (fz : Nat × Nat) : ∀ (vs : List Value) (i : Nat) (cur : Array Value) (w : World), w.heap[g]? = some (.cells cur t fz) → Free fz cur.size → o + i + vs.length ≤ cur.size → (∀ v ∈ vs, v.oneCell' = true) →
    (storeCells ⟨g, o, none⟩ vs i).run P w = .ok () (w.setRow g (cur.toList.take (o + i) ++ vs ++ cur.toList.drop (o + i + vs.length)).toArray)
  | [], i, cur, w, hg, _, _, _ => by
    simp only [storeCells, List.append_nil, List.length_nil, Nat.add_zero, List.take_append_drop, Array.toArray_toList]
    rw [setRow_self w g cur t fz hg]
    rfl
  | v :: rest, i, cur, w, hg, hfz, hl, h1 => by
    have hi : o + i < cur.size := by simp at hl; omega
    have hadd : (⟨g, o, none⟩ : Addr).add i = ⟨g, o + i, none⟩ := by unfold Addr.add; split <;> simp_all
    have hcell : w.cell? ⟨g, o + i, none⟩ = some cur[o + i] := by simp [World.cell?, hg, hi]
    have hfro : w.frozen? ⟨g, o + i, none⟩ = false := by
      obtain ⟨lo, hi'⟩ := fz
      have := hfz.cell (o + i) hi
      simp only [World.frozen?, hg, Bool.and_eq_false_iff, decide_eq_false_iff_not]
      simp only at this
      omega
    have hst : (store ((⟨g, o, none⟩ : Addr).add i) v).run P w = .ok () (w.setRow g (cur.setIfInBounds (o + i) v)) := by
      rw [hadd, run_store P w _ v _ (h1 v (by simp)), hcell]
      simp [hfro, setCell_eq_setRow w g (o + i) cur t fz v hg]
    have ih := run_storeCells_free P g o t fz rest (i + 1) (cur.setIfInBounds (o + i) v) (w.setRow g (cur.setIfInBounds (o + i) v)) (setRow_heap w g cur _ t _ hg) (by simpa using hfz) (by simp at hl ⊢; omega) (fun x hx => h1 x (by simp [hx]))
    simp only [storeCells, Sem.run_bind, hst, Result.andThen_ok, ih, setRow_setRow]
    congr 3
    have e := list_seg_step cur.toList (o + i) v rest (by simp at hl ⊢; omega)
    simpa [Array.toList_setIfInBounds, Nat.add_assoc] using e

theorem keeps_setRow (w : World) (g : Nat) (cs : Array Value) : Keeps (fun k => k ≠ g) w (w.setRow g cs) :=
  ⟨rfl, rfl, rfl, by simp [World.setRow], fun k hk => setRow_other w g k cs hk⟩

/-- append onto what is owned. -/
theorem run_append {P : Program} {w : World} {l : List Chunk} (t u ty E : TypeId) (i : TypeInfo) (z : Value) (size bytes : Nat) (ht : P.underlying t = some (.slice E)) {ud : TypeDesc} (hu : P.underlying u = some ud) (hud : ∀ k, ud ≠ .int k)
    (hi : P.info? E = some i) (hz : i.zero = some z) (hsize : i.size = size) (hby : i.bytes = bytes) (hzs : z.cells.size = size)
    (v : Value) (n : Nat) (xs : List Value) (H : At w (rowC E size v n xs :: l)) (x : Value) (m : Nat) (news : List Value) (hx : Src P w size x m news) (h1 : ∀ u ∈ news, u.oneCell' = true)
    (h63 : n + m ≤ maxLen) (hbytes : (n + m) * bytes ≤ 140737488355328) :
    ∃ v' w', (Builtin.append_ #[t, u] ty #[v, x]).run P w = .ok v' w' ∧ At w' (rowC E size v' (n + m) (xs ++ news) :: l) := by
  subst hsize
  subst hby
  obtain ⟨hl, hlen, hfirst⟩ := hx
  have hsmall : n + m ≤ 9223372036854775807 := by simp only [maxLen] at h63; omega
  obtain ⟨A0, hA0⟩ := H.head
  have hown := hA0.2
  have hlen2 : (xs ++ news).length = (n + m) * i.size := by rw [List.length_append, hown.1, hl, Nat.add_mul]
  -- the growing arm: one draw, one new block
  have grown : ∀ (old : Nat), old < n + m →
      At (w.drew.alloc (.cells (xs.toArray ++ news.toArray ++ Builtin.zeroCells z.cells (grownCap w (n + m) old E - (n + m))) E))
        (rowC E i.size (.slice (some ⟨w.heap.size, 0, none⟩) (n + m) (grownCap w (n + m) old E)) (n + m) (xs ++ news) :: l) := by
    intro old ho
    have hge := grownCap_ge w (n + m) old E
    have hcm : grownCap w (n + m) old E ≤ maxLen := grownCap_le_maxLen w (n + m) old E h63
    refine (H.tail.drew).new (A' := fun k => k = w.heap.size) ⟨fun k => by simp [Value.ownBlock, eq_comm], hlen2, .inr ⟨w.heap.size, _, _, (0, 0), rfl, heap_alloc_new w.drew _, free_zero _, hge, hcm, ?_, ?_⟩⟩ (fun k h => by simp [h]) (keeps_alloc w.drew _)
    · refine Nat.le_of_eq (Eq.symm ?_)
      simp only [Array.size_append, List.size_toArray, size_zeroCells, hzs, hown.1, hl, ← Nat.add_mul]
      congr 1
      omega
    · simp only [Array.toList_append, List.append_assoc]
      rw [← List.append_assoc, ← hlen2]
      exact List.take_left
  have hf0 : (Builtin.firstCells i.size m x).run P w = .ok news.toArray w := hfirst w rfl
  have hf1 : (Builtin.firstCells i.size m x).run P w.drew = .ok news.toArray w.drew := hfirst w.drew rfl
  rcases hown.2 with ⟨rfl, rfl⟩ | ⟨g, cap, cur, fz, rfl, hg, hfree, hnc, hcm, hcs, htake⟩
  · have hx : xs = [] := List.eq_nil_of_length_eq_zero (by simpa using hown.1)
    subst hx
    by_cases hm : m = 0
    · subst hm
      have hn : news = [] := List.eq_nil_of_length_eq_zero (by simpa using hl)
      subst hn
      refine ⟨.slice none 0 0, w, ?_, by simpa using H⟩
      simp [Builtin.append_, run_underlying ht, run_underlying hu, sizeOf, typeInfo, hi, hlen, hf0]
    · have h63' : ¬ (9223372036854775807 < (m : Int)) := by omega
      have h48' : ¬ (281474976710656 < Builtin.nextslicecap m 0 * i.bytes) := by
        have := growslice_fits (need := m) (old := 0) (bytes := i.bytes) (by omega) (by simpa using hbytes); omega
      have hgr := grown 0 (by omega)
      simp only [Nat.zero_add, List.nil_append, Array.empty_append] at hgr
      refine ⟨_, _, ?_, by simpa using hgr⟩
      simp [Builtin.append_, run_underlying ht, run_underlying hu, sizeOf, typeInfo, zeroValue, hi, hz, hlen, hm, h63', h48', Question.forced, run_firstCells_none, hf1, newRow, grownCap]
  · by_cases hroom : n + m ≤ cap
    · have hfit : n * i.size + news.length ≤ cur.size := by rw [hl, ← Nat.add_mul]; exact Nat.le_trans (Nat.mul_le_mul_right _ hroom) hcs
      have hst := run_storeCells_free P g (n * i.size) E fz news 0 cur w hg hfree (by simpa using hfit) h1
      simp only [Nat.add_zero] at hst
      have hsz : (cur.toList.take (n * i.size) ++ news ++ cur.toList.drop (n * i.size + news.length)).length = cur.size := by
        simp only [List.length_append, List.length_take, List.length_drop, Array.length_toList]; omega
      refine ⟨.slice (some ⟨g, 0, none⟩) (n + m) cap, w.setRow g (cur.toList.take (n * i.size) ++ news ++ cur.toList.drop (n * i.size + news.length)).toArray, ?_, H.step fun A hA => ⟨A, ⟨fun k => by rw [hA.1 k]; simp [Value.ownBlock], hlen2, .inr ⟨g, cap, _, fz, rfl, setRow_heap w g cur _ E _ hg, ?_, hroom, hcm, ?_, ?_⟩⟩, fun _ h => .inl h, (keeps_setRow w g _).mono fun k hk e => hk.2 ((hA.1 k).2 (by simp [Value.ownBlock, e]))⟩⟩
      · simp [Builtin.append_, run_underlying ht, run_underlying hu, sizeOf, typeInfo, hi, hlen, hroom, hf0, Addr.add_lit, hst]
      · simpa only [List.size_toArray, hsz] using hfree
      · simpa only [List.size_toArray, hsz] using hcs
      · rw [htake, ← hlen2]
        exact List.take_left
    · have hn : ¬ (n + m ≤ cap) := hroom
      have h63' : ¬ (9223372036854775807 < ((n : Int) + (m : Int))) := by omega
      have h48' : ¬ (281474976710656 < Builtin.nextslicecap (n + m) cap * i.bytes) := by
        have := growslice_fits (need := n + m) (old := cap) (bytes := i.bytes) (by omega) hbytes; omega
      have hrd : Src P w i.size (.slice (some ⟨g, 0, none⟩) n cap) n xs := hown.rd.src
      have hfo := hrd.2.2 w.drew rfl
      refine ⟨_, _, ?_, grown cap (by omega)⟩
      simp [Builtin.append_, run_underlying ht, run_underlying hu, sizeOf, typeInfo, zeroValue, hi, hz, hlen, hn, h63', h48', Question.forced, hf1, hfo, newRow, grownCap]
      congr 2
      apply Array.ext'
      simp [List.append_assoc]

/-- append onto what is owned; the old slice is read on: it stands by itself, or is the new one's beginning. -/
theorem run_append2 {P : Program} {w : World} {l : List Chunk} (t u ty E : TypeId) (i : TypeInfo) (z : Value) (size bytes : Nat) (ht : P.underlying t = some (.slice E)) {ud : TypeDesc} (hu : P.underlying u = some ud) (hud : ∀ k, ud ≠ .int k)
    (hi : P.info? E = some i) (hz : i.zero = some z) (hsize : i.size = size) (hby : i.bytes = bytes) (hzs : z.cells.size = size)
    (v : Value) (n : Nat) (xs : List Value) (H : At w (rowC E size v n xs :: l)) (x : Value) (m : Nat) (news : List Value) (hx : Src P w size x m news) (h1 : ∀ u ∈ news, u.oneCell' = true)
    (h63 : n + m ≤ maxLen) (hbytes : (n + m) * bytes ≤ 140737488355328) :
    ∃ v' w', (Builtin.append_ #[t, u] ty #[v, x]).run P w = .ok v' w' ∧ (At w' (rowC E size v' (n + m) (xs ++ news) :: rowC E size v n xs :: l) ∨ (At w' (rowC E size v' (n + m) (xs ++ news) :: l) ∧ ∃ g cap, v = .slice (some g) n cap ∧ v' = .slice (some g) (n + m) cap)) := by
  subst hsize
  subst hby
  obtain ⟨hl, hlen, hfirst⟩ := hx
  have hsmall : n + m ≤ 9223372036854775807 := by simp only [maxLen] at h63; omega
  obtain ⟨A0, hA0⟩ := H.head
  have hown := hA0.2
  have hlen2 : (xs ++ news).length = (n + m) * i.size := by rw [List.length_append, hown.1, hl, Nat.add_mul]
  -- the growing arm: one draw, one new block
  have grown : ∀ (old : Nat), old < n + m →
      At (w.drew.alloc (.cells (xs.toArray ++ news.toArray ++ Builtin.zeroCells z.cells (grownCap w (n + m) old E - (n + m))) E))
        (rowC E i.size (.slice (some ⟨w.heap.size, 0, none⟩) (n + m) (grownCap w (n + m) old E)) (n + m) (xs ++ news) :: rowC E i.size v n xs :: l) := by
    intro old ho
    have hge := grownCap_ge w (n + m) old E
    have hcm : grownCap w (n + m) old E ≤ maxLen := grownCap_le_maxLen w (n + m) old E h63
    refine (H.drew).new (A' := fun k => k = w.heap.size) ⟨fun k => by simp [Value.ownBlock, eq_comm], hlen2, .inr ⟨w.heap.size, _, _, (0, 0), rfl, heap_alloc_new w.drew _, free_zero _, hge, hcm, ?_, ?_⟩⟩ (fun k h => by simp [h]) (keeps_alloc w.drew _)
    · refine Nat.le_of_eq (Eq.symm ?_)
      simp only [Array.size_append, List.size_toArray, size_zeroCells, hzs, hown.1, hl, ← Nat.add_mul]
      congr 1
      omega
    · simp only [Array.toList_append, List.append_assoc]
      rw [← List.append_assoc, ← hlen2]
      exact List.take_left
  have hf0 : (Builtin.firstCells i.size m x).run P w = .ok news.toArray w := hfirst w rfl
  have hf1 : (Builtin.firstCells i.size m x).run P w.drew = .ok news.toArray w.drew := hfirst w.drew rfl
  rcases hown.2 with ⟨rfl, rfl⟩ | ⟨g, cap, cur, fz, rfl, hg, hfree, hnc, hcm, hcs, htake⟩
  · have hx : xs = [] := List.eq_nil_of_length_eq_zero (by simpa using hown.1)
    subst hx
    by_cases hm : m = 0
    · subst hm
      have hn : news = [] := List.eq_nil_of_length_eq_zero (by simpa using hl)
      subst hn
      refine ⟨.slice none 0 0, w, ?_, .inl (by simpa using H.nilRow E i.size)⟩
      simp [Builtin.append_, run_underlying ht, run_underlying hu, sizeOf, typeInfo, hi, hlen, hf0]
    · have h63' : ¬ (9223372036854775807 < (m : Int)) := by omega
      have h48' : ¬ (281474976710656 < Builtin.nextslicecap m 0 * i.bytes) := by
        have := growslice_fits (need := m) (old := 0) (bytes := i.bytes) (by omega) (by simpa using hbytes); omega
      have hgr := grown 0 (by omega)
      simp only [Nat.zero_add, List.nil_append, Array.empty_append] at hgr
      refine ⟨_, _, ?_, .inl (by simpa using hgr)⟩
      simp [Builtin.append_, run_underlying ht, run_underlying hu, sizeOf, typeInfo, zeroValue, hi, hz, hlen, hm, h63', h48', Question.forced, run_firstCells_none, hf1, newRow, grownCap]
  · by_cases hroom : n + m ≤ cap
    · have hfit : n * i.size + news.length ≤ cur.size := by rw [hl, ← Nat.add_mul]; exact Nat.le_trans (Nat.mul_le_mul_right _ hroom) hcs
      have hst := run_storeCells_free P g (n * i.size) E fz news 0 cur w hg hfree (by simpa using hfit) h1
      simp only [Nat.add_zero] at hst
      have hsz : (cur.toList.take (n * i.size) ++ news ++ cur.toList.drop (n * i.size + news.length)).length = cur.size := by
        simp only [List.length_append, List.length_take, List.length_drop, Array.length_toList]; omega
      refine ⟨.slice (some ⟨g, 0, none⟩) (n + m) cap, w.setRow g (cur.toList.take (n * i.size) ++ news ++ cur.toList.drop (n * i.size + news.length)).toArray, ?_, .inr ⟨H.step fun A hA => ⟨A, ⟨fun k => by rw [hA.1 k]; simp [Value.ownBlock], hlen2, .inr ⟨g, cap, _, fz, rfl, setRow_heap w g cur _ E _ hg, ?_, hroom, hcm, ?_, ?_⟩⟩, fun _ h => .inl h, (keeps_setRow w g _).mono fun k hk e => hk.2 ((hA.1 k).2 (by simp [Value.ownBlock, e]))⟩, ⟨g, 0, none⟩, cap, rfl, rfl⟩⟩
      · simp [Builtin.append_, run_underlying ht, run_underlying hu, sizeOf, typeInfo, hi, hlen, hroom, hf0, Addr.add_lit, hst]
      · simpa only [List.size_toArray, hsz] using hfree
      · simpa only [List.size_toArray, hsz] using hcs
      · rw [htake, ← hlen2]
        exact List.take_left
    · have hn : ¬ (n + m ≤ cap) := hroom
      have h63' : ¬ (9223372036854775807 < ((n : Int) + (m : Int))) := by omega
      have h48' : ¬ (281474976710656 < Builtin.nextslicecap (n + m) cap * i.bytes) := by
        have := growslice_fits (need := n + m) (old := cap) (bytes := i.bytes) (by omega) hbytes; omega
      have hrd : Src P w i.size (.slice (some ⟨g, 0, none⟩) n cap) n xs := hown.rd.src
      have hfo := hrd.2.2 w.drew rfl
      refine ⟨_, _, ?_, .inl (grown cap (by omega))⟩
      simp [Builtin.append_, run_underlying ht, run_underlying hu, sizeOf, typeInfo, zeroValue, hi, hz, hlen, hn, h63', h48', Question.forced, hf1, hfo, newRow, grownCap]
      congr 2
      apply Array.ext'
      simp [List.append_assoc]

/-- The same in a walk. -/
theorem wpL_append {P : Program} {w : World} {l : List Chunk} {ops : Array Oper} {rest : List Oper} {a : Act} {Q : Exit → Act → World → Prop} {dst : Option Tmp} {ty : TypeId} {pos : String} {af : Array Edge} {gd : Option (Nat × Bool)}
    (s x : Operand) (t u E : TypeId) (i : TypeInfo) (z : Value) (size bytes : Nat) (ht : P.underlying t = some (.slice E)) {ud : TypeDesc} (hu : P.underlying u = some ud) (hud : ∀ k, ud ≠ .int k)
    (hi : P.info? E = some i) (hz : i.zero = some z) (hsize : i.size = size) (hby : i.bytes = bytes) (hzs : z.cells.size = size)
    (v : Value) (n : Nat) (xs : List Value) (hs : a.eval s = v) (H : At w (rowC E size v n xs :: l)) (xv : Value) (m : Nat) (news : List Value) (hx : a.eval x = xv) (hsrc : Src P w size xv m news) (h1 : ∀ u ∈ news, u.oneCell' = true)
    (h63 : n + m ≤ maxLen) (hbytes : (n + m) * bytes ≤ 140737488355328)
    (hw : Region.wanted ⟨dst, .call { callee := .builtin .append, args := #[s, x], argTypes := #[t, u] }, ty, pos, af, gd⟩ (yielded ops a.tmps) = true)
    (h : ∀ v' w', At w' (rowC E size v' (n + m) (xs ++ news) :: l) → wpList P ops Q rest (a.put dst v') w') :
    wpList P ops Q (⟨dst, .call { callee := .builtin .append, args := #[s, x], argTypes := #[t, u] }, ty, pos, af, gd⟩ :: rest) a w := by
  obtain ⟨v', w', hr, hA⟩ := run_append t u ty E i z size bytes ht hu hud hi hz hsize hby hzs v n xs H xv m news hsrc h1 h63 hbytes
  refine BigFrame.wpList_want hw fun K hK => ?_
  unfold Oper.wp execOp
  simp only [resolve, invoke, builtin, Sem.run_bind, Sem.run_pure, Result.andThen_ok, List.map_toArray, List.map_cons, List.map_nil, hs, hx, hr]
  exact hK _ _ (h v' w' hA)

theorem wrap_i64' (n : Int) (h : -9223372036854775808 ≤ n ∧ n ≤ 9223372036854775807) : IntKind.i64.wrap n = n := by
  unfold IntKind.wrap
  simp only [show IntKind.i64.signed = true by decide, show IntKind.i64.bits = 64 by decide]
  split <;> simp_all <;> omega
theorem wrap_i64 (n : Nat) (h : n ≤ 9223372036854775807) : IntKind.i64.wrap (n : Int) = n := wrap_i64' n ⟨by omega, by omega⟩
/-- append of n zeros to nothing. -/
theorem run_appendZ {P : Program} {w : World} {l : List Chunk} (t u ty E : TypeId) (i : TypeInfo) (z : Value) (ht : P.underlying t = some (.slice E)) {k : IntKind} (hu : P.underlying u = some (.int k))
    (hi : P.info? E = some i) (hz : i.zero = some z) (hzs : z.cells.size = i.size) (H : At w l) (n : Nat) (kk : IntKind) (h63 : n ≤ maxLen) (hbytes : n * i.bytes ≤ 140737488355328) :
    ∃ v' w', (Builtin.append_ #[t, u] ty #[.slice none 0 0, .int kk n]).run P w = .ok v' w' ∧ At w' (rowC E i.size v' n (Builtin.zeroCells z.cells n).toList :: l) := by
  have hsmall : n ≤ 9223372036854775807 := by simp only [maxLen] at h63; omega
  have hw := wrap_i64 n hsmall
  have hl1 : ¬ ((n : Int) < 0) := by omega
  have hb2 : (n : Int) * (i.bytes : Int) ≤ 140737488355328 := by rw [← Int.natCast_mul]; omega
  have hl2 : ¬ (281474976710656 < (n : Int) * (i.bytes : Int)) := by omega
  by_cases hm : n = 0
  · subst hm
    have hw0 : IntKind.i64.wrap 0 = 0 := hw
    refine ⟨.slice none 0 0, w, ?_, by simpa [Builtin.zeroCells] using H.nilRow E i.size⟩
    simp [Builtin.append_, run_underlying ht, run_underlying hu, sizeOf, typeInfo, hi, asInt, asIntOf, hw0]
  · have h63' : ¬ (9223372036854775807 < (n : Int)) := by omega
    have h48' : ¬ (281474976710656 < Builtin.nextslicecap n 0 * i.bytes) := by
      have := growslice_fits (need := n) (old := 0) (bytes := i.bytes) (by omega) (by simpa using hbytes); omega
    have hge := grownCap_ge w n 0 E
    have hcm : grownCap w n 0 E ≤ maxLen := grownCap_le_maxLen w n 0 E h63
    have hgr : At (w.drew.alloc (.cells (Builtin.zeroCells z.cells n ++ Builtin.zeroCells z.cells (grownCap w n 0 E - n)) E))
        (rowC E i.size (.slice (some ⟨w.heap.size, 0, none⟩) n (grownCap w n 0 E)) n (Builtin.zeroCells z.cells n).toList :: l) := by
      refine (H.drew).new (A' := fun k => k = w.heap.size) ⟨fun k => by simp [Value.ownBlock, eq_comm], by rw [Array.length_toList, size_zeroCells, hzs], .inr ⟨w.heap.size, _, _, (0, 0), rfl, heap_alloc_new w.drew _, free_zero _, hge, hcm, ?_, ?_⟩⟩ (fun k h => by simp [h]) (keeps_alloc w.drew _)
      · refine Nat.le_of_eq (Eq.symm ?_)
        simp only [Array.size_append, size_zeroCells, hzs, ← Nat.add_mul]
        congr 1
        omega
      · simp only [Array.toList_append]
        rw [show n * i.size = (Builtin.zeroCells z.cells n).toList.length by rw [Array.length_toList, size_zeroCells, hzs]]
        exact List.take_left
    refine ⟨_, _, ?_, hgr⟩
    have hnz : n * i.size = 0 → Builtin.zeroCells z.cells n = #[] := fun h => by
      apply Array.eq_empty_of_size_eq_zero; rw [size_zeroCells, hzs]; exact h
    by_cases h0 : n * i.size = 0
    · simp [Builtin.append_, run_underlying ht, run_underlying hu, sizeOf, typeInfo, zeroValue, hi, hz, asInt, asIntOf, hw, hl1, hl2, hm, h63', h48', Question.forced, run_firstCells_none, newRow, grownCap, h0, hnz h0]
    · simp [Builtin.append_, run_underlying ht, run_underlying hu, sizeOf, typeInfo, zeroValue, hi, hz, asInt, asIntOf, hw, hl1, hl2, hm, h63', h48', Question.forced, run_firstCells_none, newRow, grownCap, h0]

theorem bvs_one (l : List UInt8) : ∀ u ∈ bvs l, u.oneCell' = true := by
  intro u hu; simp only [bvs, List.mem_map] at hu; obtain ⟨c, _, rfl⟩ := hu; rfl

end Go.Sep
