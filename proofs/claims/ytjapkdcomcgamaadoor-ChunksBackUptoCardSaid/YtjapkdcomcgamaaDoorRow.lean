/- Slices: what is read of one, what is owned of one; append, at whatever source. -/
import Derived.Test.YtjapkdcomcgamaaDoorSep
set_option linter.all false
namespace Go.Sep
open Go

def blk (ao : Option Addr) : Nat := match ao with | some a => a.block | none => 0
def ofs (ao : Option Addr) : Nat := match ao with | some a => a.off | none => 0
/-- Where cell j of a slice stands. -/
def adr (ao : Option Addr) (j : Nat) : Addr := ⟨blk ao, ofs ao + j, none⟩

/-- The slice v of n elements, size cells each, reads as cells cs. -/
def Rd (w : World) (size : Nat) (v : Value) (n : Nat) (cs : List Value) : Prop :=
  ∃ ao cap, v = .slice ao n cap ∧ n ≤ cap ∧ cap ≤ maxLen ∧ (ao = none → cap = 0) ∧ cs.length = n * size ∧
    ∀ j u, cs[j]? = some u → (∃ a, ao = some a ∧ a.spot = none) ∧ w.cell? (adr ao j) = some u

theorem add_adr {a : Addr} (h : a.spot = none) (j : Nat) : a.add j = adr (some a) j := by
  cases a with | mk b o s => cases h; unfold Addr.add adr blk ofs; split <;> simp_all

/-- What append, copy and the rest read of a source: m elements, the cells news. -/
def Src (P : Program) (w : World) (size : Nat) (x : Value) (m : Nat) (news : List Value) : Prop :=
  news.length = m * size ∧ (∀ w', (Builtin.lenOf x).run P w' = .ok m w') ∧ ∀ w', w'.heap = w.heap → (Builtin.firstCells size m x).run P w' = .ok news.toArray w'

theorem cell_heap {w w' : World} (h : w'.heap = w.heap) (a : Addr) : w'.cell? a = w.cell? a := by simp [World.cell?, h]

theorem Rd.src {P : Program} {w : World} {size : Nat} {v : Value} {n : Nat} {cs : List Value} (h : Rd w size v n cs) : Src P w size v n cs := by
  obtain ⟨ao, cap, rfl, _, _, _, hl, hc⟩ := h
  refine ⟨hl, fun w' => rfl, fun w' hw => ?_⟩
  cases ao with
  | none =>
    have : cs = [] := by
      cases cs with
      | nil => rfl
      | cons u r => obtain ⟨⟨a, h, _⟩, _⟩ := hc 0 u rfl; cases h
    subst this
    simp [Builtin.firstCells]
  | some a =>
    refine run_firstCells_some w' size n a n cap cs hl fun j u hu => ?_
    obtain ⟨⟨a', h1, h2⟩, h3⟩ := hc j u hu
    cases h1
    rw [add_adr h2, cell_heap hw]; exact h3

theorem src_new {P : Program} {w : World} {g T : Nat} {cs : Array Value} {fz : Nat × Nat} {size n cap : Nat} (h : w.heap[g]? = some (.cells cs T fz)) (hl : cs.size = n * size) :
    Src P w size (.slice (some ⟨g, 0, none⟩) n cap) n cs.toList := by
  refine ⟨by simpa using hl, fun w' => rfl, fun w' hw => ?_⟩
  refine run_firstCells_some w' size n _ n cap cs.toList (by simpa using hl) fun j u hu => ?_
  rw [add_adr rfl, cell_heap hw]
  simp only [adr, blk, ofs, World.cell?, h, Nat.zero_add]
  simpa using hu

def bv (c : UInt8) : Value := .int .u8 (c.toNat : Int)
def bvs (l : List UInt8) : List Value := l.map bv
@[simp] theorem bvs_length (l : List UInt8) : (bvs l).length = l.length := by simp [bvs]
theorem bvs_append (l m : List UInt8) : bvs (l ++ m) = bvs l ++ bvs m := by simp [bvs]
theorem bvs_getElem? (l : List UInt8) (j : Nat) : (bvs l)[j]? = (l[j]?).map bv := by simp [bvs]

theorem src_string {P : Program} {w : World} (s : ByteArray) : Src P w 1 (.string s) s.size (bvs s.data.toList) := by
  refine ⟨by simp [bvs], fun w' => rfl, fun w' _ => ?_⟩
  have hx : (Array.map (fun b : UInt8 => Value.int IntKind.u8 (b.toNat : Int)) s.data).extract 0 s.size = Array.map (fun b : UInt8 => Value.int IntKind.u8 (b.toNat : Int)) s.data := by
    have hs : s.size = (Array.map (fun b : UInt8 => Value.int IntKind.u8 (b.toNat : Int)) s.data).size := by rw [Array.size_map]; rfl
    rw [hs, Array.extract_size]
  have e : (s.extract 0 s.size) = s := by simp
  simp only [Builtin.firstCells, e, Sem.run_pure]
  congr 1
  apply Array.ext'
  simp [bvs, bv]

/-- No cell of the first n is frozen. -/
def Free (fz : Nat × Nat) (n : Nat) : Prop := fz.1 = fz.2 ∨ n ≤ fz.1
theorem Free.cell {fz : Nat × Nat} {n : Nat} (h : Free fz n) : ∀ j, j < n → ¬ (fz.1 ≤ j ∧ j < fz.2) := fun j hj hc => by unfold Free at h; omega

/-- v owns the cells xs. -/
def Owns (w : World) (E size : Nat) (v : Value) (n : Nat) (xs : List Value) : Prop :=
  xs.length = n * size ∧
  ((v = .slice none 0 0 ∧ n = 0) ∨
   ∃ g cap cur fz, v = .slice (some ⟨g, 0, none⟩) n cap ∧ w.heap[g]? = some (.cells cur E fz) ∧ Free fz cur.size ∧ n ≤ cap ∧ cap ≤ maxLen ∧ cap * size ≤ cur.size ∧ cur.toList.take (n * size) = xs)

def rowC (E size : Nat) (v : Value) (n : Nat) (xs : List Value) : Chunk where
  holds w F := (∀ k, F k ↔ v.ownBlock = some k) ∧ Owns w E size v n xs
  lt := by
    rintro w F ⟨hF, hl, hv⟩ k hk
    have hk := (hF k).1 hk
    rcases hv with ⟨rfl, _⟩ | ⟨g, cap, cur, fz, rfl, hg, _⟩
    · simp [Value.ownBlock] at hk
    · simp [Value.ownBlock] at hk; subst hk; exact (Array.getElem?_eq_some_iff.1 hg).1
  keep := by
    rintro w w' F ⟨hF, hl, hv⟩ hk
    refine ⟨hF, hl, ?_⟩
    rcases hv with h | ⟨g, cap, cur, fz, rfl, hg, r⟩
    · exact .inl h
    · exact .inr ⟨g, cap, cur, fz, rfl, (hk.block g ((hF g).2 rfl)).trans hg, r⟩

theorem Owns.rd {w : World} {E size : Nat} {v : Value} {n : Nat} {xs : List Value} (h : Owns w E size v n xs) : Rd w size v n xs := by
  obtain ⟨hl, ⟨rfl, rfl⟩ | ⟨g, cap, cur, fz, rfl, hg, _, hnc, hcm, hcs, ht⟩⟩ := h
  · have : xs = [] := List.eq_nil_of_length_eq_zero (by simpa using hl)
    subst this
    exact ⟨none, 0, rfl, Nat.le_refl _, Nat.zero_le _, fun _ => rfl, by simp, fun j u h => by simp at h⟩
  · refine ⟨_, cap, rfl, hnc, hcm, (fun h => by cases h), hl, fun j u hu => ⟨⟨_, rfl, rfl⟩, ?_⟩⟩
    rw [← ht, List.getElem?_take] at hu
    split at hu
    · simp only [adr, blk, ofs, World.cell?, hg, Nat.zero_add]; simpa using hu
    · cases hu

theorem At.rd {w : World} {E size : Nat} {v : Value} {n : Nat} {xs : List Value} {l : List Chunk} (H : At w (rowC E size v n xs :: l)) : Rd w size v n xs := by
  obtain ⟨A, h⟩ := H.head; exact h.2.rd
theorem At.rowLen {w : World} {E size : Nat} {v : Value} {n : Nat} {xs : List Value} {l : List Chunk} (H : At w (rowC E size v n xs :: l)) : xs.length = n * size := by
  obtain ⟨A, h⟩ := H.head; exact h.2.1
theorem At.rowShape {w : World} {E size : Nat} {v : Value} {n : Nat} {xs : List Value} {l : List Chunk} (H : At w (rowC E size v n xs :: l)) : ∃ ao cap, v = .slice ao n cap := by
  obtain ⟨ao, cap, h, _⟩ := H.rd; exact ⟨ao, cap, h⟩

theorem At.nilRow {w : World} {l : List Chunk} (H : At w l) (E size : Nat) : At w (rowC E size (.slice none 0 0) 0 [] :: l) :=
  H.new (A' := fun _ => False) ⟨fun k => by simp [Value.ownBlock], by simp, .inl ⟨rfl, rfl⟩⟩ (fun _ h => h.elim) (Keeps.refl _ _)

/-- A new row, owned. -/
theorem At.allocRow {w : World} {l : List Chunk} (H : At w l) (E size n : Nat) (cs : Array Value) (fz : Nat × Nat) (hcs : cs.size = n * size) (hn : n ≤ maxLen) (hf : Free fz cs.size) :
    At (w.alloc (.cells cs E fz)) (rowC E size (.slice (some ⟨w.heap.size, 0, none⟩) n n) n cs.toList :: l) :=
  H.new (A' := fun k => k = w.heap.size) ⟨fun k => ⟨fun h => by rw [h]; rfl, fun h => by cases h; rfl⟩, by simpa using hcs, .inr ⟨w.heap.size, n, cs, fz, rfl, heap_alloc_new w _, hf, Nat.le_refl _, hn, Nat.le_of_eq hcs.symm, List.take_of_length_le (by simp [hcs])⟩⟩
    (fun k h => by omega) (keeps_alloc w _)

theorem free_zero (n : Nat) : Free (0, 0) n := .inl rfl

/-- storeCells into an owned row. -/
theorem run_storeCells_free (P : Program) (g o : Nat) (t : TypeId) (fz : Nat × Nat) : ∀ (vs : List Value) (i : Nat) (cur : Array Value) (w : World), w.heap[g]? = some (.cells cur t fz) → Free fz cur.size → o + i + vs.length ≤ cur.size → (∀ v ∈ vs, v.oneCell' = true) →
    (storeCells ⟨g, o, none⟩ vs i).run P w = .ok () (w.setRow g (cur.toList.take (o + i) ++ vs ++ cur.toList.drop (o + i + vs.length)).toArray)
  | [], i, cur, w, hg, _, _, _ => by
    simp only [storeCells, List.append_nil, List.length_nil, Nat.add_zero, List.take_append_drop, Array.toArray_toList]
    rw [setRow_self w g cur t fz hg]
    rfl
  | v :: rest, i, cur, w, hg, hfz, hl, h1 => by
    have hi : o + i < cur.size := by simp at hl; omega
    have hadd : (⟨g, o, none⟩ : Addr).add i = ⟨g, o + i, none⟩ := by unfold Addr.add; split <;> simp_all
    have hcell : w.cell? ⟨g, o + i, none⟩ = some cur[o + i] := by simp [World.cell?, hg, hi]
    have hfro : w.frozen? ⟨g, o + i, none⟩ = false := by
      obtain ⟨lo, hi'⟩ := fz
      have := hfz.cell (o + i) hi
      simp only [World.frozen?, hg, Bool.and_eq_false_iff, decide_eq_false_iff_not]
      simp only at this
      omega
    have hst : (store ((⟨g, o, none⟩ : Addr).add i) v).run P w = .ok () (w.setRow g (cur.setIfInBounds (o + i) v)) := by
      rw [hadd, run_store P w _ v _ (h1 v (by simp)), hcell]
      simp [hfro, setCell_eq_setRow w g (o + i) cur t fz v hg]
    have ih := run_storeCells_free P g o t fz rest (i + 1) (cur.setIfInBounds (o + i) v) (w.setRow g (cur.setIfInBounds (o + i) v)) (setRow_heap w g cur _ t _ hg) (by simpa using hfz) (by simp at hl ⊢; omega) (fun x hx => h1 x (by simp [hx]))
    simp only [storeCells, Sem.run_bind, hst, Result.andThen_ok, ih, setRow_setRow]
    congr 3
    have e := list_seg_step cur.toList (o + i) v rest (by simp at hl ⊢; omega)
    simpa [Array.toList_setIfInBounds, Nat.add_assoc] using e

theorem keeps_setRow (w : World) (g : Nat) (cs : Array Value) : Keeps (fun k => k ≠ g) w (w.setRow g cs) :=
  ⟨rfl, rfl, rfl, by simp [World.setRow], fun k hk => setRow_other w g k cs hk⟩

/-- append onto what is owned. -/
theorem run_append {P : Program} {w : World} {l : List Chunk} (t u ty E : TypeId) (i : TypeInfo) (z : Value) (size bytes : Nat) (ht : P.underlying t = some (.slice E)) {ud : TypeDesc} (hu : P.underlying u = some ud) (hud : ∀ k, ud ≠ .int k)
    (hi : P.info? E = some i) (hz : i.zero = some z) (hsize : i.size = size) (hby : i.bytes = bytes) (hzs : z.cells.size = size)
    (v : Value) (n : Nat) (xs : List Value) (H : At w (rowC E size v n xs :: l)) (x : Value) (m : Nat) (news : List Value) (hx : Src P w size x m news) (h1 : ∀ u ∈ news, u.oneCell' = true)
    (h63 : n + m ≤ maxLen) (hbytes : (n + m) * bytes ≤ 140737488355328) :
    ∃ v' w', (Builtin.append_ #[t, u] ty #[v, x]).run P w = .ok v' w' ∧ At w' (rowC E size v' (n + m) (xs ++ news) :: l) := by
  subst hsize
  subst hby
  obtain ⟨hl, hlen, hfirst⟩ := hx
  have hsmall : n + m ≤ 9223372036854775807 := by simp only [maxLen] at h63; omega
  obtain ⟨A0, hA0⟩ := H.head
  have hown := hA0.2
  have hlen2 : (xs ++ news).length = (n + m) * i.size := by rw [List.length_append, hown.1, hl, Nat.add_mul]
  -- the growing arm: one draw, one new block
  have grown : ∀ (old : Nat), old < n + m →
      At (w.drew.alloc (.cells (xs.toArray ++ news.toArray ++ Builtin.zeroCells z.cells (grownCap w (n + m) old E - (n + m))) E))
        (rowC E i.size (.slice (some ⟨w.heap.size, 0, none⟩) (n + m) (grownCap w (n + m) old E)) (n + m) (xs ++ news) :: l) := by
    intro old ho
    have hge := grownCap_ge w (n + m) old E
    have hcm : grownCap w (n + m) old E ≤ maxLen := grownCap_le_maxLen w (n + m) old E h63
    refine (H.tail.drew).new (A' := fun k => k = w.heap.size) ⟨fun k => by simp [Value.ownBlock, eq_comm], hlen2, .inr ⟨w.heap.size, _, _, (0, 0), rfl, heap_alloc_new w.drew _, free_zero _, hge, hcm, ?_, ?_⟩⟩ (fun k h => by simp [h]) (keeps_alloc w.drew _)
    · refine Nat.le_of_eq (Eq.symm ?_)
      simp only [Array.size_append, List.size_toArray, size_zeroCells, hzs, hown.1, hl, ← Nat.add_mul]
      congr 1
      omega
    · simp only [Array.toList_append, List.append_assoc]
      rw [← List.append_assoc, ← hlen2]
      exact List.take_left
  have hf0 : (Builtin.firstCells i.size m x).run P w = .ok news.toArray w := hfirst w rfl
  have hf1 : (Builtin.firstCells i.size m x).run P w.drew = .ok news.toArray w.drew := hfirst w.drew rfl
  rcases hown.2 with ⟨rfl, rfl⟩ | ⟨g, cap, cur, fz, rfl, hg, hfree, hnc, hcm, hcs, htake⟩
  · have hx : xs = [] := List.eq_nil_of_length_eq_zero (by simpa using hown.1)
    subst hx
    by_cases hm : m = 0
    · subst hm
      have hn : news = [] := List.eq_nil_of_length_eq_zero (by simpa using hl)
      subst hn
      refine ⟨.slice none 0 0, w, ?_, by simpa using H⟩
      simp [Builtin.append_, run_underlying ht, run_underlying hu, sizeOf, typeInfo, hi, hlen, hf0]
    · have h63' : ¬ (9223372036854775807 < (m : Int)) := by omega
      have h48' : ¬ (281474976710656 < Builtin.nextslicecap m 0 * i.bytes) := by
        have := growslice_fits (need := m) (old := 0) (bytes := i.bytes) (by omega) (by simpa using hbytes); omega
      have hgr := grown 0 (by omega)
      simp only [Nat.zero_add, List.nil_append, Array.empty_append] at hgr
      refine ⟨_, _, ?_, by simpa using hgr⟩
      simp [Builtin.append_, run_underlying ht, run_underlying hu, sizeOf, typeInfo, zeroValue, hi, hz, hlen, hm, h63', h48', Question.forced, run_firstCells_none, hf1, newRow, grownCap]
  · by_cases hroom : n + m ≤ cap
    · have hfit : n * i.size + news.length ≤ cur.size := by rw [hl, ← Nat.add_mul]; exact Nat.le_trans (Nat.mul_le_mul_right _ hroom) hcs
      have hst := run_storeCells_free P g (n * i.size) E fz news 0 cur w hg hfree (by simpa using hfit) h1
      simp only [Nat.add_zero] at hst
      have hsz : (cur.toList.take (n * i.size) ++ news ++ cur.toList.drop (n * i.size + news.length)).length = cur.size := by
        simp only [List.length_append, List.length_take, List.length_drop, Array.length_toList]; omega
      refine ⟨.slice (some ⟨g, 0, none⟩) (n + m) cap, w.setRow g (cur.toList.take (n * i.size) ++ news ++ cur.toList.drop (n * i.size + news.length)).toArray, ?_, H.step fun A hA => ⟨A, ⟨fun k => by rw [hA.1 k]; simp [Value.ownBlock], hlen2, .inr ⟨g, cap, _, fz, rfl, setRow_heap w g cur _ E _ hg, ?_, hroom, hcm, ?_, ?_⟩⟩, fun _ h => .inl h, (keeps_setRow w g _).mono fun k hk e => hk.2 ((hA.1 k).2 (by simp [Value.ownBlock, e]))⟩⟩
      · simp [Builtin.append_, run_underlying ht, run_underlying hu, sizeOf, typeInfo, hi, hlen, hroom, hf0, Addr.add_lit, hst]
      · simpa only [List.size_toArray, hsz] using hfree
      · simpa only [List.size_toArray, hsz] using hcs
      · rw [htake, ← hlen2]
        exact List.take_left
    · have hn : ¬ (n + m ≤ cap) := hroom
      have h63' : ¬ (9223372036854775807 < ((n : Int) + (m : Int))) := by omega
      have h48' : ¬ (281474976710656 < Builtin.nextslicecap (n + m) cap * i.bytes) := by
        have := growslice_fits (need := n + m) (old := cap) (bytes := i.bytes) (by omega) hbytes; omega
      have hrd : Src P w i.size (.slice (some ⟨g, 0, none⟩) n cap) n xs := hown.rd.src
      have hfo := hrd.2.2 w.drew rfl
      refine ⟨_, _, ?_, grown cap (by omega)⟩
      simp [Builtin.append_, run_underlying ht, run_underlying hu, sizeOf, typeInfo, zeroValue, hi, hz, hlen, hn, h63', h48', Question.forced, hf1, hfo, newRow, grownCap]
      congr 2
      apply Array.ext'
      simp [List.append_assoc]

/-- append onto what is owned; the old slice is read on: it stands by itself, or is the new one's beginning. -/
theorem run_append2 {P : Program} {w : World} {l : List Chunk} (t u ty E : TypeId) (i : TypeInfo) (z : Value) (size bytes : Nat) (ht : P.underlying t = some (.slice E)) {ud : TypeDesc} (hu : P.underlying u = some ud) (hud : ∀ k, ud ≠ .int k)
    (hi : P.info? E = some i) (hz : i.zero = some z) (hsize : i.size = size) (hby : i.bytes = bytes) (hzs : z.cells.size = size)
    (v : Value) (n : Nat) (xs : List Value) (H : At w (rowC E size v n xs :: l)) (x : Value) (m : Nat) (news : List Value) (hx : Src P w size x m news) (h1 : ∀ u ∈ news, u.oneCell' = true)
    (h63 : n + m ≤ maxLen) (hbytes : (n + m) * bytes ≤ 140737488355328) :
    ∃ v' w', (Builtin.append_ #[t, u] ty #[v, x]).run P w = .ok v' w' ∧ (At w' (rowC E size v' (n + m) (xs ++ news) :: rowC E size v n xs :: l) ∨ (At w' (rowC E size v' (n + m) (xs ++ news) :: l) ∧ ∃ g cap, v = .slice (some g) n cap ∧ v' = .slice (some g) (n + m) cap)) := by
  subst hsize
  subst hby
  obtain ⟨hl, hlen, hfirst⟩ := hx
  have hsmall : n + m ≤ 9223372036854775807 := by simp only [maxLen] at h63; omega
  obtain ⟨A0, hA0⟩ := H.head
  have hown := hA0.2
  have hlen2 : (xs ++ news).length = (n + m) * i.size := by rw [List.length_append, hown.1, hl, Nat.add_mul]
  -- the growing arm: one draw, one new block
  have grown : ∀ (old : Nat), old < n + m →
      At (w.drew.alloc (.cells (xs.toArray ++ news.toArray ++ Builtin.zeroCells z.cells (grownCap w (n + m) old E - (n + m))) E))
        (rowC E i.size (.slice (some ⟨w.heap.size, 0, none⟩) (n + m) (grownCap w (n + m) old E)) (n + m) (xs ++ news) :: rowC E i.size v n xs :: l) := by
    intro old ho
    have hge := grownCap_ge w (n + m) old E
    have hcm : grownCap w (n + m) old E ≤ maxLen := grownCap_le_maxLen w (n + m) old E h63
    refine (H.drew).new (A' := fun k => k = w.heap.size) ⟨fun k => by simp [Value.ownBlock, eq_comm], hlen2, .inr ⟨w.heap.size, _, _, (0, 0), rfl, heap_alloc_new w.drew _, free_zero _, hge, hcm, ?_, ?_⟩⟩ (fun k h => by simp [h]) (keeps_alloc w.drew _)
    · refine Nat.le_of_eq (Eq.symm ?_)
      simp only [Array.size_append, List.size_toArray, size_zeroCells, hzs, hown.1, hl, ← Nat.add_mul]
      congr 1
      omega
    · simp only [Array.toList_append, List.append_assoc]
      rw [← List.append_assoc, ← hlen2]
      exact List.take_left
  have hf0 : (Builtin.firstCells i.size m x).run P w = .ok news.toArray w := hfirst w rfl
  have hf1 : (Builtin.firstCells i.size m x).run P w.drew = .ok news.toArray w.drew := hfirst w.drew rfl
  rcases hown.2 with ⟨rfl, rfl⟩ | ⟨g, cap, cur, fz, rfl, hg, hfree, hnc, hcm, hcs, htake⟩
  · have hx : xs = [] := List.eq_nil_of_length_eq_zero (by simpa using hown.1)
    subst hx
    by_cases hm : m = 0
    · subst hm
      have hn : news = [] := List.eq_nil_of_length_eq_zero (by simpa using hl)
      subst hn
      refine ⟨.slice none 0 0, w, ?_, .inl (by simpa using H.nilRow E i.size)⟩
      simp [Builtin.append_, run_underlying ht, run_underlying hu, sizeOf, typeInfo, hi, hlen, hf0]
    · have h63' : ¬ (9223372036854775807 < (m : Int)) := by omega
      have h48' : ¬ (281474976710656 < Builtin.nextslicecap m 0 * i.bytes) := by
        have := growslice_fits (need := m) (old := 0) (bytes := i.bytes) (by omega) (by simpa using hbytes); omega
      have hgr := grown 0 (by omega)
      simp only [Nat.zero_add, List.nil_append, Array.empty_append] at hgr
      refine ⟨_, _, ?_, .inl (by simpa using hgr)⟩
      simp [Builtin.append_, run_underlying ht, run_underlying hu, sizeOf, typeInfo, zeroValue, hi, hz, hlen, hm, h63', h48', Question.forced, run_firstCells_none, hf1, newRow, grownCap]
  · by_cases hroom : n + m ≤ cap
    · have hfit : n * i.size + news.length ≤ cur.size := by rw [hl, ← Nat.add_mul]; exact Nat.le_trans (Nat.mul_le_mul_right _ hroom) hcs
      have hst := run_storeCells_free P g (n * i.size) E fz news 0 cur w hg hfree (by simpa using hfit) h1
      simp only [Nat.add_zero] at hst
      have hsz : (cur.toList.take (n * i.size) ++ news ++ cur.toList.drop (n * i.size + news.length)).length = cur.size := by
        simp only [List.length_append, List.length_take, List.length_drop, Array.length_toList]; omega
      refine ⟨.slice (some ⟨g, 0, none⟩) (n + m) cap, w.setRow g (cur.toList.take (n * i.size) ++ news ++ cur.toList.drop (n * i.size + news.length)).toArray, ?_, .inr ⟨H.step fun A hA => ⟨A, ⟨fun k => by rw [hA.1 k]; simp [Value.ownBlock], hlen2, .inr ⟨g, cap, _, fz, rfl, setRow_heap w g cur _ E _ hg, ?_, hroom, hcm, ?_, ?_⟩⟩, fun _ h => .inl h, (keeps_setRow w g _).mono fun k hk e => hk.2 ((hA.1 k).2 (by simp [Value.ownBlock, e]))⟩, ⟨g, 0, none⟩, cap, rfl, rfl⟩⟩
      · simp [Builtin.append_, run_underlying ht, run_underlying hu, sizeOf, typeInfo, hi, hlen, hroom, hf0, Addr.add_lit, hst]
      · simpa only [List.size_toArray, hsz] using hfree
      · simpa only [List.size_toArray, hsz] using hcs
      · rw [htake, ← hlen2]
        exact List.take_left
    · have hn : ¬ (n + m ≤ cap) := hroom
      have h63' : ¬ (9223372036854775807 < ((n : Int) + (m : Int))) := by omega
      have h48' : ¬ (281474976710656 < Builtin.nextslicecap (n + m) cap * i.bytes) := by
        have := growslice_fits (need := n + m) (old := cap) (bytes := i.bytes) (by omega) hbytes; omega
      have hrd : Src P w i.size (.slice (some ⟨g, 0, none⟩) n cap) n xs := hown.rd.src
      have hfo := hrd.2.2 w.drew rfl
      refine ⟨_, _, ?_, .inl (grown cap (by omega))⟩
      simp [Builtin.append_, run_underlying ht, run_underlying hu, sizeOf, typeInfo, zeroValue, hi, hz, hlen, hn, h63', h48', Question.forced, hf1, hfo, newRow, grownCap]
      congr 2
      apply Array.ext'
      simp [List.append_assoc]

/-- The same in a walk. -/
theorem wpL_append {P : Program} {w : World} {l : List Chunk} {ops : Array Oper} {rest : List Oper} {a : Act} {Q : Exit → Act → World → Prop} {dst : Option Tmp} {ty : TypeId} {pos : String} {af : Array Edge} {gd : Option (Nat × Bool)}
    (s x : Operand) (t u E : TypeId) (i : TypeInfo) (z : Value) (size bytes : Nat) (ht : P.underlying t = some (.slice E)) {ud : TypeDesc} (hu : P.underlying u = some ud) (hud : ∀ k, ud ≠ .int k)
    (hi : P.info? E = some i) (hz : i.zero = some z) (hsize : i.size = size) (hby : i.bytes = bytes) (hzs : z.cells.size = size)
    (v : Value) (n : Nat) (xs : List Value) (hs : a.eval s = v) (H : At w (rowC E size v n xs :: l)) (xv : Value) (m : Nat) (news : List Value) (hx : a.eval x = xv) (hsrc : Src P w size xv m news) (h1 : ∀ u ∈ news, u.oneCell' = true)
    (h63 : n + m ≤ maxLen) (hbytes : (n + m) * bytes ≤ 140737488355328)
    (hw : Region.wanted ⟨dst, .call { callee := .builtin .append, args := #[s, x], argTypes := #[t, u] }, ty, pos, af, gd⟩ (yielded ops a.tmps) = true)
    (h : ∀ v' w', At w' (rowC E size v' (n + m) (xs ++ news) :: l) → wpList P ops Q rest (a.put dst v') w') :
    wpList P ops Q (⟨dst, .call { callee := .builtin .append, args := #[s, x], argTypes := #[t, u] }, ty, pos, af, gd⟩ :: rest) a w := by
  obtain ⟨v', w', hr, hA⟩ := run_append t u ty E i z size bytes ht hu hud hi hz hsize hby hzs v n xs H xv m news hsrc h1 h63 hbytes
  refine BigFrame.wpList_want hw fun K hK => ?_
  unfold Oper.wp execOp
  simp only [resolve, invoke, builtin, Sem.run_bind, Sem.run_pure, Result.andThen_ok, List.map_toArray, List.map_cons, List.map_nil, hs, hx, hr]
  exact hK _ _ (h v' w' hA)

theorem wrap_i64' (n : Int) (h : -9223372036854775808 ≤ n ∧ n ≤ 9223372036854775807) : IntKind.i64.wrap n = n := by
  unfold IntKind.wrap
  simp only [show IntKind.i64.signed = true by decide, show IntKind.i64.bits = 64 by decide]
  split <;> simp_all <;> omega
theorem wrap_i64 (n : Nat) (h : n ≤ 9223372036854775807) : IntKind.i64.wrap (n : Int) = n := wrap_i64' n ⟨by omega, by omega⟩
/-- append of n zeros to nothing. -/
theorem run_appendZ {P : Program} {w : World} {l : List Chunk} (t u ty E : TypeId) (i : TypeInfo) (z : Value) (ht : P.underlying t = some (.slice E)) {k : IntKind} (hu : P.underlying u = some (.int k))
    (hi : P.info? E = some i) (hz : i.zero = some z) (hzs : z.cells.size = i.size) (H : At w l) (n : Nat) (kk : IntKind) (h63 : n ≤ maxLen) (hbytes : n * i.bytes ≤ 140737488355328) :
    ∃ v' w', (Builtin.append_ #[t, u] ty #[.slice none 0 0, .int kk n]).run P w = .ok v' w' ∧ At w' (rowC E i.size v' n (Builtin.zeroCells z.cells n).toList :: l) := by
  have hsmall : n ≤ 9223372036854775807 := by simp only [maxLen] at h63; omega
  have hw := wrap_i64 n hsmall
  have hl1 : ¬ ((n : Int) < 0) := by omega
  have hb2 : (n : Int) * (i.bytes : Int) ≤ 140737488355328 := by rw [← Int.natCast_mul]; omega
  have hl2 : ¬ (281474976710656 < (n : Int) * (i.bytes : Int)) := by omega
  by_cases hm : n = 0
  · subst hm
    have hw0 : IntKind.i64.wrap 0 = 0 := hw
    refine ⟨.slice none 0 0, w, ?_, by simpa [Builtin.zeroCells] using H.nilRow E i.size⟩
    simp [Builtin.append_, run_underlying ht, run_underlying hu, sizeOf, typeInfo, hi, asInt, asIntOf, hw0]
  · have h63' : ¬ (9223372036854775807 < (n : Int)) := by omega
    have h48' : ¬ (281474976710656 < Builtin.nextslicecap n 0 * i.bytes) := by
      have := growslice_fits (need := n) (old := 0) (bytes := i.bytes) (by omega) (by simpa using hbytes); omega
    have hge := grownCap_ge w n 0 E
    have hcm : grownCap w n 0 E ≤ maxLen := grownCap_le_maxLen w n 0 E h63
    have hgr : At (w.drew.alloc (.cells (Builtin.zeroCells z.cells n ++ Builtin.zeroCells z.cells (grownCap w n 0 E - n)) E))
        (rowC E i.size (.slice (some ⟨w.heap.size, 0, none⟩) n (grownCap w n 0 E)) n (Builtin.zeroCells z.cells n).toList :: l) := by
      refine (H.drew).new (A' := fun k => k = w.heap.size) ⟨fun k => by simp [Value.ownBlock, eq_comm], by rw [Array.length_toList, size_zeroCells, hzs], .inr ⟨w.heap.size, _, _, (0, 0), rfl, heap_alloc_new w.drew _, free_zero _, hge, hcm, ?_, ?_⟩⟩ (fun k h => by simp [h]) (keeps_alloc w.drew _)
      · refine Nat.le_of_eq (Eq.symm ?_)
        simp only [Array.size_append, size_zeroCells, hzs, ← Nat.add_mul]
        congr 1
        omega
      · simp only [Array.toList_append]
        rw [show n * i.size = (Builtin.zeroCells z.cells n).toList.length by rw [Array.length_toList, size_zeroCells, hzs]]
        exact List.take_left
    refine ⟨_, _, ?_, hgr⟩
    have hnz : n * i.size = 0 → Builtin.zeroCells z.cells n = #[] := fun h => by
      apply Array.eq_empty_of_size_eq_zero; rw [size_zeroCells, hzs]; exact h
    by_cases h0 : n * i.size = 0
    · simp [Builtin.append_, run_underlying ht, run_underlying hu, sizeOf, typeInfo, zeroValue, hi, hz, asInt, asIntOf, hw, hl1, hl2, hm, h63', h48', Question.forced, run_firstCells_none, newRow, grownCap, h0, hnz h0]
    · simp [Builtin.append_, run_underlying ht, run_underlying hu, sizeOf, typeInfo, zeroValue, hi, hz, asInt, asIntOf, hw, hl1, hl2, hm, h63', h48', Question.forced, run_firstCells_none, newRow, grownCap, h0]

theorem bvs_one (l : List UInt8) : ∀ u ∈ bvs l, u.oneCell' = true := by
  intro u hu; simp only [bvs, List.mem_map] at hu; obtain ⟨c, _, rfl⟩ := hu; rfl

end Go.Sep
