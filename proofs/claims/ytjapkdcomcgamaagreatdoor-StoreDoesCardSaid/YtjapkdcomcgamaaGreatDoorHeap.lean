/- Objects and new rows, as steps of a walk whose worlds are variables. -/
import Derived.Test.YtjapkdcomcgamaaGreatDoorStrs
import Derived.Deep.MidRow
import Derived.Laws.MakeOwn
set_option linter.all false
namespace Go.Sep
open Go

theorem At.p1 {a b : Chunk} {l : List Chunk} {w : World} (h : At w (a :: b :: l)) : At w (b :: a :: l) := h.swap
theorem At.p2 {a b c : Chunk} {l : List Chunk} {w : World} (h : At w (a :: b :: c :: l)) : At w (c :: a :: b :: l) := h.rot2
theorem At.p3 {a b c d : Chunk} {l : List Chunk} {w : World} (h : At w (a :: b :: c :: d :: l)) : At w (d :: a :: b :: c :: l) := h.rot3
theorem At.p4 {a b c d e : Chunk} {l : List Chunk} {w : World} (h : At w (a :: b :: c :: d :: e :: l)) : At w (e :: a :: b :: c :: d :: l) := h.pull 4 e rfl
theorem At.p5 {a b c d e f : Chunk} {l : List Chunk} {w : World} (h : At w (a :: b :: c :: d :: e :: f :: l)) : At w (f :: a :: b :: c :: d :: e :: l) := h.pull 5 f rfl
theorem At.p6 {a b c d e f g : Chunk} {l : List Chunk} {w : World} (h : At w (a :: b :: c :: d :: e :: f :: g :: l)) : At w (g :: a :: b :: c :: d :: e :: f :: l) := h.pull 6 g rfl
theorem At.one {c : Chunk} {l : List Chunk} {w : World} (h : At w (c :: l)) : At w [c] := by
  obtain ⟨F, A, B, _, _, hc, _⟩ := h
  exact ⟨A, A, fun _ => False, fun k => by simp, fun _ _ h => h, hc, fun _ h => h⟩
/-- The second one is let go. -/
theorem At.drop1 {a b : Chunk} {l : List Chunk} {w : World} (h : At w (a :: b :: l)) : At w (a :: l) := h.swap.tail

/-- Out of these chunks those. -/
def Sub (l m : List Chunk) : Prop := ∀ w F, sep l w F → ∃ G, (∀ k, G k → F k) ∧ sep m w G
theorem Sub.refl (l : List Chunk) : Sub l l := fun _ F h => ⟨F, fun _ h => h, h⟩
theorem Sub.nil (l : List Chunk) : Sub l [] := fun _ _ _ => ⟨fun _ => False, fun _ h => h.elim, fun _ h => h⟩
theorem Sub.drop {c : Chunk} {l m : List Chunk} (h : Sub l m) : Sub (c :: l) m := fun w F hs => by
  obtain ⟨A, B, e, _, _, hl⟩ := hs
  obtain ⟨G, hG, hm⟩ := h w B hl
  exact ⟨G, fun k hk => (e k).2 (.inr (hG k hk)), hm⟩
theorem Sub.c0 {c : Chunk} {l m : List Chunk} (h : Sub l m) : Sub (c :: l) (c :: m) := fun w F hs => by
  obtain ⟨A, B, e, d, hc, hl⟩ := hs
  obtain ⟨G, hG, hm⟩ := h w B hl
  exact ⟨fun k => A k ∨ G k, fun k hk => (e k).2 (hk.imp id (hG k)), A, G, fun _ => Iff.rfl, fun k hA hk => d k hA (hG k hk), hc, hm⟩
theorem Sub.of_perm {l m n : List Chunk} (p : l.Perm m) (h : Sub m n) : Sub l n := fun w F hs => h w F (sep_perm p hs)
theorem Sub.c1 {c a : Chunk} {l m : List Chunk} (h : Sub (a :: l) m) : Sub (a :: c :: l) (c :: m) := .of_perm (pull_perm _ 1 c rfl) h.c0
theorem Sub.c2 {c a b : Chunk} {l m : List Chunk} (h : Sub (a :: b :: l) m) : Sub (a :: b :: c :: l) (c :: m) := .of_perm (pull_perm _ 2 c rfl) h.c0
theorem Sub.c3 {c a b d : Chunk} {l m : List Chunk} (h : Sub (a :: b :: d :: l) m) : Sub (a :: b :: d :: c :: l) (c :: m) := .of_perm (pull_perm _ 3 c rfl) h.c0
theorem Sub.c4 {c a b d e : Chunk} {l m : List Chunk} (h : Sub (a :: b :: d :: e :: l) m) : Sub (a :: b :: d :: e :: c :: l) (c :: m) := .of_perm (pull_perm _ 4 c rfl) h.c0
theorem Sub.c5 {c a b d e f : Chunk} {l m : List Chunk} (h : Sub (a :: b :: d :: e :: f :: l) m) : Sub (a :: b :: d :: e :: f :: c :: l) (c :: m) := .of_perm (pull_perm _ 5 c rfl) h.c0
theorem Sub.c6 {c a b d e f g : Chunk} {l m : List Chunk} (h : Sub (a :: b :: d :: e :: f :: g :: l) m) : Sub (a :: b :: d :: e :: f :: g :: c :: l) (c :: m) := .of_perm (pull_perm _ 6 c rfl) h.c0
theorem At.sub {l m : List Chunk} {w : World} (h : Sub l m) (H : At w l) : At w m := by
  obtain ⟨F, hF⟩ := H
  obtain ⟨G, _, hm⟩ := h w F hF
  exact ⟨G, hm⟩

section
variable {P : Program} {w : World} {ops : Array Oper} {rest : List Oper} {a : Act} {Q : Exit → Act → World → Prop} {dst : Option Tmp} {ty : TypeId} {pos : String} {af : Array Edge} {gd : Option (Nat × Bool)}

theorem run_isAgg_no {P : Program} {w : World} {T : TypeId} {d : TypeDesc} (hT : P.underlying T = some d) (hd : d.isRow = false) : (isAgg T).run P w = .ok false w := by
  unfold isAgg
  cases d <;> simp_all [run_underlying hT]

theorem run_load1 {P : Program} {w : World} {T : TypeId} {d : TypeDesc} (hT : P.underlying T = some d) (hd : d.isRow = false) {p : Addr} {v : Value} (hc : w.cell? p = some v) :
    (Instr.loadAt T (.pointer (some p))).run P w = .ok v w := by
  simp only [Instr.loadAt, Instr.sureAddr, loadVar, Sem.run_bind, Sem.run_pure, Result.andThen_ok, run_isAgg_no hT hd, Bool.false_eq_true, if_false, run_load, hc]

/-- A load of one cell. -/
theorem wpL_load {T : TypeId} {x : Operand} {d : TypeDesc} (hT : P.underlying T = some d) (hd : d.isRow = false) {p : Addr} {v : Value} (hx : a.eval x = .pointer (some p)) (hc : w.cell? p = some v)
    (hw : Region.wanted ⟨dst, .load T x, ty, pos, af, gd⟩ (yielded ops a.tmps) = true) (h : wpList P ops Q rest (a.put dst v) w) : wpList P ops Q (⟨dst, .load T x, ty, pos, af, gd⟩ :: rest) a w := by
  refine wpL_sem hw (v := v) (w' := w) ?_ h
  simp only [execOp, hx, Sem.run_bind, run_load1 hT hd hc, Result.andThen_ok, Sem.run_pure]

/-- A load of a struct's cells. -/
theorem wpL_loadN {T : TypeId} {x : Operand} {d : TypeDesc} (hT : P.underlying T = some d) (hd : d.isRow = true) {b o : Nat} {cs : List Value} (hi : (P.info? T).map (·.size) = some cs.length)
    (hx : a.eval x = .pointer (some ⟨b, o, none⟩)) (hc : w.rangeAt b o cs)
    (hw : Region.wanted ⟨dst, .load T x, ty, pos, af, gd⟩ (yielded ops a.tmps) = true) (h : wpList P ops Q rest (a.put dst (.agg cs.toArray)) w) : wpList P ops Q (⟨dst, .load T x, ty, pos, af, gd⟩ :: rest) a w := by
  refine wpL_sem hw (v := .agg cs.toArray) (w' := w) ?_ h
  simp only [execOp, hx, Sem.run_bind, run_loadAt_mid w b o T cs d hc hT hd hi, Result.andThen_ok, Sem.run_pure]

theorem At.range {b : Nat} {T : TypeId} {cs : List Value} {l : List Chunk} {w : World} (H : At w (objC b T cs :: l)) (i : Nat) (ds : List Value) (h : ∀ j v, ds[j]? = some v → cs[i + j]? = some v) : w.rangeAt b i ds :=
  fun j v hj => (H.cell (i + j)).trans (h j v hj)

theorem wpL_skip {o : Oper} (hw : Region.wanted o (yielded ops a.tmps) = true) {w' : World}
    (hr : (execOp a.eval o).run P w = .ok .skip w') (h : wpList P ops Q rest (a.put o.dst undef) w') : wpList P ops Q (o :: rest) a w := by
  refine BigFrame.wpList_want hw fun K hK => ?_
  unfold Oper.wp
  rw [hr]
  exact hK _ _ h

theorem run_store1 {P : Program} {w : World} {T : TypeId} (hs : (P.info? T).map (·.size) = some 1) {p : Addr} {u v : Value} (hv : v.cells = #[v]) (h1 : v.oneCell' = true) (hc : w.cell? p = some u) (hf : w.frozen? p = false) :
    (Instr.storeAt T (.pointer (some p)) v).run P w = .ok () (w.setCell p v) := by
  obtain ⟨inf, hi, hz⟩ : ∃ inf, P.info? T = some inf ∧ inf.size = 1 := by
    cases h : P.info? T with
    | none => simp [h] at hs
    | some inf => exact ⟨inf, rfl, by simpa [h] using hs⟩
  have ha : p.add 0 = p := by simp [Addr.add]
  have hst := run_store P w p v .plain h1
  rw [hc] at hst
  simp only [hf, Bool.false_eq_true, if_false] at hst
  simp only [Instr.storeAt, Instr.sureAddr, storeVar, Sem.run_bind, Sem.run_pure, Result.andThen_ok, sizeOf, typeInfo, hv]
  simp [hi, hz, storeCells, ha, hst]

/-- A store of one cell into an object. -/
theorem wpL_store {T : TypeId} {x y : Operand} (hs : (P.info? T).map (·.size) = some 1) {b i : Nat} {B : TypeId} {cs : List Value} {l : List Chunk} (hx : a.eval x = .pointer (some ⟨b, i, none⟩)) {v : Value} (hy : a.eval y = v) (hv : v.cells = #[v]) (h1 : v.oneCell' = true)
    (H : At w (objC b B cs :: l)) (hi : i < cs.length) (hw : Region.wanted ⟨none, .store T x y, ty, pos, af, gd⟩ (yielded ops a.tmps) = true)
    (h : ∀ w', At w' (objC b B (cs.set i v) :: l) → wpList P ops Q rest a w') : wpList P ops Q (⟨none, .store T x y, ty, pos, af, gd⟩ :: rest) a w := by
  refine wpL_skip hw (w' := w.setCell ⟨b, i, none⟩ v) ?_ (h _ (H.store i v))
  have := run_store1 (P := P) hs hv h1 ((H.cell i).trans (List.getElem?_eq_getElem hi)) (H.free i)
  simp only [execOp, hx, hy, Sem.run_bind, this, Result.andThen_ok, Sem.run_pure]

theorem At.storeRow {E : TypeId} {v : Value} {n : Nat} {xs : List Value} {l : List Chunk} {w : World} {ao : Option Addr} {cap : Nat} (hv : v = .slice ao n cap) (H : At w (rowC E 1 v n xs :: l)) (j : Nat) (hj : j < n) (u : Value) :
    w.cell? (adr ao j) = xs[j]? ∧ w.frozen? (adr ao j) = false ∧ At (w.setCell (adr ao j) u) (rowC E 1 v n (xs.set j u) :: l) := by
  subst hv
  have hrd := H.rd
  obtain ⟨A, hA⟩ := H.head
  obtain ⟨hF, hl, ⟨he, rfl⟩ | ⟨g, cap', cur, fz, he, hg, hfree, hnc, hcm, hcs, ht⟩⟩ := hA
  · omega
  cases he
  have hjc : j < cur.size := by omega
  have hj1 : n * 1 = n := by omega
  refine ⟨?_, ?_, ?_⟩
  · have hlt : j < xs.length := by omega
    rw [List.getElem?_eq_getElem hlt]
    exact hrd.cell hlt
  · have := hfree.cell j hjc
    obtain ⟨lo, hi⟩ := fz
    simp only [adr, blk, ofs, World.frozen?, hg, Nat.zero_add, Bool.and_eq_false_iff, decide_eq_false_iff_not]
    simp only at this
    omega
  · have hset : w.setCell (adr (some ⟨g, 0, none⟩) j) u = w.setRow g (cur.setIfInBounds j u) := by
      have := setCell_eq_setRow w g j cur E fz u hg
      simpa [adr, blk, ofs] using this
    rw [hset]
    refine H.step fun A hA => ⟨A, ⟨hA.1, by simpa using hl, .inr ⟨g, cap, _, fz, rfl, setRow_heap w g cur _ E _ hg, by simpa using hfree, hnc, hcm, by simpa using hcs, ?_⟩⟩, fun _ h => .inl h, (keeps_setRow w g _).mono fun k hk e => hk.2 ((hA.1 k).2 (by simp [Value.ownBlock, e]))⟩
    rw [Array.toList_setIfInBounds, List.take_set, ht]

/-- The mark of a row that was converted from a constant. -/
theorem At.mark {E size : Nat} {n cap : Nat} {ao : Option Addr} {xs : List Value} {l : List Chunk} {w : World} (h0 : 0 < n) (H : At w (rowC E size (.slice ao n cap) n xs :: l)) :
    ∃ g cur, ao = some ⟨g, 0, none⟩ ∧ (∃ fz, w.heap[g]? = some (.cells cur E fz)) ∧ At (w.freeze ⟨g, cur.size, none⟩ 1) (rowC E size (.slice ao n cap) n xs :: l) := by
  obtain ⟨A, hA⟩ := H.head
  obtain ⟨hF, hl, ⟨he, rfl⟩ | ⟨g, cap', cur, fz, he, hg, hfree, hnc, hcm, hcs, ht⟩⟩ := hA
  · omega
  cases he
  refine ⟨g, cur, rfl, ⟨fz, hg⟩, ?_⟩
  have hsz : (w.freeze ⟨g, cur.size, none⟩ 1).heap.size = w.heap.size := by simp [World.freeze]
  have hnew : (w.freeze ⟨g, cur.size, none⟩ 1).heap[g]? = some (.cells cur E (if fz.1 == fz.2 then (cur.size, cur.size + 1) else (min fz.1 cur.size, max fz.2 (cur.size + 1)))) := by
    simp [World.freeze, Array.getElem?_modify, hg]
  have hold : ∀ k, k ≠ g → (w.freeze ⟨g, cur.size, none⟩ 1).heap[k]? = w.heap[k]? := by
    intro k hk
    simp [World.freeze, Array.getElem?_modify, Ne.symm hk]
  refine H.step fun A hA => ⟨A, ⟨hA.1, hl, .inr ⟨g, cap, cur, _, rfl, hnew, ?_, hnc, hcm, hcs, ht⟩⟩, fun _ h => .inl h, ?_⟩
  · unfold Free at hfree ⊢
    split
    · exact .inr (Nat.le_refl _)
    · rename_i hne
      right
      have : fz.1 ≠ fz.2 := by simpa using hne
      have := hfree.resolve_left this
      simp only [Nat.min_eq_right this]
      exact Nat.le_refl _
  · refine ⟨rfl, rfl, rfl, by rw [hsz]; exact Nat.le_refl _, fun k hk => hold k fun e => hk.2 ((hA.1 k).2 (by simp [Value.ownBlock, e]))⟩
theorem run_convert_self (P : Program) (w : World) (t e g n cap : Nat) (cur : Array Value) (E : Nat) (fz : Nat × Nat) (ht : P.underlying t = some (.slice e)) (he : P.underlying e = some (.int .u8)) (hg : w.heap[g]? = some (.cells cur E fz)) :
    (convert t t (.slice (some ⟨g, 0, none⟩) n cap)).run P w = .ok (.slice (some ⟨g, 0, none⟩) n cap) (w.freeze ⟨g, cur.size, none⟩ 1) := by
  have hsh : w.shape? g = some (E, cur.size) := by unfold World.shape?; rw [hg]
  simp [convert, run_underlying ht, run_underlying he, markStringish, hsh]

/-- A store into an owned row. -/
theorem wpL_storeRow {T : TypeId} {x y : Operand} (hs : (P.info? T).map (·.size) = some 1) {E : TypeId} {ao : Option Addr} {n cap j : Nat} {xs : List Value} {l : List Chunk} (hx : a.eval x = .pointer (some (adr ao j))) {v : Value} (hy : a.eval y = v) (hv : v.cells = #[v]) (h1 : v.oneCell' = true)
    (H : At w (rowC E 1 (.slice ao n cap) n xs :: l)) (hj : j < n) (hw : Region.wanted ⟨none, .store T x y, ty, pos, af, gd⟩ (yielded ops a.tmps) = true)
    (h : ∀ w', At w' (rowC E 1 (.slice ao n cap) n (xs.set j v) :: l) → wpList P ops Q rest a w') : wpList P ops Q (⟨none, .store T x y, ty, pos, af, gd⟩ :: rest) a w := by
  obtain ⟨h2, h3, h4⟩ := H.storeRow rfl j hj v
  have hl := H.rowLen
  refine wpL_skip hw (w' := w.setCell (adr ao j) v) ?_ (h _ h4)
  have := run_store1 (P := P) hs hv h1 (h2.trans (List.getElem?_eq_getElem (by omega))) h3
  simp only [execOp, hx, hy, Sem.run_bind, this, Result.andThen_ok, Sem.run_pure]

/-- &T{..} -/
theorem wpL_box {T : TypeId} {x : Operand} {l : List Chunk} {v : Value} (hx : a.eval x = v) (cs : List Value) (hv : v.cells = cs.toArray) (H : At w l) (hw : Region.wanted ⟨dst, .box T x, ty, pos, af, gd⟩ (yielded ops a.tmps) = true)
    (h : ∀ b w', At w' (objC b T cs :: l) → wpList P ops Q rest (a.put dst (.pointer (some ⟨b, 0, none⟩))) w') : wpList P ops Q (⟨dst, .box T x, ty, pos, af, gd⟩ :: rest) a w := by
  refine wpL_sem hw (v := .pointer (some ⟨w.heap.size, 0, none⟩)) (w' := w.alloc (.cells cs.toArray T)) ?_ (h _ _ (H.allocObj cs T))
  simp [execOp, hx, Instr.box, newVar, newRow, hv]

/-- new(T), or a variable whose address is taken -/
theorem wpL_alloc {T : TypeId} {l : List Chunk} {i : TypeInfo} {z : Value} (hi : P.info? T = some i) (hz : i.zero = some z) (cs : List Value) (hv : z.cells = cs.toArray) (H : At w l) (hw : Region.wanted ⟨dst, .alloc T, ty, pos, af, gd⟩ (yielded ops a.tmps) = true)
    (h : ∀ b w', At w' (objC b T cs :: l) → wpList P ops Q rest (a.put dst (.pointer (some ⟨b, 0, none⟩))) w') : wpList P ops Q (⟨dst, .alloc T, ty, pos, af, gd⟩ :: rest) a w := by
  refine wpL_sem hw (v := .pointer (some ⟨w.heap.size, 0, none⟩)) (w' := w.alloc (.cells cs.toArray T)) ?_ (h _ _ (H.allocObj cs T))
  simp [execOp, Instr.alloc, newVar, newRow, hv, zeroValue, typeInfo, hi, hz]

theorem madeCells_one (z : Value) (n : Nat) : (madeCells #[z] n).toList = List.replicate n z := by
  simp only [madeCells, Array.toList_map, Array.toList_range, List.size_toArray, List.length_cons, List.length_nil, Nat.zero_add, Nat.mod_one]
  simp [List.map_const']

/-- make([]E, n), one cell an element -/
theorem wpL_make {T E : TypeId} {x y : Operand} {l : List Chunk} (ht : P.underlying T = some (.slice E)) {i : TypeInfo} {z : Value} {bytes : Nat} (hi : P.info? E = some i) (hz : i.zero = some z) (hsize : i.size = 1) (hby : i.bytes = bytes) (hzc : z.cells = #[z]) (n : Nat) {k1 k2 : IntKind} {m1 m2 : Int}
    (hx : a.eval x = .int k1 m1) (hy : a.eval y = .int k2 m2) (e1 : m1 = n) (e2 : m2 = n) (hb : bytes * n ≤ 281474976710656) (hm : n ≤ maxLen) (H : At w l)
    (hw : Region.wanted ⟨dst, .makeSlice T x y, ty, pos, af, gd⟩ (yielded ops a.tmps) = true)
    (h : ∀ v w', At w' (rowC E 1 v n (List.replicate n z) :: l) → wpList P ops Q rest (a.put dst v) w') : wpList P ops Q (⟨dst, .makeSlice T x y, ty, pos, af, gd⟩ :: rest) a w := by
  subst e1 e2 hby
  have hr := run_make (P := P) w T E i z ht hi hz k1 k2 n n (by omega) (Int.le_refl _) (by have : ((i.bytes * n : Nat) : Int) ≤ 281474976710656 := by omega
                                                                                           rwa [Int.natCast_mul] at this) (by unfold maxLen at hm; omega)
  rw [hsize, Nat.mul_one, hzc] at hr
  have hA := H.allocRow E 1 n (madeCells #[z] n) (0, 0) (by simp [size_madeCells]) hm (free_zero _)
  rw [madeCells_one] at hA
  simp only [Int.toNat_natCast] at hr hA
  exact wpL_sem hw (by simp only [execOp, hx, hy, Sem.run_bind, hr, Result.andThen_ok, Sem.run_pure]) (h _ _ hA)

/-- []E{..}: what the kit's own laws say it comes to. -/
theorem wpL_buildSlice {T E : TypeId} {n : Nat} {parts : Array (Nat × Operand)} {l : List Chunk} (size : Nat) {cs : List Value} (hlen : cs.length = n * size) (hm : n ≤ maxLen)
    (hr : (Instr.buildSlice T n (parts.map fun (i, x) => (i, a.eval x))).run P w = .ok (.slice (some ⟨w.heap.size, 0, none⟩) n n) (w.alloc (.cells cs.toArray E))) (H : At w l)
    (hw : Region.wanted ⟨dst, .buildSlice T n parts, ty, pos, af, gd⟩ (yielded ops a.tmps) = true)
    (h : ∀ v w', At w' (rowC E size v n cs :: l) → wpList P ops Q rest (a.put dst v) w') : wpList P ops Q (⟨dst, .buildSlice T n parts, ty, pos, af, gd⟩ :: rest) a w := by
  have hA := H.allocRow E size n cs.toArray (0, 0) (by simpa using hlen) hm (free_zero _)
  exact wpL_sem hw (by simp only [execOp, Sem.run_bind, hr, Result.andThen_ok, Sem.run_pure]) (h _ _ hA)

theorem fill_ones : ∀ (vs : List Value) (k : Nat) (cells : Array Value), (∀ v ∈ vs, v.cells = #[v]) → k + vs.length ≤ cells.size →
    Instr.fill (fun i => some (i * 1, 1)) cells (vs.zipIdx k |>.map fun p => (p.2, p.1)) = some (cells.toList.take k ++ vs ++ cells.toList.drop (k + vs.length)).toArray
  | [], k, cells, _, _ => by simp [Instr.fill]
  | v :: vs, k, cells, h1, hk => by
    have hv := h1 v (by simp)
    have hk' : k + 1 ≤ cells.size := by simp at hk; omega
    have ih := fill_ones vs (k + 1) (cells.setIfInBounds k v) (fun u hu => h1 u (by simp [hu])) (by simp at hk ⊢; omega)
    simp only [List.zipIdx_cons, List.map_cons, Instr.fill, hv]
    have c1 : ¬ (((#[v] : Array Value).size ≠ 1 || k * 1 + (#[v] : Array Value).size > cells.size) = true) := by simp; omega
    rw [if_neg c1]
    have e1 : (Array.foldl (fun cs x => match x with | (c, j) => cs.setIfInBounds (k * 1 + j) c) cells (#[v] : Array Value).zipIdx) = cells.setIfInBounds k v := by simp
    rw [e1, ih]
    congr 2
    have e := list_seg_step cells.toList k v vs (by simp at hk ⊢; omega)
    simpa [Array.toList_setIfInBounds, Nat.add_assoc] using e

theorem run_buildSlice1 {P : Program} {w : World} {T E : TypeId} (ht : P.underlying T = some (.slice E)) {i : TypeInfo} {z : Value} (hi : P.info? E = some i) (hz : i.zero = some z) (hsize : i.size = 1) (vs : List Value) (h1 : ∀ v ∈ vs, v.cells = #[v]) (hb : vs.length ≤ 16777216) :
    (Instr.buildSlice T vs.length (vs.zipIdx.map fun p => (p.2, p.1)).toArray).run P w = .ok (.slice (some ⟨w.heap.size, 0, none⟩) vs.length vs.length) (w.alloc (.cells vs.toArray E)) := by
  have hb' : ¬ (16777216 < vs.length) := by omega
  have hf : ∀ cells : Array Value, cells.size = vs.length → Instr.fill (fun i => some (i * 1, 1)) cells (vs.zipIdx.map fun p => (p.2, p.1)) = some vs.toArray := by
    intro cells hc
    have := fill_ones vs 0 cells h1 (by omega)
    rw [this]
    have hd : List.drop (0 + vs.length) cells.toList = [] := List.drop_eq_nil_of_le (by simp [hc])
    simp [hc]
  by_cases h0 : vs.length = 0
  · have e : vs = [] := List.eq_nil_of_length_eq_zero h0
    subst e
    simp [Instr.buildSlice, run_underlying ht, sizeOf, typeInfo, hi, newRow, Instr.fill]
    congr 2
    apply Array.ext'
    simp
  · have hf' := hf ((Array.range vs.length).map (z.cells[· % z.cells.size]!)) (by simp)
    simp only [Instr.buildSlice, run_underlying ht, sizeOf, typeInfo, zeroValue, Sem.run_bind, Sem.run_pure, Result.andThen_ok]
    simp only [Nat.mul_one] at hf'
    simp [hi, hz, hsize, hb', h0, hf', newRow]

/-- []E{v, ..}: one cell an element, all said. -/
theorem wpL_row {T E : TypeId} {n : Nat} {parts : Array (Nat × Operand)} {l : List Chunk} (ht : P.underlying T = some (.slice E)) {i : TypeInfo} {z : Value} (hi : P.info? E = some i) (hz : i.zero = some z) (hsize : i.size = 1)
    (vs : List Value) (hp : (parts.map fun (i, x) => (i, a.eval x)) = (vs.zipIdx.map fun p => (p.2, p.1)).toArray) (hn : n = vs.length) (h1 : ∀ v ∈ vs, v.cells = #[v]) (hb : vs.length ≤ 16777216) (H : At w l)
    (hw : Region.wanted ⟨dst, .buildSlice T n parts, ty, pos, af, gd⟩ (yielded ops a.tmps) = true)
    (h : ∀ v w', At w' (rowC E 1 v n vs :: l) → wpList P ops Q rest (a.put dst v) w') : wpList P ops Q (⟨dst, .buildSlice T n parts, ty, pos, af, gd⟩ :: rest) a w := by
  subst hn
  exact wpL_buildSlice 1 (by simp) (by unfold maxLen; omega) (by rw [hp]; exact run_buildSlice1 ht hi hz hsize vs h1 hb) H hw h

/-- A byte of what reads. -/
theorem Rd.at_ {ao : Option Addr} {n cap j : Nat} {bs : List UInt8} {c : UInt8} (h : Rd w 1 (.slice ao n cap) n (bvs bs)) (hc : bs[j]? = some c) : w.cell? (adr ao j) = some (.int .u8 (c.toNat : Int)) := by
  have hj := (List.getElem?_eq_some_iff.1 hc).1
  have := h.cell (j := j) (by simpa using hj)
  rw [this]
  congr 1
  have h2 : (bvs bs)[j]? = some (bv c) := by rw [bvs_getElem?, hc]; rfl
  rw [List.getElem?_eq_getElem (by simpa using hj)] at h2
  exact Option.some.inj h2
theorem Rd.lt {ao : Option Addr} {n cap j : Nat} {bs : List UInt8} {c : UInt8} (h : Rd w 1 (.slice ao n cap) n (bvs bs)) (hc : bs[j]? = some c) : j < n := by
  have h1 := (List.getElem?_eq_some_iff.1 hc).1
  have h2 := h.len
  simp at h2
  omega
theorem Rd.sp {ao : Option Addr} {n cap j : Nat} {bs : List UInt8} {c : UInt8} (h : Rd w 1 (.slice ao n cap) n (bvs bs)) (hc : bs[j]? = some c) : ∃ a, ao = some a ∧ a.spot = none :=
  h.spot (j := j) (by simpa using (List.getElem?_eq_some_iff.1 hc).1)
theorem Rd.nbytes {v : Value} {n : Nat} {bs : List UInt8} (h : Rd w 1 v n (bvs bs)) : bs.length = n := by simpa using h.len

/-- bs[j], j said by what stands there. -/
theorem wpL_byteAt {T E : TypeId} {x ix : Operand} (ht : P.underlying T = some (.slice E)) (hs : (P.info? E).map (·.size) = some 1) {ao : Option Addr} {n cap : Nat} {k : IntKind} {i : Int} {bs : List UInt8} {j : Nat} {c : UInt8} (hc : bs[j]? = some c)
    (hx : a.eval x = .slice ao n cap) (hi : a.eval ix = .int k i) (hr : Rd w 1 (.slice ao n cap) n (bvs bs)) (hij : i = j)
    (hw : Region.wanted ⟨dst, .indexAddr T x ix, ty, pos, af, gd⟩ (yielded ops a.tmps) = true) (h : wpList P ops Q rest (a.put dst (.pointer (some (adr ao j)))) w) :
    wpList P ops Q (⟨dst, .indexAddr T x ix, ty, pos, af, gd⟩ :: rest) a w :=
  wpL_index1 ht hs j hx hi hij (hr.lt hc) (hr.sp hc) hw h
/-- xs[j], one cell an element, the cell said. -/
theorem wpL_cellAt {T E : TypeId} {x ix : Operand} (ht : P.underlying T = some (.slice E)) (hs : (P.info? E).map (·.size) = some 1) {ao : Option Addr} {n cap : Nat} {k : IntKind} {i : Int} {cs : List Value} {j : Nat} {u : Value} (hc : cs[j]? = some u)
    (hx : a.eval x = .slice ao n cap) (hi : a.eval ix = .int k i) (hr : Rd w 1 (.slice ao n cap) n cs) (hij : i = j)
    (hw : Region.wanted ⟨dst, .indexAddr T x ix, ty, pos, af, gd⟩ (yielded ops a.tmps) = true) (h : wpList P ops Q rest (a.put dst (.pointer (some (adr ao j)))) w) :
    wpList P ops Q (⟨dst, .indexAddr T x ix, ty, pos, af, gd⟩ :: rest) a w := by
  have h1 := (List.getElem?_eq_some_iff.1 hc).1
  have h2 := hr.len
  exact wpL_index1 ht hs j hx hi hij (by omega) (hr.spot h1) hw h
theorem Rd.cat {ao : Option Addr} {n cap size j : Nat} {cs : List Value} {u : Value} (h : Rd w size (.slice ao n cap) n cs) (hc : cs[j]? = some u) : w.cell? (adr ao j) = some u := by
  have h1 := (List.getElem?_eq_some_iff.1 hc).1
  rw [h.cell h1, ← hc, List.getElem?_eq_getElem h1]

/-- append of bytes. -/
theorem wpL_appendB {s x : Operand} {t u E : TypeId} {l : List Chunk} (ht : P.underlying t = some (.slice E)) {ud : TypeDesc} (hu : P.underlying u = some ud) (hud : ∀ k, ud ≠ .int k)
    (hinfo : (P.info? E).map (fun i => (i.zero, i.size, i.bytes)) = some (some (.int .u8 0), 1, 1))
    {ao : Option Addr} {n cap : Nat} {bs : List UInt8} (hs : a.eval s = .slice ao n cap) {xv : Value} {m : Nat} {cs : List UInt8} (hx : a.eval x = xv) (H : At w (rowC E 1 (.slice ao n cap) n (bvs bs) :: l)) (hsrc : Src P w 1 xv m (bvs cs))
    (h63 : n + m ≤ 140737488355328)
    (hw : Region.wanted ⟨dst, .call { callee := .builtin .append, args := #[s, x], argTypes := #[t, u] }, ty, pos, af, gd⟩ (yielded ops a.tmps) = true)
    (h : ∀ ao' cap' w', n + m ≤ cap' → At w' (rowC E 1 (.slice ao' (n + m) cap') (n + m) (bvs (bs ++ cs)) :: l) → wpList P ops Q rest (a.put dst (.slice ao' (n + m) cap')) w') :
    wpList P ops Q (⟨dst, .call { callee := .builtin .append, args := #[s, x], argTypes := #[t, u] }, ty, pos, af, gd⟩ :: rest) a w := by
  obtain ⟨i0, hi, hz⟩ := Option.map_eq_some_iff.1 hinfo
  simp only [Prod.mk.injEq] at hz
  obtain ⟨hz0, hz1, hz2⟩ := hz
  refine wpL_append s x t u E i0 (.int .u8 0) 1 1 ht hu hud hi hz0 hz1 hz2 rfl _ n (bvs bs) hs H xv m (bvs cs) hx hsrc (bvs_one cs) (by unfold maxLen; omega) (by omega) hw ?_
  intro v' w' H'
  rw [← bvs_append] at H'
  obtain ⟨ao', cap', hv, hcap, _⟩ := H'.rd
  subst hv
  exact h _ _ _ hcap H'

/-- append of anything. -/
theorem wpL_appendV {s x : Operand} {t u E : TypeId} {l : List Chunk} {z : Value} {size bytes : Nat} (ht : P.underlying t = some (.slice E)) {ud : TypeDesc} (hu : P.underlying u = some ud) (hud : ∀ k, ud ≠ .int k)
    (hinfo : (P.info? E).map (fun i => (i.zero, i.size, i.bytes)) = some (some z, size, bytes)) (hzs : z.cells.size = size)
    {ao : Option Addr} {n cap : Nat} {bs : List Value} (hs : a.eval s = .slice ao n cap) {xv : Value} {m : Nat} {cs : List Value} (hx : a.eval x = xv) (H : At w (rowC E size (.slice ao n cap) n bs :: l)) (hsrc : Src P w size xv m cs)
    (h1 : ∀ u ∈ cs, u.oneCell' = true) (h63 : (n + m) ≤ 1000000000) (hby : bytes ≤ 100000)
    (hw : Region.wanted ⟨dst, .call { callee := .builtin .append, args := #[s, x], argTypes := #[t, u] }, ty, pos, af, gd⟩ (yielded ops a.tmps) = true)
    (h : ∀ ao' cap' w', n + m ≤ cap' → At w' (rowC E size (.slice ao' (n + m) cap') (n + m) (bs ++ cs) :: l) → wpList P ops Q rest (a.put dst (.slice ao' (n + m) cap')) w') :
    wpList P ops Q (⟨dst, .call { callee := .builtin .append, args := #[s, x], argTypes := #[t, u] }, ty, pos, af, gd⟩ :: rest) a w := by
  obtain ⟨i0, hi, hz⟩ := Option.map_eq_some_iff.1 hinfo
  simp only [Prod.mk.injEq] at hz
  obtain ⟨hz0, hz1, hz2⟩ := hz
  have hmul : (n + m) * bytes ≤ 1000000000 * 100000 := Nat.mul_le_mul h63 hby
  refine wpL_append s x t u E i0 z size bytes ht hu hud hi hz0 hz1 hz2 hzs _ n bs hs H xv m cs hx hsrc h1 (by unfold maxLen; omega) (by omega) hw ?_
  intro v' w' H'
  obtain ⟨ao', cap', hv, hcap, _⟩ := H'.rd
  subst hv
  exact h _ _ _ hcap H'

/-- make, a row said by its places. -/
theorem wpL_makeV {T E : TypeId} {x y : Operand} {l : List Chunk} (ht : P.underlying T = some (.slice E)) {z : Value} {bytes : Nat} (hinfo : (P.info? E).map (fun i => (i.zero, i.size, i.bytes)) = some (some z, 1, bytes)) (hzc : z.cells = #[z]) (n : Nat) {k1 k2 : IntKind} {m1 m2 : Int}
    (hx : a.eval x = .int k1 m1) (hy : a.eval y = .int k2 m2) (e1 : m1 = n) (e2 : m2 = n) (hb : bytes * n ≤ 281474976710656) (hm : n ≤ maxLen) (H : At w l)
    (hw : Region.wanted ⟨dst, .makeSlice T x y, ty, pos, af, gd⟩ (yielded ops a.tmps) = true)
    (h : ∀ ao cap w', n ≤ cap → At w' (rowC E 1 (.slice ao n cap) n (List.replicate n z) :: l) → wpList P ops Q rest (a.put dst (.slice ao n cap)) w') : wpList P ops Q (⟨dst, .makeSlice T x y, ty, pos, af, gd⟩ :: rest) a w := by
  obtain ⟨i0, hi, hz⟩ := Option.map_eq_some_iff.1 hinfo
  simp only [Prod.mk.injEq] at hz
  obtain ⟨hz0, hz1, hz2⟩ := hz
  refine wpL_make ht hi hz0 hz1 hz2 hzc n hx hy e1 e2 hb hm H hw ?_
  intro v w' H'
  obtain ⟨ao, cap, hv, hcap, _⟩ := H'.rd
  subst hv
  exact h _ _ _ hcap H'

theorem wpL_rowV {T E : TypeId} {n : Nat} {ps : List (Nat × Operand)} {l : List Chunk} (ht : P.underlying T = some (.slice E)) {z : Value} {bytes : Nat} (hinfo : (P.info? E).map (fun i => (i.zero, i.size, i.bytes)) = some (some z, 1, bytes))
    (vs : List Value) (hp : (ps.map fun p => (p.1, a.eval p.2)) = vs.zipIdx.map fun p => (p.2, p.1)) (hn : n = vs.length) (h1 : ∀ v ∈ vs, v.cells = #[v]) (hb : vs.length ≤ 16777216) (H : At w l)
    (hw : Region.wanted ⟨dst, .buildSlice T n ps.toArray, ty, pos, af, gd⟩ (yielded ops a.tmps) = true)
    (h : ∀ ao cap w', n ≤ cap → At w' (rowC E 1 (.slice ao n cap) n vs :: l) → wpList P ops Q rest (a.put dst (.slice ao n cap)) w') : wpList P ops Q (⟨dst, .buildSlice T n ps.toArray, ty, pos, af, gd⟩ :: rest) a w := by
  obtain ⟨i0, hi, hz⟩ := Option.map_eq_some_iff.1 hinfo
  simp only [Prod.mk.injEq] at hz
  obtain ⟨hz0, hz1, hz2⟩ := hz
  refine wpL_row ht hi hz0 hz1 vs (by rw [← hp]; simp) hn h1 hb H hw ?_
  intro v w' H'
  obtain ⟨ao, cap, hv, hcap, _⟩ := H'.rd
  subst hv
  exact h _ _ _ hcap H'

/-- []byte(s) -/
theorem wpL_bytesV {l : List Chunk} {src D E : TypeId} {x : Operand} {u : TypeDesc} (hs : P.underlying src = some u) (hd : P.underlying D = some (.slice E)) (he : P.underlying E = some (.int .u8)) {s : List UInt8} (hx : a.eval x = .string (S s)) (hm : s.length ≤ maxLen) (H : At w l)
    (hw : Region.wanted ⟨dst, .convert src D x, ty, pos, af, gd⟩ (yielded ops a.tmps) = true)
    (hk : ∀ ao cap w', s.length ≤ cap → At w' (rowC E 1 (.slice ao s.length cap) s.length (bvs s) :: l) → wpList P ops Q rest (a.put dst (.slice ao s.length cap)) w') : wpList P ops Q (⟨dst, .convert src D x, ty, pos, af, gd⟩ :: rest) a w := by
  refine wpL_bytes hs hd he hx (by simpa using hm) H hw ?_
  intro v w' H'
  simp only [S_size, S_toList] at H'
  obtain ⟨ao, cap, hv, hcap, _⟩ := H'.rd
  subst hv
  exact hk _ _ _ hcap H'

/-- bs[l:h] -/
theorem wpL_cut {T E : TypeId} {x : Operand} {lo hi : Option Operand} (ht : P.underlying T = some (.slice E)) (hs : (P.info? E).map (·.size) = some 1) {D : World → Prop} {ao : Option Addr} {n cap : Nat} {bs : List UInt8} (l h : Nat)
    (hx : a.eval x = .slice ao n cap) (hr : ∀ w', D w' → Rd w' 1 (.slice ao n cap) n (bvs bs)) (hcap : n ≤ cap)
    (hlo : (lo.map a.eval = none ∧ l = 0) ∨ ∃ k i, lo.map a.eval = some (.int k i) ∧ i = l) (hhi : (hi.map a.eval = none ∧ h = n) ∨ ∃ k i, hi.map a.eval = some (.int k i) ∧ i = h) (hlh : l ≤ h) (hn : h ≤ n)
    (hw : Region.wanted ⟨dst, .slice T x lo hi none, ty, pos, af, gd⟩ (yielded ops a.tmps) = true)
    (hk : ∀ ao' cap', h - l ≤ cap' → (∀ w', D w' → Rd w' 1 (.slice ao' (h - l) cap') (h - l) (bvs ((bs.drop l).take (h - l)))) → wpList P ops Q rest (a.put dst (.slice ao' (h - l) cap')) w) :
    wpList P ops Q (⟨dst, .slice T x lo hi none, ty, pos, af, gd⟩ :: rest) a w := by
  refine wpL_slice ht hs l h hr hcap hx ?_ ?_ hlh hn hw ?_
  · rcases hlo with h1 | ⟨k, i, h1, rfl⟩
    · exact .inl h1
    · exact .inr ⟨k, h1⟩
  · rcases hhi with h1 | ⟨k, i, h1, rfl⟩
    · exact .inl h1
    · exact .inr ⟨k, h1⟩
  · intro ao' cap' hc hR
    refine hk ao' cap' hc fun w' hw' => ?_
    have := hR w' hw'
    simpa [bvs, List.map_drop, List.map_take] using this

/-- A guard that is not decided: both ways. -/
theorem guard_both {b : Bool} {j : Nat} {ys : Nat → Option Bool} {G : Prop} (_hv : ys j = some b) (ht : b = true → G) (hf : b = false → G) : G := by
  cases b
  · exact hf rfl
  · exact ht rfl
end
end Go.Sep
