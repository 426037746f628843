/- Single reads, said once for the three kinds of walk (in order, still, mixed). -/
import Derived.Test.YtjapkdcomcgamaaGreatDoorMix
import Derived.Lib.SliceRun
set_option linter.all false
namespace Go.Sep
open Go
section
variable {P : Program} {w : World} {ops : Array Oper} {a : Act} {dst : Option Tmp} {ty : TypeId} {pos : String} {af : Array Edge} {gd : Option (Nat × Bool)}

theorem ex_load {T : TypeId} {x : Operand} {d : TypeDesc} (hT : P.underlying T = some d) (hd : d.isRow = false) {p : Addr} {v : Value} (hx : a.eval x = .pointer (some p)) (hc : w.cell? p = some v) :
    (execOp a.eval ⟨dst, .load T x, ty, pos, af, gd⟩).run P w = .ok (.value v) w := by
  simp only [execOp, hx, Sem.run_bind, run_load1 hT hd hc, Result.andThen_ok, Sem.run_pure]
theorem ex_loadN {T : TypeId} {x : Operand} {d : TypeDesc} (hT : P.underlying T = some d) (hd : d.isRow = true) {b o : Nat} {cs : List Value} (hi : (P.info? T).map (·.size) = some cs.length)
    (hx : a.eval x = .pointer (some ⟨b, o, none⟩)) (hc : w.rangeAt b o cs) : (execOp a.eval ⟨dst, .load T x, ty, pos, af, gd⟩).run P w = .ok (.value (.agg cs.toArray)) w := by
  simp only [execOp, hx, Sem.run_bind, run_loadAt_mid w b o T cs d hc hT hd hi, Result.andThen_ok, Sem.run_pure]
theorem ex_index {T E size : Nat} {x ix : Operand} (ht : P.underlying T = some (.slice E)) (hs : (P.info? E).map (·.size) = some size) (j : Nat) {ao : Option Addr} {n cap : Nat} {k : IntKind} {i : Int} (hx : a.eval x = .slice ao n cap) (hi : a.eval ix = .int k i)
    (hij : i = j) (h1 : j < n) (hsp : ∃ a, ao = some a ∧ a.spot = none) : (execOp a.eval ⟨dst, .indexAddr T x ix, ty, pos, af, gd⟩).run P w = .ok (.value (.pointer (some (adr ao (j * size))))) w := by
  subst hij
  have := run_indexAt (w := w) ht hs ao n cap k (j : Int) (by omega) (by omega) hsp
  simp only [execOp, hx, hi, Sem.run_bind, this, Result.andThen_ok, Sem.run_pure, Int.toNat_natCast]
theorem ex_byteAt {T E : TypeId} {x ix : Operand} (ht : P.underlying T = some (.slice E)) (hs : (P.info? E).map (·.size) = some 1) {ao : Option Addr} {n cap : Nat} {k : IntKind} {i : Int} {bs : List UInt8} {j : Nat} {c : UInt8} (hc : bs[j]? = some c)
    (hx : a.eval x = .slice ao n cap) (hi : a.eval ix = .int k i) (hr : Rd w 1 (.slice ao n cap) n (bvs bs)) (hij : i = j) :
    (execOp a.eval ⟨dst, .indexAddr T x ix, ty, pos, af, gd⟩).run P w = .ok (.value (.pointer (some (adr ao j)))) w := by
  have := ex_index (w := w) (dst := dst) (ty := ty) (pos := pos) (af := af) (gd := gd) ht hs j hx hi hij (hr.lt hc) (hr.sp hc)
  rwa [Nat.mul_one] at this
theorem ex_cellAt {T E : TypeId} {x ix : Operand} (ht : P.underlying T = some (.slice E)) (hs : (P.info? E).map (·.size) = some 1) {ao : Option Addr} {n cap : Nat} {k : IntKind} {i : Int} {cs : List Value} {j : Nat} {u : Value} (hc : cs[j]? = some u)
    (hx : a.eval x = .slice ao n cap) (hi : a.eval ix = .int k i) (hr : Rd w 1 (.slice ao n cap) n cs) (hij : i = j) :
    (execOp a.eval ⟨dst, .indexAddr T x ix, ty, pos, af, gd⟩).run P w = .ok (.value (.pointer (some (adr ao j)))) w := by
  have h1 := (List.getElem?_eq_some_iff.1 hc).1
  have h2 := hr.len
  have := ex_index (w := w) (dst := dst) (ty := ty) (pos := pos) (af := af) (gd := gd) ht hs j hx hi hij (by omega) (hr.spot h1)
  rwa [Nat.mul_one] at this
theorem ex_string {src D E : TypeId} {x : Operand} (hs : P.underlying src = some (.slice E)) (he : P.underlying E = some (.int .u8)) (hd : P.underlying D = some .string) {v : Value} {n : Nat} {bs : List UInt8} (hx : a.eval x = v) (h : Rd w 1 v n (bvs bs)) :
    (execOp a.eval ⟨dst, .convert src D x, ty, pos, af, gd⟩).run P w = .ok (.value (.string (S bs))) w := by
  simp only [execOp, hx, Sem.run_bind, run_string_of hs he hd h, Result.andThen_ok, Sem.run_pure]
theorem ex_strIndex {T : TypeId} {x ix : Operand} (ht : P.underlying T = some .string) {l : List UInt8} {j : Nat} {c : UInt8} (hc : l[j]? = some c) {k : IntKind} {i : Int} (hx : a.eval x = .string (S l)) (hi : a.eval ix = .int k i) (hij : i = j) :
    (execOp a.eval ⟨dst, .index T x ix, ty, pos, af, gd⟩).run P w = .ok (.value (.int .u8 (c.toNat : Int))) w := by
  subst hij
  simp only [execOp, hx, hi, Sem.run_bind, run_strIndex ht l k j c hc, Result.andThen_ok, Sem.run_pure]
  rfl
theorem ex_strCut {T : TypeId} {x : Operand} {lo hi : Option Operand} (ht : P.underlying T = some .string) {l : List UInt8} (m h : Nat) (hx : a.eval x = .string (S l))
    (hlo : (lo.map a.eval = none ∧ m = 0) ∨ ∃ k i, lo.map a.eval = some (.int k i) ∧ i = m) (hhi : (hi.map a.eval = none ∧ h = l.length) ∨ ∃ k i, hi.map a.eval = some (.int k i) ∧ i = h) (hlh : m ≤ h) (hn : h ≤ l.length) :
    (execOp a.eval ⟨dst, .slice T x lo hi none, ty, pos, af, gd⟩).run P w = .ok (.value (.string (S ((l.drop m).take (h - m))))) w := by
  have hlh' : (m : Int) ≤ h := by omega
  have hn' : (h : Int) ≤ l.length := by omega
  rcases hlo with ⟨e1, rfl⟩ | ⟨k, i, e1, rfl⟩ <;> rcases hhi with ⟨e2, rfl⟩ | ⟨k', i', e2, rfl⟩ <;>
    simp [execOp, hx, e1, e2, Instr.sliceAt, Instr.slice, Instr.sliceBounds, Instr.sliceBound, asIntOf, run_underlying ht, hlh, hn, S_extract]
theorem ex_cut {T E size : Nat} {x : Operand} {lo hi : Option Operand} (ht : P.underlying T = some (.slice E)) (hs : (P.info? E).map (·.size) = some size) {ao : Option Addr} {n cap : Nat} (l h : Nat) (hcap : n ≤ cap) (hx : a.eval x = .slice ao n cap)
    (hlo : (lo.map a.eval = none ∧ l = 0) ∨ ∃ k i, lo.map a.eval = some (.int k i) ∧ i = l) (hhi : (hi.map a.eval = none ∧ h = n) ∨ ∃ k i, hi.map a.eval = some (.int k i) ∧ i = h) (hlh : l ≤ h) (hn : h ≤ n) :
    (execOp a.eval ⟨dst, .slice T x lo hi none, ty, pos, af, gd⟩).run P w = .ok (.value (sub (.slice ao n cap) size l h)) w := by
  have h1 : (lo.map a.eval = none ∧ l = 0) ∨ ∃ k, lo.map a.eval = some (.int k l) := by
    rcases hlo with h | ⟨k, i, e, rfl⟩
    · exact .inl h
    · exact .inr ⟨k, e⟩
  have h2 : (hi.map a.eval = none ∧ h = n) ∨ ∃ k, hi.map a.eval = some (.int k h) := by
    rcases hhi with h | ⟨k, i, e, rfl⟩
    · exact .inl h
    · exact .inr ⟨k, e⟩
  simp only [execOp, hx, Option.map_none, Sem.run_bind, run_sliceAt ht hs ao n cap l h hcap h1 h2 hlh hn, Result.andThen_ok, Sem.run_pure]

theorem cut_fam {D : World → Prop} {ao : Option Addr} {n cap : Nat} {bs : List UInt8} (hr : ∀ w', D w' → Rd w' 1 (.slice ao n cap) n (bvs bs)) (hcap : n ≤ cap) {l h : Nat} (hlh : l ≤ h) (hn : h ≤ n) :
    ∃ ao' cap', sub (.slice ao n cap) 1 l h = .slice ao' (h - l) cap' ∧ h - l ≤ cap' ∧ ∀ w', D w' → Rd w' 1 (.slice ao' (h - l) cap') (h - l) (bvs ((bs.drop l).take (h - l))) := by
  refine ⟨_, _, rfl, by omega, fun w' hw' => ?_⟩
  have := (hr w' hw').sub hlh hn
  simpa [bvs, List.map_drop, List.map_take, Sep.sub] using this

/-- bs[l:h], in the three kinds of walk: 'next' is what follows. -/
theorem cut_next {T E : Nat} {x : Operand} {lo hi : Option Operand} (ht : P.underlying T = some (.slice E)) (hs : (P.info? E).map (·.size) = some 1) {D : World → Prop} {ao : Option Addr} {n cap : Nat} {bs : List UInt8} (l h : Nat)
    (hr : ∀ w', D w' → Rd w' 1 (.slice ao n cap) n (bvs bs)) (hcap : n ≤ cap) (hx : a.eval x = .slice ao n cap)
    (hlo : (lo.map a.eval = none ∧ l = 0) ∨ ∃ k i, lo.map a.eval = some (.int k i) ∧ i = l) (hhi : (hi.map a.eval = none ∧ h = n) ∨ ∃ k i, hi.map a.eval = some (.int k i) ∧ i = h) (hlh : l ≤ h) (hn : h ≤ n) {G : Prop}
    (hk : ∀ ao' cap', (∀ w, (execOp a.eval ⟨dst, .slice T x lo hi none, ty, pos, af, gd⟩).run P w = .ok (.value (.slice ao' (h - l) cap')) w) → h - l ≤ cap' →
      (∀ w', D w' → Rd w' 1 (.slice ao' (h - l) cap') (h - l) (bvs ((bs.drop l).take (h - l)))) → G) : G := by
  obtain ⟨ao', cap', e, hc, hR⟩ := cut_fam hr hcap hlh hn
  refine hk ao' cap' (fun w => ?_) hc hR
  rw [← e]
  exact ex_cut ht hs l h hcap hx hlo hhi hlh hn

theorem ex_eqlNil_some {T E : TypeId} {x y : Operand} {u : TypeId} (ht : P.underlying T = some (.slice E)) {b : Addr} {n cap : Nat} (hx : a.eval x = .slice (some b) n cap) (hy : a.eval y = .slice none 0 0) :
    (execOp a.eval ⟨dst, .binOp .eql T x y u, ty, pos, af, gd⟩).run P w = .ok (.value (.bool false)) w := by
  simp [execOp, hx, hy, eqGuard, Lib.run_eql_slice_nil w T E _ _ _ _ _ ht]
theorem ex_eqlNil_none {T E : TypeId} {x y : Operand} {u : TypeId} (ht : P.underlying T = some (.slice E)) {n cap : Nat} (hx : a.eval x = .slice none n cap) (hy : a.eval y = .slice none 0 0) :
    (execOp a.eval ⟨dst, .binOp .eql T x y u, ty, pos, af, gd⟩).run P w = .ok (.value (.bool true)) w := by
  simp [execOp, hx, hy, eqGuard, Lib.run_eql_slice_nil w T E _ _ _ _ _ ht]
theorem all_cells0 : ∀ v ∈ ([] : List Value), v.cells = #[v] := by
  intro v hv
  cases hv
theorem all_cells1 {v0 : Value} (h0 : v0.cells = #[v0]) : ∀ v ∈ ([v0] : List Value), v.cells = #[v] := by
  intro v hv
  simp at hv
  rw [hv]; exact h0
theorem all_cells2 {v0 v1 : Value} (h0 : v0.cells = #[v0]) (h1 : v1.cells = #[v1]) : ∀ v ∈ ([v0, v1] : List Value), v.cells = #[v] := by
  intro v hv
  simp at hv
  rcases hv with rfl | rfl
  · exact h0
  · exact h1
theorem all_cells3 {v0 v1 v2 : Value} (h0 : v0.cells = #[v0]) (h1 : v1.cells = #[v1]) (h2 : v2.cells = #[v2]) : ∀ v ∈ ([v0, v1, v2] : List Value), v.cells = #[v] := by
  intro v hv
  simp at hv
  rcases hv with rfl | rfl | rfl
  · exact h0
  · exact h1
  · exact h2
theorem all_cells4 {v0 v1 v2 v3 : Value} (h0 : v0.cells = #[v0]) (h1 : v1.cells = #[v1]) (h2 : v2.cells = #[v2]) (h3 : v3.cells = #[v3]) : ∀ v ∈ ([v0, v1, v2, v3] : List Value), v.cells = #[v] := by
  intro v hv
  simp at hv
  rcases hv with rfl | rfl | rfl | rfl
  · exact h0
  · exact h1
  · exact h2
  · exact h3
theorem all_cells5 {v0 v1 v2 v3 v4 : Value} (h0 : v0.cells = #[v0]) (h1 : v1.cells = #[v1]) (h2 : v2.cells = #[v2]) (h3 : v3.cells = #[v3]) (h4 : v4.cells = #[v4]) : ∀ v ∈ ([v0, v1, v2, v3, v4] : List Value), v.cells = #[v] := by
  intro v hv
  simp at hv
  rcases hv with rfl | rfl | rfl | rfl | rfl
  · exact h0
  · exact h1
  · exact h2
  · exact h3
  · exact h4
theorem all_cells6 {v0 v1 v2 v3 v4 v5 : Value} (h0 : v0.cells = #[v0]) (h1 : v1.cells = #[v1]) (h2 : v2.cells = #[v2]) (h3 : v3.cells = #[v3]) (h4 : v4.cells = #[v4]) (h5 : v5.cells = #[v5]) : ∀ v ∈ ([v0, v1, v2, v3, v4, v5] : List Value), v.cells = #[v] := by
  intro v hv
  simp at hv
  rcases hv with rfl | rfl | rfl | rfl | rfl | rfl
  · exact h0
  · exact h1
  · exact h2
  · exact h3
  · exact h4
  · exact h5
theorem all_cells7 {v0 v1 v2 v3 v4 v5 v6 : Value} (h0 : v0.cells = #[v0]) (h1 : v1.cells = #[v1]) (h2 : v2.cells = #[v2]) (h3 : v3.cells = #[v3]) (h4 : v4.cells = #[v4]) (h5 : v5.cells = #[v5]) (h6 : v6.cells = #[v6]) : ∀ v ∈ ([v0, v1, v2, v3, v4, v5, v6] : List Value), v.cells = #[v] := by
  intro v hv
  simp at hv
  rcases hv with rfl | rfl | rfl | rfl | rfl | rfl | rfl
  · exact h0
  · exact h1
  · exact h2
  · exact h3
  · exact h4
  · exact h5
  · exact h6
theorem all_cells8 {v0 v1 v2 v3 v4 v5 v6 v7 : Value} (h0 : v0.cells = #[v0]) (h1 : v1.cells = #[v1]) (h2 : v2.cells = #[v2]) (h3 : v3.cells = #[v3]) (h4 : v4.cells = #[v4]) (h5 : v5.cells = #[v5]) (h6 : v6.cells = #[v6]) (h7 : v7.cells = #[v7]) : ∀ v ∈ ([v0, v1, v2, v3, v4, v5, v6, v7] : List Value), v.cells = #[v] := by
  intro v hv
  simp at hv
  rcases hv with rfl | rfl | rfl | rfl | rfl | rfl | rfl | rfl
  · exact h0
  · exact h1
  · exact h2
  · exact h3
  · exact h4
  · exact h5
  · exact h6
  · exact h7
theorem cutL {rest : List Oper} {Q : Exit → Act → World → Prop} {T E : Nat} {x : Operand} {lo hi : Option Operand} (ht : P.underlying T = some (.slice E)) (hs : (P.info? E).map (·.size) = some 1) {D : World → Prop} {ao : Option Addr} {n cap : Nat} {bs : List UInt8} (l h : Nat)
    (hr : ∀ w', D w' → Rd w' 1 (.slice ao n cap) n (bvs bs)) (hx : a.eval x = .slice ao n cap) (hcap : n ≤ cap)
    (hlo : (lo.map a.eval = none ∧ l = 0) ∨ ∃ k i, lo.map a.eval = some (.int k i) ∧ i = l) (hhi : (hi.map a.eval = none ∧ h = n) ∨ ∃ k i, hi.map a.eval = some (.int k i) ∧ i = h) (hlh : l ≤ h) (hn : h ≤ n)
    (hw : Region.wanted ⟨dst, .slice T x lo hi none, ty, pos, af, gd⟩ (yielded ops a.tmps) = true)
    (hk : ∀ ao' cap', h - l ≤ cap' → (∀ w', D w' → Rd w' 1 (.slice ao' (h - l) cap') (h - l) (bvs ((bs.drop l).take (h - l)))) → wpList P ops Q rest (a.put dst (.slice ao' (h - l) cap')) w) :
    wpList P ops Q (⟨dst, .slice T x lo hi none, ty, pos, af, gd⟩ :: rest) a w :=
  cut_next (a := a) (dst := dst) (ty := ty) (pos := pos) (af := af) (gd := gd) ht hs l h hr hcap hx hlo hhi hlh hn fun ao' cap' e hc hR => wpL_sem hw (e w) (hk ao' cap' hc hR)
theorem cutS {rest : List Oper} {Q : Act → Prop} {T E : Nat} {x : Operand} {lo hi : Option Operand} (ht : P.underlying T = some (.slice E)) (hs : (P.info? E).map (·.size) = some 1) {D : World → Prop} {ao : Option Addr} {n cap : Nat} {bs : List UInt8} (l h : Nat)
    (hr : ∀ w', D w' → Rd w' 1 (.slice ao n cap) n (bvs bs)) (hx : a.eval x = .slice ao n cap) (hcap : n ≤ cap)
    (hlo : (lo.map a.eval = none ∧ l = 0) ∨ ∃ k i, lo.map a.eval = some (.int k i) ∧ i = l) (hhi : (hi.map a.eval = none ∧ h = n) ∨ ∃ k i, hi.map a.eval = some (.int k i) ∧ i = h) (hlh : l ≤ h) (hn : h ≤ n)
    (hw : Region.wanted ⟨dst, .slice T x lo hi none, ty, pos, af, gd⟩ (yielded ops a.tmps) = true)
    (hk : ∀ ao' cap', h - l ≤ cap' → (∀ w', D w' → Rd w' 1 (.slice ao' (h - l) cap') (h - l) (bvs ((bs.drop l).take (h - l)))) → wpStill P ops w Q rest (a.put dst (.slice ao' (h - l) cap'))) :
    wpStill P ops w Q (⟨dst, .slice T x lo hi none, ty, pos, af, gd⟩ :: rest) a :=
  cut_next (a := a) (dst := dst) (ty := ty) (pos := pos) (af := af) (gd := gd) ht hs l h hr hcap hx hlo hhi hlh hn fun ao' cap' e hc hR => wpS_sem hw (e w) (hk ao' cap' hc hR)
theorem cutQ {C : World → Prop} {K : Act → Prop} {T E : Nat} {x : Operand} {lo hi : Option Operand} (ht : P.underlying T = some (.slice E)) (hs : (P.info? E).map (·.size) = some 1) {D : World → Prop} {ao : Option Addr} {n cap : Nat} {bs : List UInt8} (l h : Nat)
    (hr : ∀ w', D w' → Rd w' 1 (.slice ao n cap) n (bvs bs)) (hx : a.eval x = .slice ao n cap) (hcap : n ≤ cap)
    (hlo : (lo.map a.eval = none ∧ l = 0) ∨ ∃ k i, lo.map a.eval = some (.int k i) ∧ i = l) (hhi : (hi.map a.eval = none ∧ h = n) ∨ ∃ k i, hi.map a.eval = some (.int k i) ∧ i = h) (hlh : l ≤ h) (hn : h ≤ n)
    (hk : ∀ ao' cap', h - l ≤ cap' → (∀ w', D w' → Rd w' 1 (.slice ao' (h - l) cap') (h - l) (bvs ((bs.drop l).take (h - l)))) → K (a.put dst (.slice ao' (h - l) cap'))) :
    Oper.quiet P ⟨dst, .slice T x lo hi none, ty, pos, af, gd⟩ a C K :=
  cut_next (a := a) (dst := dst) (ty := ty) (pos := pos) (af := af) (gd := gd) ht hs l h hr hcap hx hlo hhi hlh hn fun ao' cap' e hc hR => quiet_sem (fun w _ => e w) (hk ao' cap' hc hR)
theorem S_beq (x y : List UInt8) : (S x == S y) = decide (x = y) := by
  have e : (S x == S y) = (x.toArray == y.toArray) := rfl
  rw [e]
  by_cases h : x = y
  · subst h; simp
  · simp [h]
theorem famOf {w : World} {E size : Nat} {v : Value} {n : Nat} {xs : List Value} {l : List Chunk} (_H : At w (rowC E size v n xs :: l)) : ∀ w', At w' [rowC E size v n xs] → Rd w' size v n xs := fun _ h => h.rd
theorem src_S {P : Program} {w : World} (l : List UInt8) : Src P w 1 (.string (S l)) l.length (bvs l) := by simpa using src_string (P := P) (w := w) (S l)
theorem At.rangeRfl {b : Nat} {T : TypeId} {cs : List Value} {l : List Chunk} {w : World} (H : At w (objC b T cs :: l)) (i : Nat) (ds : List Value) (h : (cs.drop i).take ds.length = ds) : w.rangeAt b i ds :=
  H.range i ds fun j v hj => by
    rw [← h] at hj
    rw [List.getElem?_take] at hj
    split at hj
    · rwa [List.getElem?_drop] at hj
    · cases hj
theorem guard_decide {p : Prop} [inst : Decidable p] {j : Nat} {v : Bool} {G : Prop} (_hv : yielded ops a.tmps j = some v) (_hd : v = decide p) (ht : p → decide p = true → G) (hf : ¬ p → decide p = false → G) : G := by
  by_cases h : p
  · exact ht h (decide_eq_true h)
  · exact hf h (decide_eq_false h)
end
end Go.Sep
