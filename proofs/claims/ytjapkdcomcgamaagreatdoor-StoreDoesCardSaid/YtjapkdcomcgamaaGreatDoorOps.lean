/- Operations on slices and strings, as steps of a walk. -/
import Derived.Test.YtjapkdcomcgamaaGreatDoorRow
import Derived.Lib.ConvBytes
set_option linter.all false
namespace Go.Sep
open Go

theorem Rd.spot {w : World} {size : Nat} {ao : Option Addr} {n cap : Nat} {cs : List Value} (h : Rd w size (.slice ao n cap) n cs) {j : Nat} (hj : j < cs.length) : ∃ a, ao = some a ∧ a.spot = none := by
  obtain ⟨ao', cap', e, _, _, _, _, hc⟩ := h
  cases e
  exact (hc j _ (List.getElem?_eq_getElem hj)).1
theorem Rd.cell {w : World} {size : Nat} {ao : Option Addr} {n cap : Nat} {cs : List Value} (h : Rd w size (.slice ao n cap) n cs) {j : Nat} (hj : j < cs.length) : w.cell? (adr ao j) = some cs[j] := by
  obtain ⟨ao', cap', e, _, _, _, _, hc⟩ := h
  cases e
  exact (hc j _ (List.getElem?_eq_getElem hj)).2
theorem Rd.len {w : World} {size : Nat} {v : Value} {n : Nat} {cs : List Value} (h : Rd w size v n cs) : cs.length = n * size := by
  obtain ⟨_, _, _, _, _, _, hl, _⟩ := h; exact hl
theorem Rd.le {w : World} {size : Nat} {v : Value} {n : Nat} {cs : List Value} (h : Rd w size v n cs) : n ≤ 9223372036854775807 := by
  obtain ⟨_, _, _, h1, h2, _, _, _⟩ := h; unfold maxLen at h2; omega

theorem run_indexAt {P : Program} {w : World} {T E size : Nat} (ht : P.underlying T = some (.slice E)) (hs : (P.info? E).map (·.size) = some size) (ao : Option Addr) (n cap : Nat) (k : IntKind) (i : Int)
    (h0 : 0 ≤ i) (h1 : i < n) (hsp : ∃ a, ao = some a ∧ a.spot = none) : (Instr.indexAt T (.slice ao n cap) (.int k i)).run P w = .ok (.pointer (some (adr ao (i.toNat * size)))) w := by
  obtain ⟨a, rfl, ha⟩ := hsp
  obtain ⟨inf, hi, hz⟩ : ∃ inf, P.info? E = some inf ∧ inf.size = size := by
    cases h : P.info? E with
    | none => simp [h] at hs
    | some inf => exact ⟨inf, rfl, by simpa [h] using hs⟩
  simp [Instr.indexAt, asIntOf, run_underlying ht, h0, h1, sizeOf, typeInfo, hi, hz, add_adr ha]

theorem hid {p : Prop} (h : p) : RowKit.Hid p := h

theorem wpL_sem {P : Program} {w w' : World} {ops : Array Oper} {rest : List Oper} {a : Act} {Q : Exit → Act → World → Prop} {o : Oper} (hw : Region.wanted o (yielded ops a.tmps) = true) {v : Value}
    (hr : (execOp a.eval o).run P w = .ok (.value v) w') (h : wpList P ops Q rest (a.put o.dst v) w') : wpList P ops Q (o :: rest) a w := by
  refine BigFrame.wpList_want hw fun K hK => ?_
  unfold Oper.wp
  rw [hr]
  exact hK _ _ h

/-- xs[i] -/
theorem wpL_index {P : Program} {w : World} {ops : Array Oper} {rest : List Oper} {a : Act} {Q : Exit → Act → World → Prop} {dst : Option Tmp} {ty : TypeId} {pos : String} {af : Array Edge} {gd : Option (Nat × Bool)} {T : TypeId} {x ix : Operand}
    {E size : Nat} (ht : P.underlying T = some (.slice E)) (hs : (P.info? E).map (·.size) = some size) {ao : Option Addr} {n cap : Nat} {k : IntKind} {i : Int} (hx : a.eval x = .slice ao n cap) (hi : a.eval ix = .int k i)
    (h0 : 0 ≤ i) (h1 : i < n) (hsp : ∃ a, ao = some a ∧ a.spot = none) (hw : Region.wanted ⟨dst, .indexAddr T x ix, ty, pos, af, gd⟩ (yielded ops a.tmps) = true) (h : wpList P ops Q rest (a.put dst (.pointer (some (adr ao (i.toNat * size))))) w) :
    wpList P ops Q (⟨dst, .indexAddr T x ix, ty, pos, af, gd⟩ :: rest) a w := by
  refine wpL_sem hw (v := .pointer (some (adr ao (i.toNat * size)))) (w' := w) ?_ h
  simp only [execOp, hx, hi, Sem.run_bind, run_indexAt ht hs ao n cap k i h0 h1 hsp, Result.andThen_ok, Sem.run_pure]

/-- A slice of a slice: from l to h. -/
def sub (v : Value) (size l h : Nat) : Value :=
  match v with
  | .slice ao _ cap => .slice (if cap = l then ao else ao.map (·.add (l * size))) (h - l) (cap - l)
  | v => v

theorem Rd.sub {w : World} {size : Nat} {v : Value} {n : Nat} {cs : List Value} (H : Rd w size v n cs) {l h : Nat} (hlh : l ≤ h) (hn : h ≤ n) :
    Rd w size (sub v size l h) (h - l) ((cs.drop (l * size)).take ((h - l) * size)) := by
  obtain ⟨ao, cap, rfl, hnc, hcm, hno, hl, hc⟩ := H
  have hle : h * size ≤ n * size := Nat.mul_le_mul_right _ hn
  have hle2 : (h - l) * size = h * size - l * size := Nat.sub_mul _ _ _
  have hle3 : l * size ≤ h * size := Nat.mul_le_mul_right _ hlh
  refine ⟨_, _, rfl, by omega, by omega, fun e => ?_, by rw [List.length_take, List.length_drop]; omega, fun j u hj => ?_⟩
  · cases ao with
    | none => have := hno rfl; omega
    | some a => split at e <;> simp at e
  rw [List.getElem?_take] at hj
  split at hj
  · rename_i hlt
    rw [List.getElem?_drop] at hj
    obtain ⟨⟨a, rfl, ha⟩, hcell⟩ := hc _ _ hj
    have hsz : 0 < size := by
      rcases Nat.eq_zero_or_pos size with h0 | h0
      · subst h0; simp at hlt
      · exact h0
    have hne : cap ≠ l := by
      intro e
      have : 0 < h - l := by
        rcases Nat.eq_zero_or_pos (h - l) with h0 | h0
        · rw [h0] at hlt; simp at hlt
        · exact h0
      omega
    rw [if_neg hne]
    refine ⟨⟨_, rfl, ?_⟩, ?_⟩
    · show (a.add (l * size)).spot = none; rw [add_adr ha]; rfl
    · rw [show adr (Option.map (fun x => x.add (l * size)) (some a)) j = adr (some a) (l * size + j) from by simp [add_adr ha, adr, blk, ofs, Nat.add_assoc]]
      exact hcell
  · cases hj

theorem run_sliceAt {P : Program} {w : World} {T E size : Nat} (ht : P.underlying T = some (.slice E)) (hs : (P.info? E).map (·.size) = some size) (ao : Option Addr) (n cap l h : Nat) (hnc : n ≤ cap)
    {lo hi : Option Value} (hlo : (lo = none ∧ l = 0) ∨ ∃ k, lo = some (.int k l)) (hhi : (hi = none ∧ h = n) ∨ ∃ k, hi = some (.int k h)) (hlh : l ≤ h) (hn : h ≤ n) :
    (Instr.sliceAt T (.slice ao n cap) lo hi none).run P w = .ok (sub (.slice ao n cap) size l h) w := by
  obtain ⟨inf, hi, hz⟩ : ∃ inf, P.info? E = some inf ∧ inf.size = size := by
    cases h : P.info? E with
    | none => simp [h] at hs
    | some inf => exact ⟨inf, rfl, by simpa [h] using hs⟩
  have hhc : h ≤ cap := by omega
  rcases hlo with ⟨rfl, rfl⟩ | ⟨k, rfl⟩ <;> rcases hhi with ⟨rfl, rfl⟩ | ⟨k', rfl⟩ <;>
    simp [Instr.sliceAt, Instr.slice, Instr.sliceBounds, Instr.sliceBound, asIntOf, run_underlying ht, sizeOf, typeInfo, hi, hz, sub, hlh, hhc]

/-- xs[l:h]: of the new value it is known what it reads as, wherever the old one reads so. -/
theorem wpL_slice {P : Program} {w : World} {ops : Array Oper} {rest : List Oper} {a : Act} {Q : Exit → Act → World → Prop} {dst : Option Tmp} {ty : TypeId} {pos : String} {af : Array Edge} {gd : Option (Nat × Bool)} {T : TypeId} {x : Operand} {lo hi : Option Operand}
    {E size : Nat} (ht : P.underlying T = some (.slice E)) (hs : (P.info? E).map (·.size) = some size) {D : World → Prop} {ao : Option Addr} {n cap : Nat} {cs : List Value} (l h : Nat) (hr : ∀ w', D w' → Rd w' size (.slice ao n cap) n cs) (hcap : n ≤ cap)
    (hx : a.eval x = .slice ao n cap)
    (hlo : (lo.map a.eval = none ∧ l = 0) ∨ ∃ k, lo.map a.eval = some (.int k l)) (hhi : (hi.map a.eval = none ∧ h = n) ∨ ∃ k, hi.map a.eval = some (.int k h)) (hlh : l ≤ h) (hn : h ≤ n)
    (hw : Region.wanted ⟨dst, .slice T x lo hi none, ty, pos, af, gd⟩ (yielded ops a.tmps) = true) (hk : ∀ ao' cap', h - l ≤ cap' → (∀ w', D w' → Rd w' size (.slice ao' (h - l) cap') (h - l) ((cs.drop (l * size)).take ((h - l) * size))) → wpList P ops Q rest (a.put dst (.slice ao' (h - l) cap')) w) :
    wpList P ops Q (⟨dst, .slice T x lo hi none, ty, pos, af, gd⟩ :: rest) a w := by
  refine wpL_sem hw (v := sub (.slice ao n cap) size l h) (w' := w) ?_ (hk _ _ (by omega) fun w' hw' => (hr w' hw').sub hlh hn)
  simp only [execOp, hx, Option.map_none, Sem.run_bind, run_sliceAt ht hs ao n cap l h hcap hlo hhi hlh hn, Result.andThen_ok, Sem.run_pure]

theorem results_tmp4 {fn : Func} {t u v x : Tmp} (h : fn.results = #[.tmp t, .tmp u, .tmp v, .tmp x]) (tmps : Array Value) (P : Program) (w : World) :
    (results fn tmps).run P w = .ok (.tuple #[tmps.getD t undef, tmps.getD u undef, tmps.getD v undef, tmps.getD x undef]) w := by
  simp [results, h]

/-- A text by its bytes. -/
def S (l : List UInt8) : ByteArray := ⟨l.toArray⟩
@[simp] theorem S_size (l : List UInt8) : (S l).size = l.length := by simp [S, ByteArray.size]
@[simp] theorem S_toList (l : List UInt8) : (S l).data.toList = l := by simp [S]
@[simp, go_sem] theorem S_toList' (l : List UInt8) : (S l).toList = l := by rw [ByteArray.toList_eq, S_toList]
theorem S_of (s : ByteArray) : S s.data.toList = s := by cases s; simp [S]
theorem S_inj {l m : List UInt8} (h : S l = S m) : l = m := by have := congrArg (fun s => s.data.toList) h; simpa using this

theorem foldl_push (l : List UInt8) (s : ByteArray) : ((l.map fun c => (c.toNat : Int)).foldl (fun r n => r.push (UInt8.ofNat n.toNat)) s).data.toList = s.data.toList ++ l := by
  induction l generalizing s with
  | nil => simp
  | cons c l ih => simp only [List.map_cons, List.foldl_cons]; rw [ih]; simp [ByteArray.push]

theorem run_string_of {P : Program} {w : World} {src dst E : Nat} (hs : P.underlying src = some (.slice E)) (he : P.underlying E = some (.int .u8)) (hd : P.underlying dst = some .string)
    {v : Value} {n : Nat} {bs : List UInt8} (h : Rd w 1 v n (bvs bs)) : (convert src dst v).run P w = .ok (.string (S bs)) w := by
  have hsrc := h.src (P := P)
  obtain ⟨ao, cap, rfl, _, _, _, hl, hc⟩ := h
  rw [run_convert_bytes_string w src dst E ao n cap hs he hd]
  cases ao with
  | none =>
    have : bs = [] := by
      cases bs with
      | nil => rfl
      | cons u r => obtain ⟨⟨a, h, _⟩, _⟩ := hc 0 _ rfl; cases h
    subst this
    rfl
  | some a =>
    have hn : n = bs.length := by simpa using hl.symm
    have e : bvs bs = (bs.map fun c => (c.toNat : Int)).map (Value.int .u8) := by simp [bvs, bv]
    have h2 := hsrc.2.2 w rfl
    simp only [Builtin.firstCells, Nat.mul_one] at h2
    rw [e] at h2
    rw [run_bytesToString w a n cap _ h2]
    congr 2
    have := foldl_push bs ByteArray.empty
    rw [← S_of (List.foldl _ _ _), this]
    rfl

/-- string(b) -/
theorem wpL_string {P : Program} {w : World} {ops : Array Oper} {rest : List Oper} {a : Act} {Q : Exit → Act → World → Prop} {d : Option Tmp} {ty : TypeId} {pos : String} {af : Array Edge} {gd : Option (Nat × Bool)} {src dst E : TypeId} {x : Operand}
    (hs : P.underlying src = some (.slice E)) (he : P.underlying E = some (.int .u8)) (hd : P.underlying dst = some .string) {v : Value} {n : Nat} {bs : List UInt8} (hx : a.eval x = v) (h : Rd w 1 v n (bvs bs))
    (hw : Region.wanted ⟨d, .convert src dst x, ty, pos, af, gd⟩ (yielded ops a.tmps) = true) (hk : wpList P ops Q rest (a.put d (.string (S bs))) w) : wpList P ops Q (⟨d, .convert src dst x, ty, pos, af, gd⟩ :: rest) a w := by
  refine wpL_sem hw (v := .string (S bs)) (w' := w) ?_ hk
  simp only [execOp, hx, Sem.run_bind, run_string_of hs he hd h, Result.andThen_ok, Sem.run_pure]

/-- []byte(s) -/
theorem wpL_bytes {P : Program} {w : World} {l : List Chunk} {ops : Array Oper} {rest : List Oper} {a : Act} {Q : Exit → Act → World → Prop} {d : Option Tmp} {ty : TypeId} {pos : String} {af : Array Edge} {gd : Option (Nat × Bool)} {src dst E : TypeId} {x : Operand}
    {u : TypeDesc} (hs : P.underlying src = some u) (hd : P.underlying dst = some (.slice E)) (he : P.underlying E = some (.int .u8)) {s : ByteArray} (hx : a.eval x = .string s) (hm : s.size ≤ maxLen) (H : At w l)
    (hw : Region.wanted ⟨d, .convert src dst x, ty, pos, af, gd⟩ (yielded ops a.tmps) = true) (hk : ∀ v' w', At w' (rowC E 1 v' s.size (bvs s.data.toList) :: l) → wpList P ops Q rest (a.put d v') w') : wpList P ops Q (⟨d, .convert src dst x, ty, pos, af, gd⟩ :: rest) a w := by
  refine wpL_sem hw (v := .slice (some ⟨w.heap.size, 0, none⟩) s.size (grownCap w s.size 0 E)) (w' := Lib.bytesWorld w E s) ?_ (hk _ _ ?_)
  · simp only [execOp, hx, Sem.run_bind, Lib.run_convert_string_bytes w src dst E s hs hd he, Result.andThen_ok, Sem.run_pure]
  · have hge := grownCap_ge w s.size 0 E
    refine H.new (A' := fun k => k = w.heap.size) ⟨fun k => ⟨fun h => by rw [h]; rfl, fun h => by cases h; rfl⟩, by simp, .inr ⟨w.heap.size, _, _, _, rfl, Lib.bytesWorld_at_new w E s, ?_, hge, grownCap_le_maxLen w s.size 0 E hm, ?_, ?_⟩⟩ (fun k h => by omega) ⟨rfl, rfl, rfl, by rw [Lib.bytesWorld_size]; omega, fun k hk => Lib.bytesWorld_at_old w E s k hk⟩
    · exact .inr (Nat.le_refl _)
    · simp [Lib.bytesCells]; omega
    · rw [Nat.mul_one, Lib.bytesCells, Array.toList_append, List.take_left' (by simp)]
      simp [bvs, bv]

end Go.Sep
