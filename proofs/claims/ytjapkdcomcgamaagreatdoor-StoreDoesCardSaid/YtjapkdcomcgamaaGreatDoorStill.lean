/- Regions that draw their order: what only reads, ahead of what writes. -/
import Derived.Test.YtjapkdcomcgamaaGreatDoorStrs
import Derived.StillTailTactics
import Derived.StillTactics
set_option linter.all false
namespace Go.Sep
open Go
section
variable {P : Program} {ops : Array Oper} {Q : Act → Prop} {a : Act} {w : World} {rest : List Oper}

/-- The first n operations read alone; the rest come in the text's order. The world is any in which the same chunks hold. -/
theorem region_still {id : Nat} {Q : Exit → Act → World → Prop} {l : List Oper} {L : List Chunk} (n : Nat) (hm : P.follows .mixedOrders = true) (hB : Region.lexTailB .any l.toArray n = true) (H : At w L)
    (h : ∀ w1, At w1 L → wpStill P l.toArray w1 (fun a' => wpList P l.toArray Q (l.drop n) a' w1) (l.take n) a) : (Code.region id l.toArray true).wp P Q a w :=
  wp_region_still_tail n hm hB (h _ H.drew)

theorem wpS_sem {o : Oper} (hw : Region.wanted o (yielded ops a.tmps) = true) {v : Value}
    (hr : (execOp a.eval o).run P w = .ok (.value v) w) (h : wpStill P ops w Q rest (a.put o.dst v)) : wpStill P ops w Q (o :: rest) a := by
  unfold wpStill
  rw [if_pos hw]
  unfold Oper.still
  rw [hr]
  exact ⟨rfl, h⟩

/-- xs[j] -/
theorem wpS_index {dst : Option Tmp} {ty : TypeId} {pos : String} {af : Array Edge} {gd : Option (Nat × Bool)} {T : TypeId} {x ix : Operand}
    {E size : Nat} (ht : P.underlying T = some (.slice E)) (hs : (P.info? E).map (·.size) = some size) (j : Nat) {ao : Option Addr} {n cap : Nat} {k : IntKind} {i : Int} (hx : a.eval x = .slice ao n cap) (hi : a.eval ix = .int k i)
    (hij : i = j) (h1 : j < n) (hsp : ∃ a, ao = some a ∧ a.spot = none) (hw : Region.wanted ⟨dst, .indexAddr T x ix, ty, pos, af, gd⟩ (yielded ops a.tmps) = true) (h : wpStill P ops w Q rest (a.put dst (.pointer (some (adr ao (j * size)))))) :
    wpStill P ops w Q (⟨dst, .indexAddr T x ix, ty, pos, af, gd⟩ :: rest) a := by
  subst hij
  refine wpS_sem hw (v := .pointer (some (adr ao (j * size)))) ?_ h
  have := run_indexAt (w := w) ht hs ao n cap k (j : Int) (by omega) (by omega) hsp
  simp only [execOp, hx, hi, Sem.run_bind, this, Result.andThen_ok, Sem.run_pure, Int.toNat_natCast]
theorem wpS_index1 {dst : Option Tmp} {ty : TypeId} {pos : String} {af : Array Edge} {gd : Option (Nat × Bool)} {T : TypeId} {x ix : Operand}
    {E : Nat} (ht : P.underlying T = some (.slice E)) (hs : (P.info? E).map (·.size) = some 1) (j : Nat) {ao : Option Addr} {n cap : Nat} {k : IntKind} {i : Int} (hx : a.eval x = .slice ao n cap) (hi : a.eval ix = .int k i)
    (hij : i = j) (h1 : j < n) (hsp : ∃ a, ao = some a ∧ a.spot = none) (hw : Region.wanted ⟨dst, .indexAddr T x ix, ty, pos, af, gd⟩ (yielded ops a.tmps) = true) (h : wpStill P ops w Q rest (a.put dst (.pointer (some (adr ao j))))) :
    wpStill P ops w Q (⟨dst, .indexAddr T x ix, ty, pos, af, gd⟩ :: rest) a :=
  wpS_index ht hs j hx hi hij h1 hsp hw (by simpa using h)

/-- xs[l:h] -/
theorem wpS_slice {dst : Option Tmp} {ty : TypeId} {pos : String} {af : Array Edge} {gd : Option (Nat × Bool)} {T : TypeId} {x : Operand} {lo hi : Option Operand}
    {E size : Nat} (ht : P.underlying T = some (.slice E)) (hs : (P.info? E).map (·.size) = some size) {D : World → Prop} {ao : Option Addr} {n cap : Nat} {cs : List Value} (l h : Nat) (hr : ∀ w', D w' → Rd w' size (.slice ao n cap) n cs) (hcap : n ≤ cap)
    (hx : a.eval x = .slice ao n cap)
    (hlo : (lo.map a.eval = none ∧ l = 0) ∨ ∃ k, lo.map a.eval = some (.int k l)) (hhi : (hi.map a.eval = none ∧ h = n) ∨ ∃ k, hi.map a.eval = some (.int k h)) (hlh : l ≤ h) (hn : h ≤ n)
    (hw : Region.wanted ⟨dst, .slice T x lo hi none, ty, pos, af, gd⟩ (yielded ops a.tmps) = true)
    (hk : ∀ ao' cap', h - l ≤ cap' → (∀ w', D w' → Rd w' size (.slice ao' (h - l) cap') (h - l) ((cs.drop (l * size)).take ((h - l) * size))) → wpStill P ops w Q rest (a.put dst (.slice ao' (h - l) cap'))) :
    wpStill P ops w Q (⟨dst, .slice T x lo hi none, ty, pos, af, gd⟩ :: rest) a := by
  refine wpS_sem hw (v := sub (.slice ao n cap) size l h) ?_ (hk _ _ (by omega) fun w' hw' => (hr w' hw').sub hlh hn)
  simp only [execOp, hx, Option.map_none, Sem.run_bind, run_sliceAt ht hs ao n cap l h hcap hlo hhi hlh hn, Result.andThen_ok, Sem.run_pure]

/-- string(b) -/
theorem wpS_string {d : Option Tmp} {ty : TypeId} {pos : String} {af : Array Edge} {gd : Option (Nat × Bool)} {src dst E : TypeId} {x : Operand}
    (hs : P.underlying src = some (.slice E)) (he : P.underlying E = some (.int .u8)) (hd : P.underlying dst = some .string) {v : Value} {n : Nat} {bs : List UInt8} (hx : a.eval x = v) (h : Rd w 1 v n (bvs bs))
    (hw : Region.wanted ⟨d, .convert src dst x, ty, pos, af, gd⟩ (yielded ops a.tmps) = true)
    (hk : wpStill P ops w Q rest (a.put d (.string (S bs)))) : wpStill P ops w Q (⟨d, .convert src dst x, ty, pos, af, gd⟩ :: rest) a := by
  refine wpS_sem hw (v := .string (S bs)) ?_ hk
  simp only [execOp, hx, Sem.run_bind, run_string_of hs he hd h, Result.andThen_ok, Sem.run_pure]

theorem wpS_strIndex {dst : Option Tmp} {ty : TypeId} {pos : String} {af : Array Edge} {gd : Option (Nat × Bool)} {T : TypeId} {x ix : Operand}
    (ht : P.underlying T = some .string) {l : List UInt8} {j : Nat} {c : UInt8} (hc : l[j]? = some c) {k : IntKind} {i : Int} (hx : a.eval x = .string (S l)) (hi : a.eval ix = .int k i) (hij : i = j)
    (hw : Region.wanted ⟨dst, .index T x ix, ty, pos, af, gd⟩ (yielded ops a.tmps) = true)
    (h : wpStill P ops w Q rest (a.put dst (.int .u8 (c.toNat : Int)))) : wpStill P ops w Q (⟨dst, .index T x ix, ty, pos, af, gd⟩ :: rest) a := by
  subst hij
  refine wpS_sem hw (v := .int .u8 (c.toNat : Int)) ?_ h
  simp only [execOp, hx, hi, Sem.run_bind, run_strIndex ht l k j c hc, Result.andThen_ok, Sem.run_pure]
  rfl

theorem wpS_strSlice {dst : Option Tmp} {ty : TypeId} {pos : String} {af : Array Edge} {gd : Option (Nat × Bool)} {T : TypeId} {x : Operand} {lo hi : Option Operand}
    (ht : P.underlying T = some .string) {l : List UInt8} (m h : Nat) (hx : a.eval x = .string (S l))
    (hlo : (lo.map a.eval = none ∧ m = 0) ∨ ∃ k, lo.map a.eval = some (.int k m)) (hhi : (hi.map a.eval = none ∧ h = l.length) ∨ ∃ k, hi.map a.eval = some (.int k h)) (hlh : m ≤ h) (hn : h ≤ l.length)
    (hw : Region.wanted ⟨dst, .slice T x lo hi none, ty, pos, af, gd⟩ (yielded ops a.tmps) = true)
    (hk : wpStill P ops w Q rest (a.put dst (.string (S ((l.drop m).take (h - m)))))) :
    wpStill P ops w Q (⟨dst, .slice T x lo hi none, ty, pos, af, gd⟩ :: rest) a := by
  refine wpS_sem hw (v := .string (S ((l.drop m).take (h - m)))) ?_ hk
  have hlh' : (m : Int) ≤ h := by omega
  have hn' : (h : Int) ≤ l.length := by omega
  rcases hlo with ⟨e1, rfl⟩ | ⟨k, e1⟩ <;> rcases hhi with ⟨e2, rfl⟩ | ⟨k', e2⟩ <;>
    simp [execOp, hx, e1, e2, Instr.sliceAt, Instr.slice, Instr.sliceBounds, Instr.sliceBound, asIntOf, run_underlying ht, hlh, hn, S_extract]
end
end Go.Sep
