/- Strings, by their lists of bytes, as steps of a walk. -/
import Derived.Test.YtjapkdcomcgamaaGreatDoorData
set_option linter.all false
namespace Go.Sep
open Go
attribute [go_sem] S_size
@[go_sem] theorem S_append (a b : List UInt8) : S a ++ S b = S (a ++ b) := by
  cases h : S a ++ S b with
  | mk d =>
    have : d.toList = a ++ b := by
      have h2 := congrArg (fun s => s.data.toList) h
      simp at h2
      exact h2.symm
    unfold S
    rw [← this]
/-- xs[j], the place said: one cell an element. -/
theorem wpL_index1 {P : Program} {w : World} {ops : Array Oper} {rest : List Oper} {a : Act} {Q : Exit → Act → World → Prop} {dst : Option Tmp} {ty : TypeId} {pos : String} {af : Array Edge} {gd : Option (Nat × Bool)} {T : TypeId} {x ix : Operand}
    {E : TypeId} (ht : P.underlying T = some (.slice E)) (hs : (P.info? E).map (·.size) = some 1) (j : Nat) {ao : Option Addr} {n cap : Nat} {k : IntKind} {i : Int} (hx : a.eval x = .slice ao n cap) (hi : a.eval ix = .int k i)
    (hij : i = j) (h1 : j < n) (hsp : ∃ a, ao = some a ∧ a.spot = none) (hw : Region.wanted ⟨dst, .indexAddr T x ix, ty, pos, af, gd⟩ (yielded ops a.tmps) = true) (h : wpList P ops Q rest (a.put dst (.pointer (some (adr ao j)))) w) :
    wpList P ops Q (⟨dst, .indexAddr T x ix, ty, pos, af, gd⟩ :: rest) a w := by
  subst hij
  exact wpL_index ht hs hx hi (by omega) (by omega) hsp hw (by simpa using h)
/-- xs[j], the place said. -/
theorem wpL_indexN {P : Program} {w : World} {ops : Array Oper} {rest : List Oper} {a : Act} {Q : Exit → Act → World → Prop} {dst : Option Tmp} {ty : TypeId} {pos : String} {af : Array Edge} {gd : Option (Nat × Bool)} {T : TypeId} {x ix : Operand}
    {E size : Nat} (ht : P.underlying T = some (.slice E)) (hs : (P.info? E).map (·.size) = some size) (j : Nat) {ao : Option Addr} {n cap : Nat} {k : IntKind} {i : Int} (hx : a.eval x = .slice ao n cap) (hi : a.eval ix = .int k i)
    (hij : i = j) (h1 : j < n) (hsp : ∃ a, ao = some a ∧ a.spot = none) (hw : Region.wanted ⟨dst, .indexAddr T x ix, ty, pos, af, gd⟩ (yielded ops a.tmps) = true) (h : wpList P ops Q rest (a.put dst (.pointer (some (adr ao (j * size))))) w) :
    wpList P ops Q (⟨dst, .indexAddr T x ix, ty, pos, af, gd⟩ :: rest) a w := by
  subst hij
  exact wpL_index ht hs hx hi (by omega) (by omega) hsp hw (by simpa using h)
theorem S_nil : S [] = ⟨#[]⟩ := rfl
theorem S_lit (d : Array UInt8) : (⟨d⟩ : ByteArray) = S d.toList := by simp [S]
@[go_sem] theorem S_append_lit (a : List UInt8) (d : Array UInt8) : S a ++ ⟨d⟩ = S (a ++ d.toList) := by rw [S_lit d, S_append]
@[go_sem] theorem S_lit_append (d : Array UInt8) (b : List UInt8) : ⟨d⟩ ++ S b = S (d.toList ++ b) := by rw [S_lit d, S_append]

theorem run_strIndex {P : Program} {w : World} {T : TypeId} (ht : P.underlying T = some .string) (l : List UInt8) (k : IntKind) (j : Nat) (c : UInt8) (hc : l[j]? = some c) :
    (Instr.index T (.string (S l)) (.int k j)).run P w = .ok (bv c) w := by
  have hj : j < l.length := (List.getElem?_eq_some_iff.1 hc).1
  have hs : (S l)[j]? = some c := by
    have : j < (S l).size := by simpa using hj
    rw [getElem?_pos (S l) j this]
    simp [S, ByteArray.getElem_eq_getElem_data] at hc ⊢
    exact (List.getElem?_eq_some_iff.1 hc).2
  simp [Instr.index, asIntOf, run_underlying ht, hs, bv]

/-- s[i] -/
theorem wpL_strIndex {P : Program} {w : World} {ops : Array Oper} {rest : List Oper} {a : Act} {Q : Exit → Act → World → Prop} {dst : Option Tmp} {ty : TypeId} {pos : String} {af : Array Edge} {gd : Option (Nat × Bool)} {T : TypeId} {x ix : Operand}
    (ht : P.underlying T = some .string) {l : List UInt8} {j : Nat} {c : UInt8} (hc : l[j]? = some c) {k : IntKind} {i : Int} (hx : a.eval x = .string (S l)) (hi : a.eval ix = .int k i) (hij : i = j)
    (hw : Region.wanted ⟨dst, .index T x ix, ty, pos, af, gd⟩ (yielded ops a.tmps) = true) (h : wpList P ops Q rest (a.put dst (.int .u8 (c.toNat : Int))) w) : wpList P ops Q (⟨dst, .index T x ix, ty, pos, af, gd⟩ :: rest) a w := by
  subst hij
  refine wpL_sem hw (v := .int .u8 (c.toNat : Int)) (w' := w) ?_ h
  simp only [execOp, hx, hi, Sem.run_bind, run_strIndex ht l k j c hc, Result.andThen_ok, Sem.run_pure]
  rfl

theorem S_extract (l : List UInt8) (a b : Nat) : (S l).extract a b = S ((l.drop a).take (b - a)) := by
  rw [← S_of ((S l).extract a b)]
  congr 1
  simp [S, List.extract_eq_take_drop]

/-- s[a:b] -/
theorem wpL_strSlice {P : Program} {w : World} {ops : Array Oper} {rest : List Oper} {a : Act} {Q : Exit → Act → World → Prop} {dst : Option Tmp} {ty : TypeId} {pos : String} {af : Array Edge} {gd : Option (Nat × Bool)} {T : TypeId} {x : Operand} {lo hi : Option Operand}
    (ht : P.underlying T = some .string) {l : List UInt8} (m h : Nat) (hx : a.eval x = .string (S l))
    (hlo : (lo.map a.eval = none ∧ m = 0) ∨ ∃ k, lo.map a.eval = some (.int k m)) (hhi : (hi.map a.eval = none ∧ h = l.length) ∨ ∃ k, hi.map a.eval = some (.int k h)) (hlh : m ≤ h) (hn : h ≤ l.length)
    (hw : Region.wanted ⟨dst, .slice T x lo hi none, ty, pos, af, gd⟩ (yielded ops a.tmps) = true) (hk : wpList P ops Q rest (a.put dst (.string (S ((l.drop m).take (h - m))))) w) :
    wpList P ops Q (⟨dst, .slice T x lo hi none, ty, pos, af, gd⟩ :: rest) a w := by
  refine wpL_sem hw (v := .string (S ((l.drop m).take (h - m)))) (w' := w) ?_ hk
  have hlh' : (m : Int) ≤ h := by omega
  have hn' : (h : Int) ≤ l.length := by omega
  have hn2 : h ≤ (S l).size := by simpa using hn
  rcases hlo with ⟨e1, rfl⟩ | ⟨k, e1⟩ <;> rcases hhi with ⟨e2, rfl⟩ | ⟨k', e2⟩ <;>
    simp [execOp, hx, e1, e2, Instr.sliceAt, Instr.slice, Instr.sliceBounds, Instr.sliceBound, asIntOf, run_underlying ht, hlh, hn, S_extract]
end Go.Sep
