/- What came in: structs, and slices of them. -/
import Derived.Test.YtmmfcghieefoaaaDoorAbO
import Derived.WideShapes
import Derived.ChangeArms
set_option linter.all false
namespace Go.Ab
open Go Go.Sep

def wfI (n : Int) : Prop := -9223372036854775808 ≤ n ∧ n ≤ 9223372036854775807
theorem wfI_of {n : Int} (h : (Lit.int .i64 n).wf = true) : wfI n := by
  simp only [Lit.wf, Bool.and_eq_true, decide_eq_true_eq] at h
  have h1 : IntKind.i64.min = -9223372036854775808 := by decide
  have h2 : IntKind.i64.max = 9223372036854775807 := by decide
  rw [h1, h2] at h; exact h
def wfU : (u : U) → u.den → Prop
  | .int, n => wfI n
  | .ent, (e : Ent) => wfI e.kind ∧ wfI e.id ∧ wfI e.n
  | .lst, (e : Lst) => wfI e.op ∧ wfI e.n
  | .sst, (e : Sst) => wfI e.op ∧ wfI e.id ∧ wfI e.n
  | .stp, (e : Stp) => wfI e.kind ∧ wfI e.conn ∧ wfI e.n
  | .cal, (e : Cal) => wfI e.conn
  | .hd, (h : Hd) => wfI h.minor ∧ wfI h.length
  | .ask, (h : Ask) => wfI h.h.minor ∧ wfI h.h.length
  | .upl, (x : Upl) => wfI x.id ∧ wfI x.size ∧ wfI x.sent
  | _, _ => True
/-- Cells that read as an element. -/
def RU (u : U) : Sep.Rel u.den := fun W cs x => MPs (frzW W) (enc alg u x) cs ∧ wfU u x
section
variable {H : Type} {hsh : TypeId × Value → H} {P : Program} {w : World} {base : Nat} {spare : Nat → Bool} {held : Bool}

theorem opens_uint {t : TypeId} (ht : P.underlying t = some (.int .i64)) : Opens hsh P w base spare held t (RU .int) := by
  intro fuel cs y h
  obtain ⟨n, h1, h2⟩ := opens_int ht fuel cs y h
  exact ⟨n, in_int ⟨h1, h2⟩, wfI_of h2⟩
theorem opens_ustr {t : TypeId} (ht : P.underlying t = some .string) : Opens hsh P w base spare held t (RU .str) := by
  intro fuel cs y h
  obtain ⟨s, h1⟩ := opens_str ht fuel cs y h
  exact ⟨s, in_str h1, trivial⟩
theorem opens_ubytes {t e : TypeId} (ht : P.underlying t = some (.slice e)) (he : P.underlying e = some (.int .u8)) (hc : P.cellsOf e = 1) : Opens hsh P w base spare held t (RU .bytes) := by
  intro fuel cs y h
  obtain ⟨b, h1⟩ := opens_sl ht hc (by decide) (opens_byte he) fuel cs y h
  have h1' := h1
  obtain ⟨v, vs, rfl, _⟩ := h1
  exact ⟨b, ⟨in_bytes h1', trivial⟩, trivial⟩
/-- The list of u as one cell. -/
theorem opens_ulist {t e : TypeId} {u : U} (ht : P.underlying t = some (.slice e)) (hc : P.cellsOf e = u.size) (h0 : 0 < u.size) (he : Opens hsh P w base spare held e (RU u)) :
    Opens hsh P w base spare held t (fun W cs (l : List u.den) => MPs (frzW W) [.list u l] cs ∧ ∀ x ∈ l, wfU u x) := by
  intro fuel cs y h
  obtain ⟨b, h1⟩ := opens_sl ht hc h0 he fuel cs y h
  have h1' := h1
  obtain ⟨v, vs, rfl, _, hx⟩ := h1
  refine ⟨b, ⟨in_list (fun _ _ h => h.1) h1', trivial⟩, fun x hm => ?_⟩
  obtain ⟨i, hi⟩ := List.getElem?_of_mem hm
  exact (hx i x hi).2
theorem sl_wf {W : World} {v : Value} {u : U} {xs : List u.den} (h : RSl u.size (RU u) W [v] xs) : ∀ x ∈ xs, wfU u x := by
  obtain ⟨_, vs, _, _, hx⟩ := h
  intro x hm
  obtain ⟨i, hi⟩ := List.getElem?_of_mem hm
  exact (hx i x hi).2
theorem sl_md {W : World} {v : Value} {u : U} {xs : List u.den} (h : RSl u.size (RU u) W [v] xs) : MD (frzW W) [] (.v (.one (.p (.list u xs)))) v := in_list (fun _ _ h => h.1) h
/-- A struct that came in by value. -/
theorem agg_md {W : World} {cs : Array Value} {u : U} {x : u.den} (h : RU u W cs.toList x) : MD (frzW W) [] (.v (.agg ((enc alg u x).map C.p))) (.agg cs) := ⟨cs.toList, h.1.mcs, by simp⟩

theorem piece {t : TypeId} {fs : Array Field} {fuel : Nat} {cs : List Value} {y : DataW H × List MemPlace} (ht : P.underlying t = some (.struct fs)) (h : DataW.trod hsh P w base spare held fuel t cs = some y) :
    cs.length = P.cellsOf t ∧ ∀ (i o k ty : Nat) (f : Field), fs[i]? = some f → f.offset = o → f.type = ty → P.cellsOf ty = k → ∃ n z, DataW.trod hsh P w base spare held n ty ((cs.drop o).take k) = some z := by
  obtain ⟨xs, n, _, _, hl, hxl, hf⟩ := DataW.trod_struct ht h
  refine ⟨hl, fun i o k ty f hi ho hty hk => ?_⟩
  subst ho hty hk
  have hlt : i < xs.length := by rw [hxl]; exact (Array.getElem?_eq_some_iff.1 hi).1
  exact ⟨n, xs[i], by rw [hf i f hi, List.getElem?_eq_getElem hlt]⟩
theorem len2 {α : Type} {l : List α} (h : l.length = 2) : ∃ a b, l = [a, b] := by
  match l, h with
  | [a, b], _ => exact ⟨a, b, rfl⟩
theorem len3 {α : Type} {l : List α} (h : l.length = 3) : ∃ a b c, l = [a, b, c] := by
  match l, h with
  | [a, b, c], _ => exact ⟨a, b, c, rfl⟩
theorem len4 {α : Type} {l : List α} (h : l.length = 4) : ∃ a b c d, l = [a, b, c, d] := by
  match l, h with
  | [a, b, c, d], _ => exact ⟨a, b, c, d, rfl⟩
theorem len5 {α : Type} {l : List α} (h : l.length = 5) : ∃ a b c d e, l = [a, b, c, d, e] := by
  match l, h with
  | [a, b, c, d, e], _ => exact ⟨a, b, c, d, e, rfl⟩
/-- kind, id, n int; text []byte -/
theorem opens_ent {t ti tb te : TypeId} {f0 f1 f2 f3 : Field} (ht : P.underlying t = some (.struct #[f0, f1, f2, f3])) (hc : P.cellsOf t = 4)
    (h : (f0.offset, f0.type, f1.offset, f1.type, f2.offset, f2.type, f3.offset, f3.type) = (0, ti, 1, ti, 2, ti, 3, tb)) (hi : P.underlying ti = some (.int .i64)) (hb : P.underlying tb = some (.slice te)) (he : P.underlying te = some (.int .u8)) (k1 : P.cellsOf ti = 1) (k2 : P.cellsOf tb = 1) (k3 : P.cellsOf te = 1) : Opens hsh P w base spare held t (RU .ent) := by
  intro fuel cs y hy
  simp only [Prod.mk.injEq] at h
  obtain ⟨a0, b0, a1, b1, a2, b2, a3, b3⟩ := h
  obtain ⟨hl, hp⟩ := piece ht hy
  obtain ⟨c0, c1, c2, c3, rfl⟩ := len4 (hl.trans hc)
  obtain ⟨n0, z0, p0⟩ := hp 0 0 1 ti f0 rfl a0 b0 k1
  obtain ⟨n1, z1, p1⟩ := hp 1 1 1 ti f1 rfl a1 b1 k1
  obtain ⟨n2, z2, p2⟩ := hp 2 2 1 ti f2 rfl a2 b2 k1
  obtain ⟨n3, z3, p3⟩ := hp 3 3 1 tb f3 rfl a3 b3 k2
  obtain ⟨x0, m0, w0⟩ := opens_uint hi _ _ _ p0
  obtain ⟨x1, m1, w1⟩ := opens_uint hi _ _ _ p1
  obtain ⟨x2, m2, w2⟩ := opens_uint hi _ _ _ p2
  obtain ⟨x3, m3, _⟩ := opens_ubytes hb he k3 _ _ _ p3
  exact ⟨⟨x0, x1, x2, x3⟩, ⟨m0.1, m1.1, m2.1, m3.1, trivial⟩, w0, w1, w2⟩
/-- op, n int; b []byte -/
theorem opens_lst {t ti tb te : TypeId} {f0 f1 f2 : Field} (ht : P.underlying t = some (.struct #[f0, f1, f2])) (hc : P.cellsOf t = 3)
    (h : (f0.offset, f0.type, f1.offset, f1.type, f2.offset, f2.type) = (0, ti, 1, ti, 2, tb)) (hi : P.underlying ti = some (.int .i64)) (hb : P.underlying tb = some (.slice te)) (he : P.underlying te = some (.int .u8)) (k1 : P.cellsOf ti = 1) (k2 : P.cellsOf tb = 1) (k3 : P.cellsOf te = 1) : Opens hsh P w base spare held t (RU .lst) := by
  intro fuel cs y hy
  simp only [Prod.mk.injEq] at h
  obtain ⟨a0, b0, a1, b1, a2, b2⟩ := h
  obtain ⟨hl, hp⟩ := piece ht hy
  obtain ⟨c0, c1, c2, rfl⟩ := len3 (hl.trans hc)
  obtain ⟨n0, z0, p0⟩ := hp 0 0 1 ti f0 rfl a0 b0 k1
  obtain ⟨n1, z1, p1⟩ := hp 1 1 1 ti f1 rfl a1 b1 k1
  obtain ⟨n2, z2, p2⟩ := hp 2 2 1 tb f2 rfl a2 b2 k2
  obtain ⟨x0, m0, w0⟩ := opens_uint hi _ _ _ p0
  obtain ⟨x1, m1, w1⟩ := opens_uint hi _ _ _ p1
  obtain ⟨x2, m2, _⟩ := opens_ubytes hb he k3 _ _ _ p2
  exact ⟨⟨x0, x1, x2⟩, ⟨m0.1, m1.1, m2.1, trivial⟩, w0, w1⟩
/-- name, value string -/
theorem opens_fld {t ts : TypeId} {f0 f1 : Field} (ht : P.underlying t = some (.struct #[f0, f1])) (hc : P.cellsOf t = 2)
    (h : (f0.offset, f0.type, f1.offset, f1.type) = (0, ts, 1, ts)) (hs : P.underlying ts = some .string) (k1 : P.cellsOf ts = 1) : Opens hsh P w base spare held t (RU .fld) := by
  intro fuel cs y hy
  simp only [Prod.mk.injEq] at h
  obtain ⟨a0, b0, a1, b1⟩ := h
  obtain ⟨hl, hp⟩ := piece ht hy
  obtain ⟨c0, c1, rfl⟩ := len2 (hl.trans hc)
  obtain ⟨n0, z0, p0⟩ := hp 0 0 1 ts f0 rfl a0 b0 k1
  obtain ⟨n1, z1, p1⟩ := hp 1 1 1 ts f1 rfl a1 b1 k1
  obtain ⟨x0, m0, _⟩ := opens_ustr hs _ _ _ p0
  obtain ⟨x1, m1, _⟩ := opens_ustr hs _ _ _ p1
  exact ⟨⟨x0, x1⟩, ⟨m0.1, m1.1, trivial⟩, trivial⟩
end
end Go.Ab
