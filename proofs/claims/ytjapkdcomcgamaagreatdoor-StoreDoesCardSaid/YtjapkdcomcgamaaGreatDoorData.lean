/- What came in, whatever its type: readings of the row's data as plain lists. -/
import Derived.Test.YtjapkdcomcgamaaGreatDoorOps
import Derived.Below
import Derived.ProofKit
import Derived.SliceStrings
set_option linter.all false
namespace Go.Sep
open Go

theorem block_lt {w : World} {a : Addr} {u : Value} (h : w.cell? a = some u) : a.block < w.heap.size := World.block_lt_of_cell? w a h

/-- What reads at the beginning reads so all along. -/
theorem Rd.later {W w : World} {l : List Chunk} {size : Nat} {v : Value} {n : Nat} {cs : List Value} (h : Rd W size v n cs) (H : At w (initC W :: l)) : Rd w size v n cs := by
  obtain ⟨ao, cap, e, h1, h2, h4, h3, hc⟩ := h
  refine ⟨ao, cap, e, h1, h2, h4, h3, fun j u hu => ?_⟩
  obtain ⟨hs, hcell⟩ := hc j u hu
  exact ⟨hs, (H.below.cell (block_lt hcell)).trans hcell⟩

theorem bvs_cut (p r : List UInt8) (f k : Nat) (hf : f ≤ k) (hk : k = p.length) : ((bvs (p ++ r)).drop (f * 1)).take ((k - f) * 1) = bvs (p.drop f) := by
  subst hk
  simp only [bvs, Nat.mul_one, ← List.map_drop, ← List.map_take]
  rw [List.drop_append_of_le_length hf, List.take_append_of_le_length (by simp)]
  rw [List.take_of_length_le (by simp)]

theorem u8_bounds {k : Int} (h : (Lit.int .u8 k).wf = true) : 0 ≤ k ∧ k < 256 := by
  simp [Lit.wf, IntKind.min, IntKind.max, IntKind.signed, IntKind.bits] at h
  omega

/-- A []byte that came in: its bytes. -/
theorem bytes_in {W : World} {a : Option Addr} {len cap : Nat} {zs : List Int}
    (h : (a = none ∧ len = 0 ∧ cap = 0 ∧ zs = []) ∨
      ∃ x, a = some x ∧ len ≤ cap ∧ cap ≤ maxLen ∧ zs.length = cap ∧ (∀ i, i < zs.length → W.cell? (x.add i) = some (.int .u8 (zs.getD i 0))) ∧ ∀ n ∈ zs, (Lit.int .u8 n).wf = true) :
    ∃ bs : List UInt8, bs.length = len ∧ Rd W 1 (.slice a len cap) len (bvs bs) := by
  rcases h with ⟨rfl, rfl, rfl, rfl⟩ | ⟨x, rfl, hl, hm, hz, hc, hw⟩
  · exact ⟨[], rfl, none, 0, rfl, Nat.le_refl _, Nat.zero_le _, fun _ => rfl, rfl, fun j u h => by simp [bvs] at h⟩
  · refine ⟨(zs.take len).map fun k => UInt8.ofNat k.toNat, by simp; omega, some x, cap, rfl, hl, hm, (fun h => by cases h), by simp; omega, fun j u hu => ?_⟩
    have hj : j < len := by
      have := (List.getElem?_eq_some_iff.1 hu).1
      simp at this; omega
    have hjz : j < zs.length := by omega
    have hcell := hc j hjz
    have hb := u8_bounds (hw zs[j] (List.getElem_mem hjz))
    have hu' : u = .int .u8 (zs.getD j 0) := by
      simp only [bvs, List.map_map, List.getElem?_map, List.getElem?_take, hj, if_true, List.getElem?_eq_getElem hjz, Option.map_some, Option.some.injEq] at hu
      rw [← hu]
      have h1 : zs.getD j 0 = zs[j] := by simp [List.getD, hjz]
      rw [h1]
      simp only [Function.comp, bv]
      congr 1
      have h2 : zs[j].toNat < 256 := by omega
      simp [UInt8.toNat_ofNat', Nat.mod_eq_of_lt h2]
      omega
    have hsp : x.spot = none := by
      have h0 := hc 0 (by omega)
      have : x.add 0 = x := by simp [Addr.add]
      rw [this] at h0
      cases hs : x.spot with
      | none => rfl
      | some s =>
        unfold World.cell? at h0
        rw [hs] at h0
        split at h0 <;> simp at h0
    refine ⟨⟨x, rfl, hsp⟩, ?_⟩
    rw [← add_adr hsp, hcell, hu']

end Go.Sep
namespace Go.Sep
open Go

/-- How cells read as a plain thing. -/
abbrev Rel (α : Type) := World → List Value → α → Prop

def RStr : Rel (List UInt8) := fun _ cs x => cs = [.string (S x)] ∧ x.length ≤ maxLen
def RInt (k : IntKind) : Rel Int := fun _ cs n => cs = [.int k n] ∧ (Lit.int k n).wf = true
def RByte : Rel UInt8 := fun _ cs c => cs = [bv c]
def RBool : Rel Bool := fun _ cs b => cs = [.bool b]
/-- A slice of things that read by R. -/
def RSl {α : Type} (size : Nat) (R : Rel α) : Rel (List α) := fun w cs xs =>
  ∃ v vs, cs = [v] ∧ Rd w size v xs.length vs ∧ ∀ (i : Nat) x, xs[i]? = some x → R w ((vs.drop (i * size)).take size) x

def Stab {α : Type} (R : Rel α) : Prop := ∀ (W w : World) (l : List Chunk) cs x, R W cs x → At w (initC W :: l) → R w cs x
theorem stab_str : Stab RStr := fun _ _ _ _ _ h _ => h
theorem stab_int (k : IntKind) : Stab (RInt k) := fun _ _ _ _ _ h _ => h
theorem stab_byte : Stab RByte := fun _ _ _ _ _ h _ => h
theorem stab_bool : Stab RBool := fun _ _ _ _ _ h _ => h
theorem stab_sl {α : Type} {size : Nat} {R : Rel α} (h : Stab R) : Stab (RSl size R) := by
  rintro W w l cs xs ⟨v, vs, e, hr, hx⟩ H
  exact ⟨v, vs, e, hr.later H, fun i x hi => h W w l _ _ (hx i x hi) H⟩

section
variable {H : Type} {enc : TypeId × Value → H} {P : Program} {w : World} {base : Nat} {spare : Nat → Bool} {held : Bool}

/-- Every reading at type t is one by R. -/
def Opens {H : Type} (enc : TypeId × Value → H) (P : Program) (w : World) (base : Nat) (spare : Nat → Bool) (held : Bool) {α : Type} (t : TypeId) (R : Rel α) : Prop :=
  ∀ fuel cs y, DataW.trod enc P w base spare held fuel t cs = some y → ∃ x : α, R w cs x

theorem opens_str {t : TypeId} (ht : P.underlying t = some .string) : Opens enc P w base spare held t RStr := by
  intro fuel cs y h
  obtain ⟨s, rfl, _, hs⟩ := DataW.trod_string ht h
  exact ⟨s.data.toList, by rw [S_of], by simpa using hs⟩
theorem opens_int {t : TypeId} {k : IntKind} (ht : P.underlying t = some (.int k)) : Opens enc P w base spare held t (RInt k) := by
  intro fuel cs y h
  obtain ⟨n, rfl, _, hn⟩ := DataW.trod_int ht h
  exact ⟨n, rfl, hn⟩
theorem opens_bool {t : TypeId} (ht : P.underlying t = some .bool) : Opens enc P w base spare held t RBool := by
  intro fuel cs y h
  obtain ⟨b, rfl, _⟩ := DataW.trod_bool ht h
  exact ⟨b, rfl⟩
theorem bv_of {n : Int} (h : (Lit.int .u8 n).wf = true) : Value.int .u8 n = bv (UInt8.ofNat n.toNat) := by
  have hb := u8_bounds h
  unfold bv
  congr 1
  have h2 : n.toNat < 256 := by omega
  simp [UInt8.toNat_ofNat', Nat.mod_eq_of_lt h2]
  omega
theorem opens_byte {t : TypeId} (ht : P.underlying t = some (.int .u8)) : Opens enc P w base spare held t RByte := by
  intro fuel cs y h
  obtain ⟨n, rfl, _, hn⟩ := DataW.trod_int ht h
  exact ⟨UInt8.ofNat n.toNat, congrArg (fun v => [v]) (bv_of hn)⟩

theorem cells?_get {a : Addr} {n : Nat} {cs : List Value} (h : w.cells? base a n = some cs) : cs.length = n ∧ ∀ j u, cs[j]? = some u → w.cell? (a.add j) = some u := by
  unfold World.cells? at h
  split at h
  · refine ⟨by simpa using mapM_some_length h, fun j u hj => ?_⟩
    have hl : j < n := by
      have := (List.getElem?_eq_some_iff.1 hj).1
      have := mapM_some_length h
      simp at this; omega
    rw [← hj]
    exact mapM_some_get h j j (by simp [hl])
  · cases h

theorem spot_of {a : Addr} {u : Value} (h : w.cell? a = some u) : a.spot = none := by
  cases hs : a.spot with
  | none => rfl
  | some s =>
    unfold World.cell? at h
    rw [hs] at h
    split at h <;> simp at h

theorem opens_sl {α : Type} {t e : TypeId} {size : Nat} {R : Rel α} (ht : P.underlying t = some (.slice e)) (hs : P.cellsOf e = size) (h0 : 0 < size) (he : Opens enc P w base spare held e R) :
    Opens enc P w base spare held t (RSl size R) := by
  intro fuel cs y h
  rcases DataW.trod_slice ht h with ⟨rfl, _⟩ | ⟨a, len, cap, elems, rest, n, _, rfl, _, _, hl, hm, hlen, hel, _, _⟩
  · exact ⟨[], _, [], rfl, ⟨none, 0, rfl, Nat.le_refl _, Nat.zero_le _, fun _ => rfl, by simp, fun j u h => by simp at h⟩, fun i x h => by simp at h⟩
  · subst hs
    -- the cells of element i
    have each : ∀ i, i < len → ∃ ci : List Value, ci.length = P.cellsOf e ∧ (∀ j u, ci[j]? = some u → w.cell? ((a.add (i * P.cellsOf e)).add j) = some u) ∧ ∃ x, R w ci x := by
      intro i hi
      have h1 := hel i hi
      rw [List.getElem?_eq_getElem (by omega), Option.bind_eq_some_iff] at h1
      obtain ⟨ci, hci, hy⟩ := h1
      obtain ⟨h2, h3⟩ := cells?_get hci
      exact ⟨ci, h2, h3, he n ci _ hy⟩
    -- gathered
    have all : ∀ m, m ≤ len → ∃ (vs : List Value) (xs : List α), xs.length = m ∧ vs.length = m * P.cellsOf e ∧ (∀ j u, vs[j]? = some u → w.cell? (a.add j) = some u) ∧ ∀ i x, xs[i]? = some x → R w ((vs.drop (i * P.cellsOf e)).take (P.cellsOf e)) x := by
      intro m
      induction m with
      | zero => intro _; exact ⟨[], [], rfl, by simp, fun j u h => by simp at h, fun i x h => by simp at h⟩
      | succ m ih =>
        intro hm'
        obtain ⟨vs, xs, h1, h2, h3, h4⟩ := ih (by omega)
        obtain ⟨ci, c1, c2, x, c3⟩ := each m (by omega)
        refine ⟨vs ++ ci, xs ++ [x], by simp [h1], by simp [h2, c1, Nat.succ_mul], fun j u hj => ?_, fun i z hi => ?_⟩
        · rcases Nat.lt_or_ge j vs.length with hj1 | hj1
          · rw [List.getElem?_append_left hj1] at hj; exact h3 j u hj
          · rw [List.getElem?_append_right hj1] at hj
            have h5 := c2 _ _ hj
            rw [Addr.add_add, h2, show m * P.cellsOf e + (j - m * P.cellsOf e) = j by omega] at h5
            exact h5
        · rcases Nat.lt_or_ge i xs.length with hi1 | hi1
          · rw [List.getElem?_append_left hi1] at hi
            have h5 := h4 i z hi
            have h6 : i * P.cellsOf e + P.cellsOf e ≤ vs.length := by rw [h2, ← Nat.succ_mul]; exact Nat.mul_le_mul_right _ (by omega)
            rw [List.drop_append_of_le_length (by omega), List.take_append_of_le_length (by simp; omega)]
            exact h5
          · rw [List.getElem?_append_right hi1] at hi
            have hi2 : i = m := by
              have := (List.getElem?_eq_some_iff.1 hi).1
              simp at this; omega
            subst hi2
            rw [h1, Nat.sub_self] at hi
            simp at hi
            subst hi
            rw [← h2, List.drop_left, List.take_of_length_le (by omega)]
            exact c3
    obtain ⟨vs, xs, h1, h2, h3, h4⟩ := all len (Nat.le_refl _)
    refine ⟨xs, _, vs, rfl, ⟨some a, cap, by rw [h1], by omega, hm, (fun h => by cases h), by rw [h1]; exact h2, fun j u hj => ?_⟩, h4⟩
    have hsp : a.spot = none := by
      cases hv : vs with
      | nil => rw [hv] at hj; simp at hj
      | cons u0 r =>
        have := h3 0 u0 (by rw [hv]; rfl)
        rw [show a.add 0 = a by simp [Addr.add]] at this
        exact spot_of this
    exact ⟨⟨a, rfl, hsp⟩, by rw [← add_adr hsp]; exact h3 j u hj⟩
end

theorem RSl.bytes {w : World} {v : Value} {bs : List UInt8} (h : RSl 1 RByte w [v] bs) : Rd w 1 v bs.length (bvs bs) := by
  obtain ⟨v', vs, e, hr, hx⟩ := h
  cases e
  have hl := hr.len
  have : vs = bvs bs := by
    apply List.ext_getElem?
    intro i
    rw [bvs_getElem?]
    rcases Nat.lt_or_ge i bs.length with hi | hi
    · have h1 := hx i bs[i] (List.getElem?_eq_getElem hi)
      unfold RByte at h1
      have h2 : ((vs.drop (i * 1)).take 1)[0]? = some (bv bs[i]) := by rw [h1]; rfl
      rw [List.getElem?_take, List.getElem?_drop] at h2
      simp at h2
      rw [List.getElem?_eq_getElem hi]
      simpa using h2
    · rw [List.getElem?_eq_none (by omega), List.getElem?_eq_none (by omega)]; rfl
  rw [← this]
  exact hr

/-- One element's one cell. -/
theorem RSl.cell1 {α : Type} {R : Rel α} {w : World} {ao : Option Addr} {n cap : Nat} {xs : List α} (h : RSl 1 R w [.slice ao n cap] xs) {i : Nat} {x : α} (hi : xs[i]? = some x) {u : Value} (hu : ∀ cs, R w cs x → cs = [u]) :
    w.cell? (adr ao i) = some u ∧ ∃ a, ao = some a ∧ a.spot = none := by
  obtain ⟨v', vs, e, hr, hx⟩ := h
  cases e
  have h1 := hu _ (hx i x hi)
  have h2 : ((vs.drop (i * 1)).take 1)[0]? = some u := by rw [h1]; rfl
  rw [List.getElem?_take, List.getElem?_drop] at h2
  simp at h2
  obtain ⟨ao', cap', e, _, _, _, _, hc⟩ := hr
  cases e
  exact ⟨(hc i u h2).2, (hc i u h2).1⟩
theorem RSl.len {α : Type} {size : Nat} {R : Rel α} {w : World} {ao : Option Addr} {n cap : Nat} {xs : List α} (h : RSl size R w [.slice ao n cap] xs) : n = xs.length ∧ n ≤ cap ∧ n ≤ 9223372036854775807 := by
  obtain ⟨v', vs, e, hr, hx⟩ := h
  cases e
  have := hr.le
  obtain ⟨ao', cap', e, hc, _⟩ := hr
  cases e
  exact ⟨rfl, hc, this⟩
end Go.Sep
