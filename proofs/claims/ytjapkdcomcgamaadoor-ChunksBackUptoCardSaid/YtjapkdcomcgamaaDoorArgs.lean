/- What came in, as the laws read it. -/
import Derived.Test.YtjapkdcomcgamaaDoorOps
import Derived.Below
set_option linter.all false
namespace Go.Sep
open Go

theorem block_lt {w : World} {a : Addr} {u : Value} (h : w.cell? a = some u) : a.block < w.heap.size := World.block_lt_of_cell? w a h

/-- What reads at the beginning reads so all along. -/
theorem Rd.later {W w : World} {l : List Chunk} {size : Nat} {v : Value} {n : Nat} {cs : List Value} (h : Rd W size v n cs) (H : At w (initC W :: l)) : Rd w size v n cs := by
  obtain ⟨ao, cap, e, h1, h2, h4, h3, hc⟩ := h
  refine ⟨ao, cap, e, h1, h2, h4, h3, fun j u hu => ?_⟩
  obtain ⟨hs, hcell⟩ := hc j u hu
  exact ⟨hs, (H.below.cell (block_lt hcell)).trans hcell⟩

theorem bvs_cut (p r : List UInt8) (f k : Nat) (hf : f ≤ k) (hk : k = p.length) : ((bvs (p ++ r)).drop (f * 1)).take ((k - f) * 1) = bvs (p.drop f) := by
  subst hk
  simp only [bvs, Nat.mul_one, ← List.map_drop, ← List.map_take]
  rw [List.drop_append_of_le_length hf, List.take_append_of_le_length (by simp)]
  rw [List.take_of_length_le (by simp)]

theorem u8_bounds {k : Int} (h : (Lit.int .u8 k).wf = true) : 0 ≤ k ∧ k < 256 := by
  simp [Lit.wf, IntKind.min, IntKind.max, IntKind.signed, IntKind.bits] at h
  omega

/-- A []byte that came in: its bytes. -/
theorem bytes_in {W : World} {a : Option Addr} {len cap : Nat} {zs : List Int}
    (h : (a = none ∧ len = 0 ∧ cap = 0 ∧ zs = []) ∨
      ∃ x, a = some x ∧ len ≤ cap ∧ cap ≤ maxLen ∧ zs.length = cap ∧ (∀ i, i < zs.length → W.cell? (x.add i) = some (.int .u8 (zs.getD i 0))) ∧ ∀ n ∈ zs, (Lit.int .u8 n).wf = true) :
    ∃ bs : List UInt8, bs.length = len ∧ Rd W 1 (.slice a len cap) len (bvs bs) := by
  rcases h with ⟨rfl, rfl, rfl, rfl⟩ | ⟨x, rfl, hl, hm, hz, hc, hw⟩
  · exact ⟨[], rfl, none, 0, rfl, Nat.le_refl _, Nat.zero_le _, fun _ => rfl, rfl, fun j u h => by simp [bvs] at h⟩
  · refine ⟨(zs.take len).map fun k => UInt8.ofNat k.toNat, by simp; omega, some x, cap, rfl, hl, hm, (fun h => by cases h), by simp; omega, fun j u hu => ?_⟩
    have hj : j < len := by
      have := (List.getElem?_eq_some_iff.1 hu).1
      simp at this; omega
    have hjz : j < zs.length := by omega
    have hcell := hc j hjz
    have hb := u8_bounds (hw zs[j] (List.getElem_mem hjz))
    have hu' : u = .int .u8 (zs.getD j 0) := by
      simp only [bvs, List.map_map, List.getElem?_map, List.getElem?_take, hj, if_true, List.getElem?_eq_getElem hjz, Option.map_some, Option.some.injEq] at hu
      rw [← hu]
      have h1 : zs.getD j 0 = zs[j] := by simp [List.getD, hjz]
      rw [h1]
      simp only [Function.comp, bv]
      congr 1
      have h2 : zs[j].toNat < 256 := by omega
      simp [UInt8.toNat_ofNat', Nat.mod_eq_of_lt h2]
      omega
    have hsp : x.spot = none := by
      have h0 := hc 0 (by omega)
      have : x.add 0 = x := by simp [Addr.add]
      rw [this] at h0
      cases hs : x.spot with
      | none => rfl
      | some s =>
        unfold World.cell? at h0
        rw [hs] at h0
        split at h0 <;> simp at h0
    refine ⟨⟨x, rfl, hsp⟩, ?_⟩
    rw [← add_adr hsp, hcell, hu']

end Go.Sep
