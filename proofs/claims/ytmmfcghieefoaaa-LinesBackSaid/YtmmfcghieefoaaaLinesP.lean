/- Lines of a stream: the plain functions. -/
import Derived.Test.YtmmfcghieefoaaaOps
namespace Go.Sep

theorem byte_inj {c d : UInt8} (h : (c.toNat : Int) = d.toNat) : c = d := UInt8.toNat_inj.1 (by omega)
theorem beq_byte (c : UInt8) (d : Int) (e : UInt8) (h : d = e.toNat) : ((c.toNat : Int) == d) = (c == e) := by
  subst h
  rw [Bool.eq_iff_iff, beq_iff_eq, beq_iff_eq]
  exact ⟨byte_inj, fun h => by rw [h]⟩
theorem bne_byte (c : UInt8) (d : Int) (e : UInt8) (h : d = e.toNat) : ((c.toNat : Int) != d) = (c != e) := by
  simp only [bne, beq_byte c d e h]
theorem byte_lt (c : UInt8) : (c.toNat : Int) < 256 := by have := c.toNat_lt; omega

namespace P

/-- May a byte stand in a value? -/
def seen (c : UInt8) : Bool := c == 9 || (decide (32 ≤ c.toNat) && c != 127)

theorem seen_9 {c : UInt8} (h : (c.toNat : Int) = 9) : seen c = true := by
  have : c = 9 := byte_inj h
  subst this; rfl
theorem seen_not9 {c : UInt8} (h : ((c.toNat : Int) == 9) = false) : seen c = (decide (32 ≤ (c.toNat : Int)) && (c.toNat : Int) != 127) := by
  rw [beq_byte c 9 9 rfl] at h
  rw [bne_byte c 127 127 rfl, seen, h, Bool.false_or]
  congr 1
  exact decide_eq_decide.2 (by omega)

structure Lines where
  b : List UInt8
  cr : Bool
  code : Int

def Lines.feed (s : Lines) (c : UInt8) : Lines × (List UInt8 × Bool × Int) :=
  if s.code ≠ 0 then (s, [], false, s.code)
  else if s.cr then (if c = 10 then (⟨[], false, 0⟩, s.b, true, 0) else ({ s with code := 2 }, [], false, 2))
  else if c = 10 then ({ s with code := 2 }, [], false, 2)
  else if c = 13 then ({ s with cr := true }, [], false, 0)
  else if !seen c then ({ s with code := 3 }, [], false, 3)
  else if s.b.length = 200 then ({ s with code := 4 }, [], false, 4)
  else ({ s with b := s.b ++ [c] }, [], false, 0)

end P
end Go.Sep
