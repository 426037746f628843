/- Strings that came in. -/
import Derived.Test.YtmmfcghieefoaaaDoorIn
set_option linter.all false
namespace Go.Ab
open Go Go.Sep
theorem str_md {S : Frz} {x : ByteArray} (h : x.size ≤ maxLen) : MP S (.str x.data.toList) (.string x) := by
  have : Sep.S x.data.toList = x := by cases x; rfl
  have h2 := MP.str (S := S) x.data.toList (by rw [Array.length_toList]; exact h)
  rwa [this] at h2
theorem wfY_of {n : Int} (h : (Lit.int .u8 n).wf = true) : 0 ≤ n ∧ n ≤ 255 := by
  simp only [Lit.wf, Bool.and_eq_true, decide_eq_true_eq] at h
  have h1 : IntKind.u8.min = 0 := by decide
  have h2 : IntKind.u8.max = 255 := by decide
  rw [h1, h2] at h; exact h
end Go.Ab
