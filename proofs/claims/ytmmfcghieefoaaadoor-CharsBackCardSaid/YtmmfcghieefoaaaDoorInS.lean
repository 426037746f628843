/- Strings that came in. -/
import Derived.Test.YtmmfcghieefoaaaDoorIn
set_option linter.all false
namespace Go.Ab
open Go Go.Sep
theorem str_md {S : Frz} {x : ByteArray} (h : x.size ≤ maxLen) : MP S (.str x.data.toList) (.string x) := by
  have : Sep.S x.data.toList = x := by cases x; rfl
  have h2 := MP.str (S := S) x.data.toList (by rw [Array.length_toList]; exact h)
  rwa [this] at h2
end Go.Ab
