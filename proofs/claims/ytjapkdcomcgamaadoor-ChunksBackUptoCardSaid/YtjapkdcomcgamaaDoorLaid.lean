/- Tables of Go's own that a row lists: the fact on a table out of the row's condition. -/
import Derived.Test.YtjapkdcomcgamaaDoorAbO
import Derived.Lib.ItoaNum
import Derived.Lib.LaidTab
import Derived.Lib.TrailingZeros
set_option linter.all false
namespace Go.Ab
open Go

theorem laid_tail {P : Program} {x : String × DataW Unit} {rest : List (String × DataW Unit)} {w : World} (h : laidMet P (x :: rest) w) : laidMet P rest w := by
  obtain ⟨ps, ⟨g, t, cs, fuel, p, q, h1, h2, h3, h4, h5, rfl⟩, hn, hc⟩ := h
  exact ⟨q, h5, (List.nodup_append.1 hn).2.1, fun b off hm => hc b off (List.mem_append_right _ hm)⟩
theorem pow10_of {P : Program} {W : World} {d : DataW Unit} {rest : List (String × DataW Unit)} (g t e : Nat) (hd : d = Lib.tabData .u64 Lib.pow10Tab)
    (hg : P.globalNamed "internal/strconv.uint64pow10" = some g) (hty : (P.globals[g]?).map (·.type) = some t) (ht : P.underlying t = some (.array 20 e)) (he : P.underlying e = some (.int .u64)) (hce : P.cellsOf e = 1) (hct : P.cellsOf t = 20)
    (h : laidMet P (("internal/strconv.uint64pow10", d) :: rest) W) : Lib.TabIs P W "internal/strconv.uint64pow10" .u64 Lib.pow10Tab := by
  subst hd
  exact Lib.tabIs_of_head hg hty ht he hce hct h
theorem bru_of {P : Program} {W : World} {d : DataW Unit} {rest : List (String × DataW Unit)} (g t e : Nat) (hd : d = Lib.tabData .u8 (Lib.deBruijn64tab.map Int.ofNat))
    (hg : P.globalNamed "math/bits.deBruijn64tab" = some g) (hty : (P.globals[g]?).map (·.type) = some t) (ht : P.underlying t = some (.array 64 e)) (he : P.underlying e = some (.int .u8)) (hce : P.cellsOf e = 1) (hct : P.cellsOf t = 64)
    (h : laidMet P (("math/bits.deBruijn64tab", d) :: rest) W) : Lib.TabIs P W "math/bits.deBruijn64tab" .u8 (Lib.deBruijn64tab.map Int.ofNat) := by
  subst hd
  exact Lib.tabIs_of_head hg hty ht he hce hct h
end Go.Ab
