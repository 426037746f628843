/- The reference's SeenText: the walk. -/
import Derived.Test.YtmmfcghieefoaaaLineOfW
import Derived.Test.YtmmfcghieefoaaaStrs
namespace Go.Proofs.Ytmmfcghieefoaaa
open Go Go.RowKit Go.Sep

theorem seenText_c (l : List UInt8) (hl : l.length ≤ maxLen) (w : World) :
    Calls Try.prog 16 #[.string (S l)] w fun e w' => e = .returned (.bool (l.all P.seen)) ∧ w = w' := by
  unfold maxLen at hl
  go_enter Try.func16, Try.ntmps16
  go_wp2_with fail
  go_loop [3] (fun i => ∃ pre rest : List UInt8, l = pre ++ rest ∧ i = .int .i64 pre.length ∧ l.all P.seen = rest.all P.seen) (fun i => l.length - (intOf i).toNat)
  case atStart => exact ⟨[], l, rfl, rfl, rfl⟩
  case round =>
    obtain ⟨pre, rest, hbs, rfl, hrel⟩ := hrel
    have HR := hid hrel
    clear hrel
    have hlen : l.length = pre.length + rest.length := by rw [hbs]; simp
    have HB := hid hbs
    cases rest with
    | nil =>
      have hge : ¬ ((pre.length : Int) < (l.length : Int)) := by simp at hlen; omega
      clear hlen hbs
      go_wp2_with fail
      go_ret
      exact ⟨by rw [HR.out]; rfl, rfl⟩
    | cons c r =>
      have hlt : pre.length < l.length := by simp at hlen; omega
      have hC : l[pre.length]? = some c := by rw [hbs]; simp
      clear hlen hbs
      by_cases h : P.seen c = true
      · have h' : (!P.seen c) = false := by simp [h]
        have e : (c :: r).all P.seen = r.all P.seen := by simp [h]
        have HE := hid e
        clear e
        go_wp2_with (first | ((with_reducible show wpList _ _ _ (⟨_, .index _ _ _, _, _, _, _⟩ :: _) _ _); refine wpL_strIndex Try.underlying9 hC rfl rfl (by omega) rfl ?_; simp only [Act.put, List.setIfInBounds_toArray, List.set_cons_succ, List.set_cons_zero]) | (go_at_call 42; refine (isSeen_c c _).mono ?_; rintro e w1 ⟨rfl, rfl⟩))
        go_round
        case rel => exact ⟨pre ++ [c], r, HB.out.trans (List.append_cons _ _ _), by simp, HR.out.trans HE.out⟩
        case measure => simp [intOf]; omega
      · have h' : (!P.seen c) = true := by simp [h]
        have e : (c :: r).all P.seen = false := by simp [h]
        have HE := hid e
        clear e
        go_wp2_with (first | ((with_reducible show wpList _ _ _ (⟨_, .index _ _ _, _, _, _, _⟩ :: _) _ _); refine wpL_strIndex Try.underlying9 hC rfl rfl (by omega) rfl ?_; simp only [Act.put, List.setIfInBounds_toArray, List.set_cons_succ, List.set_cons_zero]) | (go_at_call 42; refine (isSeen_c c _).mono ?_; rintro e w1 ⟨rfl, rfl⟩))
        go_ret
        exact ⟨by rw [HR.out, HE.out]; rfl, rfl⟩
end Go.Proofs.Ytmmfcghieefoaaa
