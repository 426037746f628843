/- LinesDoes: the walk of the law. -/
import Derived.Test.YtmmfcghieefoaaaLineOfW
import Derived.Test.YtmmfcghieefoaaaArgs
namespace Go.Proofs.Ytmmfcghieefoaaa
open Go Go.RowKit Go.Sep

set_option maxRecDepth 100000 in
theorem lawLinesBegun_c (l : List Chunk) (w : World) (H : At w l) :
    Calls Try.prog 11 #[] w fun e w' => e = .returned (.bool true) ∧ At w' l := by
  go_enter Try.func11, Try.ntmps11
  go_wp2_with fail
  refine (linesNew_c l w H).mono ?_
  rintro e w1 ⟨b, rfl, H1⟩
  go_wp2_with fail
  refine (linesFeed_k b _ ⟨[97], false, 0⟩ 97 97 [] false 0 rfl rfl l _ (by simp) H1).mono ?_
  rintro e w2 ⟨rfl, H2⟩
  clear H1
  go_wp2_with fail
  refine (linesFeed_k b _ ⟨[97], true, 0⟩ 13 13 [] false 0 rfl rfl l _ (by simp) H2).mono ?_
  rintro e w3 ⟨rfl, H3⟩
  clear H2
  go_wp2_with fail
  refine (linesFeed_k b _ ⟨[], false, 0⟩ 10 10 [97] true 0 rfl rfl l _ (by simp) H3).mono ?_
  rintro e w4 ⟨rfl, H4⟩
  clear H3
  go_wp2_with fail
  refine (linesFeed_k b _ ⟨[], false, 2⟩ 10 10 [] false 2 rfl rfl l _ (by simp) H4).mono ?_
  rintro e w5 ⟨rfl, H5⟩
  clear H4
  go_wp2_with fail
  go_ret
  exact ⟨rfl, H5.tail⟩

set_option maxRecDepth 100000 in
set_option maxHeartbeats 4000000 in
theorem lawLinesDoes_c (v : Value) (n : Nat) (bs : List UInt8) (W : World) (hr : Rd W 1 v n (bvs bs)) :
    Calls Try.prog 3 #[v] W fun e w' => e = .returned (.bool true) ∧ Below W.heap.size W w' := by
  have hn : n = bs.length := by simpa using hr.len.symm
  subst hn
  have hle := hr.le
  obtain ⟨ao, cap, rfl, hcap, -⟩ := id hr
  have hR : ∀ w', At w' [initC W] → Rd w' 1 (.slice ao bs.length cap) bs.length (bvs bs) := fun w' h => hr.later h
  go_enter Try.func3, Try.ntmps3
  go_wp2_with fail
  refine (lawLinesBegun_c [initC W] W (At.begin W)).mono ?_
  rintro e w1 ⟨rfl, H1⟩
  by_cases hbig : 2000 < bs.length
  · go_wp2_with fail
    go_ret
    exact ⟨rfl, H1.below⟩
  · go_wp2_with fail
    refine (linesNew_c [initC W] w1 H1).mono ?_
    rintro e w2 ⟨b, rfl, H2⟩
    clear H1
    go_wp2_with fail
    go_loopw [4, 5, 6] (fun fr cd i wr => ∃ (pre rest : List UInt8) (f : Nat) (st : P.Lines), bs = pre ++ rest ∧ i = .int .i64 pre.length ∧ fr = .int .i64 f ∧ cd = .int .i64 st.code ∧ P.Inv pre f st ∧ At wr [linesC b st, initC W])
      (fun _ _ i _ => bs.length - (intOf i).toNat)
    case atStart => exact ⟨[], bs, 0, ⟨[], false, 0⟩, rfl, rfl, rfl, rfl, P.Inv.start, H2⟩
    case round =>
      obtain ⟨pre, rest, f, st, hbs, rfl, rfl, rfl, hinv, H⟩ := hrel
      clear H2
      have hlen : bs.length = pre.length + rest.length := by rw [hbs]; simp
      have hf : f ≤ pre.length := hinv.2.1
      cases rest with
      | nil =>
        have hge : ¬ ((pre.length : Int) < (bs.length : Int)) := by simp at hlen; omega
        clear hlen hbs
        go_wp2
        go_ret
        exact ⟨rfl, H.tail.below⟩
      | cons c r =>
        have hlt : pre.length < bs.length := by simp at hlen; omega
        have hcR : ∀ w', At w' [initC W] → Rd w' 1 (.slice ao bs.length cap) bs.length (bvs bs) := fun w' h => hr.later h
        have hsp := hr.spot (j := pre.length) (by simpa using hlt)
        have hC := (hr.later H.tail).cell (j := pre.length) (by simpa using hlt)
        rw [show (bvs bs)[pre.length]'(by simpa using hlt) = .int .u8 (c.toNat : Int) by simp [bvs, bv, hbs]] at hC
        have hb := byte_lt c
        have hB2 : bs = (pre ++ [c]) ++ r := by rw [hbs]; simp
        have hdrop : (((bvs bs).drop (f * 1)).take ((pre.length + 1 - f) * 1)) = bvs ((pre ++ [c]).drop f) := by rw [hB2]; exact bvs_cut _ _ _ _ (by omega) (by simp)
        have HB := hid hB2
        clear hB2
        clear hbs hlen
        by_cases h0 : st.code = 0
        · obtain ⟨s', t, ended, e, m, n, hfeed, hcode, hlo, h1, h2⟩ := hinv.step h0 c
          have HF := hid (linesFeed_k b st s' c (c.toNat : Int) t ended e rfl hfeed [initC W] wr hinv.1 H)
          have hc0 : (st.code != 0) = false := by simp [h0]
          clear hfeed hinv H h0
          cases ended with
          | true =>
            obtain ⟨rfl, rfl, hn, hinv', hbeg⟩ := h1 rfl
            have HC := hid hcode
            have hge : ¬ ((f : Int) + n ≤ pre.length) := by omega
            have hge' : decide ((f : Int) + n ≤ pre.length) = false := by simpa using hge
            have HN := hid hn
            have hub : f + n ≤ 9223372036854775807 := by omega
            clear h1 h2 hcode hn
            go_wp2_with (first
              | ((with_reducible show wpList _ _ _ (⟨_, .indexAddr _ _ _, _, _, _, _⟩ :: _) _ _); refine wpL_index Try.underlying22 size_byte rfl rfl (by omega) (by omega) hsp rfl ?_; simp only [Act.put, List.setIfInBounds_toArray, List.set_cons_succ, List.set_cons_zero])
              | (go_at_call 13; refine HF.out.mono ?_; rintro en w3 ⟨rfl, H3⟩)
              | ((with_reducible show wpList _ _ _ (⟨_, .slice _ _ _ _ _, _, _, _, _⟩ :: _) _ _); refine wpL_slice Try.underlying22 size_byte f (pre.length + 1) (D := fun w' => At w' [initC W]) hcR (by omega) rfl (.inr ⟨_, rfl⟩) (.inr ⟨_, rfl⟩) (by omega) (by omega) rfl ?_; intro ao' cap' hc' hr'; rw [hdrop] at hr'; simp only [Act.put, List.setIfInBounds_toArray, List.set_cons_succ, List.set_cons_zero])
              | (go_at_call 14; have hL := lineOf_c _ _ _ _ (hr' _ H3.tail); rw [hlo] at hL; refine hL.mono ?_; rintro en w4 ⟨rfl, rfl⟩)
              | (go_at_call 15; have hL := linesBegun_c b s' _ _ hinv'.1 H3; rw [hbeg] at hL; refine hL.mono ?_; rintro en w4 ⟨rfl, rfl⟩))
            go_roundw
            case rel => exact ⟨pre ++ [c], r, f + n, s', HB.out, by simp, by simp, by rw [HC.out], hinv', H3⟩
            case measure => simp [intOf]; omega
          | false =>
            obtain ⟨hinv', hbeg⟩ := h2 rfl
            have HC := hid hcode
            have hle1 : (f : Int) ≤ pre.length := by omega
            have hle' : decide ((f : Int) ≤ pre.length) = true := by simpa using hle1
            clear h1 h2 hcode
            by_cases he : e = 0
            · have hbeg := hbeg he
              subst he
              go_wp2_with (first
                | ((with_reducible show wpList _ _ _ (⟨_, .indexAddr _ _ _, _, _, _, _⟩ :: _) _ _); refine wpL_index Try.underlying22 size_byte rfl rfl (by omega) (by omega) hsp rfl ?_; simp only [Act.put, List.setIfInBounds_toArray, List.set_cons_succ, List.set_cons_zero])
                | (go_at_call 13; refine HF.out.mono ?_; rintro en w3 ⟨rfl, H3⟩)
                | ((with_reducible show wpList _ _ _ (⟨_, .slice _ _ _ _ _, _, _, _, _⟩ :: _) _ _); refine wpL_slice Try.underlying22 size_byte f (pre.length + 1) (D := fun w' => At w' [initC W]) hcR (by omega) rfl (.inr ⟨_, rfl⟩) (.inr ⟨_, rfl⟩) (by omega) (by omega) rfl ?_; intro ao' cap' hc' hr'; rw [hdrop] at hr'; simp only [Act.put, List.setIfInBounds_toArray, List.set_cons_succ, List.set_cons_zero])
                | (go_at_call 14; have hL := lineOf_c _ _ _ _ (hr' _ H3.tail); rw [hlo] at hL; refine hL.mono ?_; rintro en w4 ⟨rfl, rfl⟩)
                | (go_at_call 15; have hL := linesBegun_c b s' _ _ hinv'.1 H3; rw [hbeg] at hL; refine hL.mono ?_; rintro en w4 ⟨rfl, rfl⟩))
              any_goals (with_reducible exact trivial)
              go_roundw
              case rel => exact ⟨pre ++ [c], r, f, s', HB.out, by simp, rfl, by rw [HC.out], hinv', H3⟩
              case measure => simp [intOf]; omega
            · have he' : (e == 0) = false := by simpa using he
              clear hbeg he
              go_wp2_with (first
                | ((with_reducible show wpList _ _ _ (⟨_, .indexAddr _ _ _, _, _, _, _⟩ :: _) _ _); refine wpL_index Try.underlying22 size_byte rfl rfl (by omega) (by omega) hsp rfl ?_; simp only [Act.put, List.setIfInBounds_toArray, List.set_cons_succ, List.set_cons_zero])
                | (go_at_call 13; refine HF.out.mono ?_; rintro en w3 ⟨rfl, H3⟩)
                | ((with_reducible show wpList _ _ _ (⟨_, .slice _ _ _ _ _, _, _, _, _⟩ :: _) _ _); refine wpL_slice Try.underlying22 size_byte f (pre.length + 1) (D := fun w' => At w' [initC W]) hcR (by omega) rfl (.inr ⟨_, rfl⟩) (.inr ⟨_, rfl⟩) (by omega) (by omega) rfl ?_; intro ao' cap' hc' hr'; rw [hdrop] at hr'; simp only [Act.put, List.setIfInBounds_toArray, List.set_cons_succ, List.set_cons_zero])
                | (go_at_call 14; have hL := lineOf_c _ _ _ _ (hr' _ H3.tail); rw [hlo] at hL; refine hL.mono ?_; rintro en w4 ⟨rfl, rfl⟩)
                | (go_at_call 15; have hL := linesBegun_c b s' _ _ hinv'.1 H3; rw [hbeg] at hL; refine hL.mono ?_; rintro en w4 ⟨rfl, rfl⟩))
              go_roundw
              case rel => exact ⟨pre ++ [c], r, f, s', HB.out, by simp, rfl, by rw [HC.out], hinv', H3⟩
              case measure => simp [intOf]; omega
        · obtain ⟨hfeed, hinv'⟩ := hinv.dead h0 c
          have HF := hid (linesFeed_k b st st c (c.toNat : Int) [] false st.code rfl hfeed [initC W] wr hinv.1 H)
          have hc0 : (st.code != 0) = true := by simp [h0]
          clear hfeed hinv H h0
          go_wp2_with (first
            | ((with_reducible show wpList _ _ _ (⟨_, .indexAddr _ _ _, _, _, _, _⟩ :: _) _ _); refine wpL_index Try.underlying22 size_byte rfl rfl (by omega) (by omega) hsp rfl ?_; simp only [Act.put, List.setIfInBounds_toArray, List.set_cons_succ, List.set_cons_zero])
            | (go_at_call 13; refine HF.out.mono ?_; rintro en w3 ⟨rfl, H3⟩))
          go_roundw
          case rel => exact ⟨pre ++ [c], r, f, st, HB.out, by simp, rfl, rfl, hinv', H3⟩
          case measure => simp [intOf]; omega
end Go.Proofs.Ytmmfcghieefoaaa
