/- The reference's LineOf: the walk. -/
import Derived.Test.YtmmfcghieefoaaaLinesW
import Derived.Test.YtmmfcghieefoaaaLinesL
namespace Go.Proofs.Ytmmfcghieefoaaa
open Go Go.RowKit Go.Sep

theorem size_byte : (Try.prog.info? 5).map (·.size) = some 1 := by kernel_rfl

theorem isSeen_c (c : UInt8) (w : World) :
    Calls Try.prog 42 #[bv c] w fun e w' => e = .returned (.bool (P.seen c)) ∧ w = w' := by
  have hb := byte_lt c
  unfold bv
  by_cases h : (c.toNat : Int) = 9
  · have h1 : ((c.toNat : Int) == 9) = true := by simpa using h
    rw [P.seen_9 h]; clear h
    go_enter Try.func42, Try.ntmps42
    go_wp2
    go_ret
    exact ⟨rfl, rfl⟩
  · have h1 : ((c.toNat : Int) == 9) = false := by simpa using h
    rw [P.seen_not9 h1]; clear h
    by_cases h2 : 31 < (c.toNat : Int)
    all_goals
      go_enter Try.func42, Try.ntmps42
      go_wp2
      go_ret
      exact ⟨by first | (simp; omega) | (rw [show decide (32 ≤ (c.toNat : Int)) = true by simp; omega]; rfl), rfl⟩

set_option maxRecDepth 100000 in
set_option maxHeartbeats 4000000 in
theorem lineOf_c (v : Value) (n : Nat) (bs : List UInt8) (w : World) (hr : Rd w 1 v n (bvs bs)) :
    Calls Try.prog 14 #[v] w fun e w' => e = .returned (.tuple #[.string (S (P.lineOf bs).1), .int .i64 (P.lineOf bs).2.1, .bool (P.lineOf bs).2.2.1, .int .i64 (P.lineOf bs).2.2.2]) ∧ w = w' := by
  have hn : n = bs.length := by simpa using hr.len.symm
  subst hn
  have hle := hr.le
  have hr0 := hr
  obtain ⟨ao, cap, rfl, hcap, -⟩ := hr0
  go_enter Try.func14, Try.ntmps14
  go_wp2
  go_loop [6] (fun i => ∃ pre rest : List UInt8, bs = pre ++ rest ∧ i = .int .i64 pre.length ∧ P.lineOf bs = P.lineGo pre rest) (fun i => bs.length - (intOf i).toNat)
  case atStart => exact ⟨[], bs, rfl, rfl, rfl⟩
  case round =>
    obtain ⟨pre, rest, hbs, rfl, hrel⟩ := hrel
    have HR : Hid (P.lineOf bs = P.lineGo pre rest) := hrel
    clear hrel
    have hlen : bs.length = pre.length + rest.length := by rw [hbs]; simp
    cases rest with
    | nil =>
      have hge : ¬ ((pre.length : Int) < (bs.length : Int)) := by simp at hlen; omega
      clear hlen hbs
      have e : P.lineGo pre [] = ([], 0, false, 0) := rfl
      go_wp2
      refine bodyPost_ret (results_tmp4 rfl _ _ _) rfl ?_
      exact ⟨by rw [HR.out, e]; rfl, rfl⟩
    | cons c r =>
      have hlt : pre.length < bs.length := by simp at hlen; omega
      have hsp := hr.spot (j := pre.length) (by simpa using hlt)
      have hC : w.cell? (adr ao pre.length) = some (.int .u8 (c.toNat : Int)) := by simpa [bvs, bv, hbs] using hr.cell (j := pre.length) (by simpa using hlt)
      have hb := byte_lt c
      have t1 : ((c.toNat : Int) == 13) = (c == 13) := beq_byte c 13 13 rfl
      have t2 : ((c.toNat : Int) == 10) = (c == 10) := beq_byte c 10 10 rfl
      by_cases h1 : c = 13
      · subst h1
        cases r with
        | nil =>
          have t3 : ((pre.length : Int) + 1 == (bs.length : Int)) = true := by simp at hlen; simp; omega
          clear hlen hbs
          have e : P.lineGo pre [13] = ([], 0, false, 0) := rfl
          go_wp2_with ((with_reducible show wpList _ _ _ (⟨_, .indexAddr _ _ _, _, _, _, _⟩ :: _) _ _); refine wpL_index Try.underlying22 size_byte rfl rfl (by omega) (by omega) hsp rfl ?_; simp only [Act.put, List.setIfInBounds_toArray, List.set_cons_succ, List.set_cons_zero])
          refine bodyPost_ret (results_tmp4 rfl _ _ _) rfl ?_
          exact ⟨by rw [HR.out, e]; rfl, rfl⟩
        | cons d r =>
          have t3 : ((pre.length : Int) + 1 == (bs.length : Int)) = false := by simp at hlen; simp; omega
          have hlt2 : pre.length + 1 < bs.length := by simp at hlen; omega
          have hD : w.cell? (adr ao (pre.length + 1)) = some (.int .u8 (d.toNat : Int)) := by simpa [bvs, bv, hbs] using hr.cell (j := pre.length + 1) (by simpa using hlt2)
          have hd := byte_lt d
          have t4 : ((d.toNat : Int) != 10) = (d != 10) := bne_byte d 10 10 rfl
          clear hlen
          by_cases h2 : d = 10
          · subst h2
            have hpre : ((bvs bs).drop (0 * 1)).take ((pre.length - 0) * 1) = bvs pre := by simp [hbs, bvs]
            have e : P.lineGo pre (13 :: 10 :: r) = (pre, (pre.length : Int) + 2, true, 0) := rfl
            clear hbs
            go_wp2_with (first | ((with_reducible show wpList _ _ _ (⟨_, .indexAddr _ _ _, _, _, _, _⟩ :: _) _ _); refine wpL_index Try.underlying22 size_byte rfl rfl (by omega) (by omega) hsp rfl ?_; simp only [Act.put, List.setIfInBounds_toArray, List.set_cons_succ, List.set_cons_zero]) | ((with_reducible show wpList _ _ _ (⟨_, .slice _ _ _ _ _, _, _, _, _⟩ :: _) _ _); refine wpL_slice Try.underlying22 size_byte 0 pre.length (D := (· = w)) (fun w' h => by rw [h]; exact hr) (by omega) rfl (.inl ⟨rfl, rfl⟩) (.inr ⟨_, rfl⟩) (by omega) (by omega) rfl ?_; intro ao' cap' hc' hr'; have hs' := hr' w rfl; rw [show ((bvs bs).drop (0 * 1)).take ((pre.length - 0) * 1) = bvs pre from hpre] at hs'; clear hr'; simp only [Act.put, List.setIfInBounds_toArray, List.set_cons_succ, List.set_cons_zero]) | ((with_reducible show wpList _ _ _ (⟨_, .convert _ _ _, _, _, _, _⟩ :: _) _ _); refine wpL_string Try.underlying22 Try.underlying5 Try.underlying9 rfl hs' rfl ?_; simp only [Act.put, List.setIfInBounds_toArray, List.set_cons_succ, List.set_cons_zero]))
            refine bodyPost_ret (results_tmp4 rfl _ _ _) rfl ?_
            exact ⟨by rw [HR.out, e]; rfl, rfl⟩
          · rw [show (d != 10) = true by simpa using h2] at t4
            clear hbs
            have e : P.lineGo pre (13 :: d :: r) = ([], (pre.length : Int) + 2, false, 2) := by simp [P.lineGo, h2]
            go_wp2_with ((with_reducible show wpList _ _ _ (⟨_, .indexAddr _ _ _, _, _, _, _⟩ :: _) _ _); refine wpL_index Try.underlying22 size_byte rfl rfl (by omega) (by omega) hsp rfl ?_; simp only [Act.put, List.setIfInBounds_toArray, List.set_cons_succ, List.set_cons_zero])
            refine bodyPost_ret (results_tmp4 rfl _ _ _) rfl ?_
            exact ⟨by rw [HR.out, e]; rfl, rfl⟩
      · rw [show (c == 13) = false by simpa using h1] at t1
        by_cases h2 : c = 10
        · subst h2
          clear hlen hbs
          have e : P.lineGo pre (10 :: r) = ([], (pre.length : Int) + 1, false, 2) := rfl
          go_wp2_with ((with_reducible show wpList _ _ _ (⟨_, .indexAddr _ _ _, _, _, _, _⟩ :: _) _ _); refine wpL_index Try.underlying22 size_byte rfl rfl (by omega) (by omega) hsp rfl ?_; simp only [Act.put, List.setIfInBounds_toArray, List.set_cons_succ, List.set_cons_zero])
          refine bodyPost_ret (results_tmp4 rfl _ _ _) rfl ?_
          exact ⟨by rw [HR.out, e]; rfl, rfl⟩
        · rw [show (c == 10) = false by simpa using h2] at t2
          by_cases h3 : P.seen c = true
          · have h3' : (!P.seen c) = false := by simp [h3]
            by_cases h4 : pre.length = 200
            · have t3 : ((pre.length : Int) == 200) = true := by simp; omega
              have e : P.lineGo pre (c :: r) = ([], (pre.length : Int) + 1, false, 4) := by rw [P.lineGo.eq_def]; simp [h1, h2, h3, h4]
              clear hlen hbs h4
              go_wp2_with (first | ((with_reducible show wpList _ _ _ (⟨_, .indexAddr _ _ _, _, _, _, _⟩ :: _) _ _); refine wpL_index Try.underlying22 size_byte rfl rfl (by omega) (by omega) hsp rfl ?_; simp only [Act.put, List.setIfInBounds_toArray, List.set_cons_succ, List.set_cons_zero]) | (go_at_call 42; refine (isSeen_c c _).mono ?_; rintro e w1 ⟨rfl, rfl⟩))
              refine bodyPost_ret (results_tmp4 rfl _ _ _) rfl ?_
              exact ⟨by rw [HR.out, e]; rfl, rfl⟩
            · have t3 : ((pre.length : Int) == 200) = false := by simp; omega
              have e : P.lineGo pre (c :: r) = P.lineGo (pre ++ [c]) r := by rw [P.lineGo.eq_def]; simp [h1, h2, h3, h4]
              have HB : Hid (bs = pre ++ c :: r) := hbs
              clear hbs hlen h4
              go_wp2_with (first | ((with_reducible show wpList _ _ _ (⟨_, .indexAddr _ _ _, _, _, _, _⟩ :: _) _ _); refine wpL_index Try.underlying22 size_byte rfl rfl (by omega) (by omega) hsp rfl ?_; simp only [Act.put, List.setIfInBounds_toArray, List.set_cons_succ, List.set_cons_zero]) | (go_at_call 42; refine (isSeen_c c _).mono ?_; rintro e w1 ⟨rfl, rfl⟩))
              go_round
              case rel => exact ⟨pre ++ [c], r, HB.out.trans (List.append_cons _ _ _), by simp, HR.out.trans e⟩
              case measure => simp [intOf]; omega
          · have h3' : (!P.seen c) = true := by simp [h3]
            have e : P.lineGo pre (c :: r) = ([], (pre.length : Int) + 1, false, 3) := by rw [P.lineGo.eq_def]; simp [h1, h2, h3]
            clear hlen hbs
            go_wp2_with (first | ((with_reducible show wpList _ _ _ (⟨_, .indexAddr _ _ _, _, _, _, _⟩ :: _) _ _); refine wpL_index Try.underlying22 size_byte rfl rfl (by omega) (by omega) hsp rfl ?_; simp only [Act.put, List.setIfInBounds_toArray, List.set_cons_succ, List.set_cons_zero]) | (go_at_call 42; refine (isSeen_c c _).mono ?_; rintro e w1 ⟨rfl, rfl⟩))
            refine bodyPost_ret (results_tmp4 rfl _ _ _) rfl ?_
            exact ⟨by rw [HR.out, e]; rfl, rfl⟩
end Go.Proofs.Ytmmfcghieefoaaa
