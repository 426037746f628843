/- LinesBack: the walk of the law. -/
import Derived.Test.YtmmfcghieefoaaaLinesDoes
import Derived.Test.YtmmfcghieefoaaaSeenW
import Derived.Test.YtmmfcghieefoaaaLinesBackL
namespace Go.Proofs.Ytmmfcghieefoaaa
open Go Go.RowKit Go.Sep

theorem size_string : (Try.prog.info? 9).map (·.size) = some 1 := by kernel_rfl

set_option maxRecDepth 100000 in
set_option maxHeartbeats 4000000 in
theorem lawLinesBack_c (v : Value) (xs : List (List UInt8)) (W : World) (hx : RSl 1 RStr W [v] xs) (hv : ∃ ao n cap, v = .slice ao n cap) :
    Calls Try.prog 4 #[v] W fun e w' => e = .returned (.bool true) ∧ Below W.heap.size W w' := by
  obtain ⟨ao, n, cap, rfl⟩ := hv
  obtain ⟨rfl, hcap, hle⟩ := hx.len
  have hX : ∀ w', At w' [initC W] → RSl 1 RStr w' [.slice ao xs.length cap] xs := fun w' h => stab_sl stab_str _ _ _ _ _ hx h
  go_enter Try.func4, Try.ntmps4
  go_wp2_with fail
  refine (lawLinesBegun_c [initC W] W (At.begin W)).mono ?_
  rintro e w1 ⟨rfl, H1⟩
  by_cases hbig : 100 < xs.length
  · go_wp2_with fail
    go_ret
    exact ⟨rfl, H1.below⟩
  · go_wp2_with fail
    refine (linesNew_c [initC W] w1 H1).mono ?_
    rintro e w2 ⟨b, rfl, H2⟩
    clear H1
    go_wp2_with fail
    go_loopw [4] (fun i wr => ∃ (pre rest : List (List UInt8)), xs = pre ++ rest ∧ i = .int .i64 pre.length ∧ At wr [linesC b ⟨[], false, 0⟩, initC W])
      (fun i _ => xs.length - (intOf i).toNat)
    case atStart => exact ⟨[], xs, rfl, rfl, H2⟩
    case round =>
      obtain ⟨pre, rest, hxs, rfl, H⟩ := hrel
      clear H2
      have hlen : xs.length = pre.length + rest.length := by rw [hxs]; simp
      cases rest with
      | nil =>
        have hge : ¬ ((pre.length : Int) < (xs.length : Int)) := by simp at hlen; omega
        clear hlen hxs
        go_wp2_with fail
        go_ret
        exact ⟨rfl, H.tail.below⟩
      | cons s r =>
        have hlt : pre.length < xs.length := by simp at hlen; omega
        have hget : xs[pre.length]? = some s := by rw [hxs]; simp
        have hcellAt : ∀ w', At w' [initC W] → w'.cell? (adr ao pre.length) = some (.string (S s)) := fun w' h => ((hX w' h).cell1 hget (fun _ h => h.1)).1
        have hsp : ∃ a, ao = some a ∧ a.spot = none := ((hX _ H.tail).cell1 hget (u := .string (S s)) (fun _ h => h.1)).2
        have hsm : s.length ≤ maxLen := by
          obtain ⟨v', vs, e, hr, h1⟩ := hx
          exact (h1 _ s hget).2
        have HX := hid hxs
        have hC := hcellAt _ H.tail
        clear hlen hxs hget
        by_cases hseen : s.all P.seen = true
        · have hseen' : (!s.all P.seen) = false := by rw [hseen]; rfl
          by_cases hl : 200 < s.length
          · have hl' : decide ((200 : Int) < s.length) = true := by simp; omega
            go_wp2_with (first | ((with_reducible show wpList _ _ _ (⟨_, .indexAddr _ _ _, _, _, _, _⟩ :: _) _ _); refine wpL_index1 Try.underlying31 size_string pre.length rfl rfl (by omega) (by omega) hsp rfl ?_; simp only [Act.put, List.setIfInBounds_toArray, List.set_cons_succ, List.set_cons_zero]) | (go_at_call 16; refine (seenText_c s hsm _).mono ?_; rintro e w3 ⟨rfl, rfl⟩))
            go_ret
            exact ⟨rfl, H.tail.below⟩
          · have hl' : decide ((200 : Int) < s.length) = false := by simp; omega
            have hb := P.Back.start hseen (by omega)
            have HS := hid hseen
            clear hseen
            go_wp2_with (first | ((with_reducible show wpList _ _ _ (⟨_, .indexAddr _ _ _, _, _, _, _⟩ :: _) _ _); refine wpL_index1 Try.underlying31 size_string pre.length rfl rfl (by omega) (by omega) hsp rfl ?_; simp only [Act.put, List.setIfInBounds_toArray, List.set_cons_succ, List.set_cons_zero]) | (go_at_call 16; refine (seenText_c s hsm _).mono ?_; rintro e w3 ⟨rfl, rfl⟩) | ((with_reducible show wpList _ _ _ (⟨_, .convert _ _ _, _, _, _, _⟩ :: _) _ _); refine wpL_bytes Try.underlying9 Try.underlying22 Try.underlying5 rfl (by simp only [S_size, List.length_append, List.length_cons, List.length_nil, maxLen]; omega) H rfl ?_; intro v5 w4 H4; simp only [S_size, S_toList] at H4; obtain ⟨n5, hn5⟩ : ∃ n5, n5 = (s ++ [13, 10]).length := ⟨_, rfl⟩; rw [← hn5] at H4; obtain ⟨ao5, cap5, rfl⟩ := H4.rowShape; have HN5 := hid hn5; clear hn5; simp only [Act.put, List.setIfInBounds_toArray, List.set_cons_succ, List.set_cons_zero]))
            obtain ⟨wo, rfl⟩ : ∃ wo : World, wo = w4 := ⟨_, rfl⟩
            clear H hseen' hl' hC
            go_loopw [6] (fun k wr => ∃ (p q : List UInt8) (st : P.Lines), s ++ [13, 10] = p ++ q ∧ k = .int .i64 p.length ∧ P.Back s p st ∧ At wr [linesC b st, rowC 5 1 (.slice ao5 n5 cap5) n5 (bvs (s ++ [13, 10])), initC W])
              (fun k _ => n5 - (intOf k).toNat)
            case atStart => exact ⟨[], _, ⟨[], false, 0⟩, rfl, rfl, hb, H4.swap⟩
            case round =>
              obtain ⟨p, q, st, hpq, rfl, hbk, H⟩ := hrel
              clear H4
              have hlen : n5 = p.length + q.length := by rw [HN5.out, hpq]; simp
              cases q with
              | nil =>
                have hge : ¬ ((p.length : Int) < (n5 : Int)) := by simp at hlen; omega
                have hp : p = s ++ [13, 10] := by rw [hpq, List.append_nil]
                have hst := P.Back.done (s := s) (st := st) (by rw [← hp]; exact hbk)
                subst hst
                clear hlen hp hpq hbk
                go_wp2_with fail
                go_roundw
                case rel => exact ⟨pre ++ [s], r, HX.out.trans (List.append_cons _ _ _), by simp, H.swap.tail⟩
                case measure => simp [intOf]; omega
              | cons c q =>
                have hlt2 : p.length < n5 := by simp at hlen; omega
                have hn6 : n5 ≤ 300 := by rw [HN5.out]; simp; omega
                have hrd := H.swap.rd
                have hsp5 := hrd.spot (j := p.length) (by rw [bvs_length, ← HN5.out]; exact hlt2)
                have hC5 := hrd.cell (j := p.length) (by rw [bvs_length, ← HN5.out]; exact hlt2)
                rw [show (bvs (s ++ [13, 10]))[p.length]'(by rw [bvs_length, ← HN5.out]; exact hlt2) = .int .u8 (c.toNat : Int) by simp [bvs, bv, hpq]] at hC5
                have hb5 := byte_lt c
                have hL5 := hbk.len
                obtain ⟨st', t, is, hfeed, hbk', his, ht, hbeg⟩ := hbk.step hpq
                have HF := hid (linesFeed_k b st st' c (c.toNat : Int) t is 0 rfl hfeed [rowC 5 1 (.slice ao5 n5 cap5) n5 (bvs (s ++ [13, 10])), initC W] wr hL5 H)
                have HP := hid (hpq.trans (List.append_cons p c q))
                have hL6 := hbk'.len
                cases q with
                | nil =>
                  have e1 : is = true := his
                  have e2 : t = s := ht rfl
                  subst e1 e2
                  have hlast : ((p.length : Int) == (n5 : Int) - 1) = true := by simp at hlen ⊢; omega
                  have HBg := hid (show P.begun st' = false from hbeg)
                  clear hfeed hbk hbeg hrd hlen hpq ht his
                  go_wp2_with (first | ((with_reducible show wpList _ _ _ (⟨_, .indexAddr _ _ _, _, _, _, _⟩ :: _) _ _); refine wpL_index1 Try.underlying22 size_byte p.length rfl rfl (by omega) (by omega) hsp5 rfl ?_; simp only [Act.put, List.setIfInBounds_toArray, List.set_cons_succ, List.set_cons_zero]) | ((with_reducible show wpList _ _ _ (⟨_, .indexAddr _ _ _, _, _, _, _⟩ :: _) _ _); refine wpL_index1 Try.underlying31 size_string pre.length rfl rfl (by omega) (by omega) hsp rfl ?_; simp only [Act.put, List.setIfInBounds_toArray, List.set_cons_succ, List.set_cons_zero]) | (go_at_call 13; refine HF.out.mono ?_; rintro en w3 ⟨rfl, H3⟩; have hC3 := hcellAt _ H3.tail.tail) | (go_at_call 15; have hL := linesBegun_c b st' _ _ hL6 H3; rw [HBg.out] at hL; refine hL.mono ?_; rintro en w4 ⟨rfl, rfl⟩))
                  go_roundw
                  case rel => exact ⟨p ++ [c], [], st', HP.out, by simp, hbk', H3⟩
                  case measure => simp [intOf]; omega
                | cons d q =>
                  have e1 : is = false := his
                  subst e1
                  have hlast : ((p.length : Int) == (n5 : Int) - 1) = false := by simp at hlen ⊢; omega
                  have HBg := hid (show P.begun st' = true from hbeg)
                  clear hfeed hbk hbeg hrd hlen hpq ht his
                  go_wp2_with (first | ((with_reducible show wpList _ _ _ (⟨_, .indexAddr _ _ _, _, _, _, _⟩ :: _) _ _); refine wpL_index1 Try.underlying22 size_byte p.length rfl rfl (by omega) (by omega) hsp5 rfl ?_; simp only [Act.put, List.setIfInBounds_toArray, List.set_cons_succ, List.set_cons_zero]) | ((with_reducible show wpList _ _ _ (⟨_, .indexAddr _ _ _, _, _, _, _⟩ :: _) _ _); refine wpL_index1 Try.underlying31 size_string pre.length rfl rfl (by omega) (by omega) hsp rfl ?_; simp only [Act.put, List.setIfInBounds_toArray, List.set_cons_succ, List.set_cons_zero]) | (go_at_call 13; refine HF.out.mono ?_; rintro en w3 ⟨rfl, H3⟩; have hC3 := hcellAt _ H3.tail.tail) | (go_at_call 15; have hL := linesBegun_c b st' _ _ hL6 H3; rw [HBg.out] at hL; refine hL.mono ?_; rintro en w4 ⟨rfl, rfl⟩))
                  go_roundw
                  case rel => exact ⟨p ++ [c], d :: q, st', HP.out, by simp, hbk', H3⟩
                  case measure => simp [intOf]; omega
        · have hseen' : (!s.all P.seen) = true := by simpa using hseen
          go_wp2_with (first | ((with_reducible show wpList _ _ _ (⟨_, .indexAddr _ _ _, _, _, _, _⟩ :: _) _ _); refine wpL_index1 Try.underlying31 size_string pre.length rfl rfl (by omega) (by omega) hsp rfl ?_; simp only [Act.put, List.setIfInBounds_toArray, List.set_cons_succ, List.set_cons_zero]) | (go_at_call 16; refine (seenText_c s hsm _).mono ?_; rintro e w3 ⟨rfl, rfl⟩))
          go_ret
          exact ⟨rfl, H.tail.below⟩
end Go.Proofs.Ytmmfcghieefoaaa
