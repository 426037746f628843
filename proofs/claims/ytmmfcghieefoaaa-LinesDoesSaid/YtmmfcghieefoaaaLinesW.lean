/- Lines of a stream: the walks. -/
import Derived.Test.YtmmfcghieefoaaaProg
import Derived.Test.YtmmfcghieefoaaaLinesL
import Derived.Deep.QuietTactic
import Derived.BigQuiet
namespace Go.Proofs.Ytmmfcghieefoaaa
open Go Go.RowKit Go.Sep

theorem info_byte : (Try.prog.info? 5).map (fun i => (i.zero, i.size, i.bytes)) = some (some (.int .u8 0), 1, 1) := by kernel_rfl

theorem visible_c (c : UInt8) (w : World) :
    Calls Try.prog 41 #[bv c] w fun e w' => e = .returned (.bool (P.seen c)) ∧ w = w' := by
  have hb := byte_lt c
  unfold bv
  by_cases h : (c.toNat : Int) = 9
  · have h1 : ((c.toNat : Int) == 9) = true := by simpa using h
    rw [P.seen_9 h]; clear h
    go_enter Try.func41, Try.ntmps41
    go_wp2
    go_ret
    exact ⟨rfl, rfl⟩
  · have h1 : ((c.toNat : Int) == 9) = false := by simpa using h
    rw [P.seen_not9 h1]; clear h
    by_cases h2 : 32 ≤ (c.toNat : Int)
    all_goals
      go_enter Try.func41, Try.ntmps41
      go_wp2
      go_ret
      exact ⟨by first | (simp [h2]; done) | (simp; omega), rfl⟩

/-- The object. -/
def linesC (b : Nat) (s : P.Lines) : Chunk := exC fun v => sepC [objC b 71 [v, .bool s.cr, .int .i64 s.code], rowC 5 1 v s.b.length (bvs s.b)]

theorem open_lines {b : Nat} {s : P.Lines} {l : List Chunk} {w : World} : At w (linesC b s :: l) ↔ ∃ v, At w (objC b 71 [v, .bool s.cr, .int .i64 s.code] :: rowC 5 1 v s.b.length (bvs s.b) :: l) := by
  unfold linesC; rw [At.ex]; exact exists_congr fun v => At.many

theorem linesFail_c (b : Nat) (s : P.Lines) (k : Int) (l : List Chunk) (w : World) (H : At w (linesC b s :: l)) :
    Calls Try.prog 40 #[.pointer (some ⟨b, 0, none⟩), .int .i64 k] w fun e w' => e = .returned (.tuple #[.string ⟨#[]⟩, .bool false, .int .i64 k]) ∧ At w' (linesC b { s with code := k } :: l) := by
  obtain ⟨v, H⟩ := open_lines.1 H
  have c2 := H.cell 2
  have f2 := H.free 2
  simp only [List.getElem?_cons_succ, List.getElem?_cons_zero] at c2
  go_enter Try.func40, Try.ntmps40
  go_wp2
  go_ret3
  exact ⟨rfl, open_lines.2 ⟨v, H.store 2 _⟩⟩

set_option maxRecDepth 100000 in
set_option maxHeartbeats 1000000 in
theorem linesFeed_c (b : Nat) (s : P.Lines) (c : UInt8) (l : List Chunk) (w : World) (hlen : s.b.length ≤ 200) (H : At w (linesC b s :: l)) :
    Calls Try.prog 13 #[.pointer (some ⟨b, 0, none⟩), bv c] w fun e w' => e = .returned (.tuple #[.string (S (s.feed c).2.1), .bool (s.feed c).2.2.1, .int .i64 (s.feed c).2.2.2]) ∧ At w' (linesC b (s.feed c).1 :: l) := by
  obtain ⟨i0, hi, hz0, hz1, hz2⟩ := info_parts info_byte
  have H0 := H
  obtain ⟨v, H⟩ := open_lines.1 H
  obtain ⟨bb, cr, code⟩ := s
  simp only at H hlen
  have hrd := H.swap.rd
  obtain ⟨ao, cap, rfl⟩ := H.swap.rowShape
  have c0 := H.cell 0
  have c1 := H.cell 1
  have c2 := H.cell 2
  have f0 := H.free 0
  have f1 := H.free 1
  have f2 := H.free 2
  simp only [List.getElem?_cons_succ, List.getElem?_cons_zero] at c0 c1 c2
  have hb := byte_lt c
  unfold bv
  by_cases h1 : code = 0
  · subst h1
    have t1 : ((c.toNat : Int) == 10) = (c == 10) := beq_byte c 10 10 rfl
    have t2 : ((c.toNat : Int) == 13) = (c == 13) := beq_byte c 13 13 rfl
    by_cases h2 : c = 10
    · subst h2
      cases cr
      · go_enter Try.func13, Try.ntmps13
        go_wp2_with (go_at_call 40; refine (linesFail_c b ⟨bb, false, 0⟩ _ l _ H0).mono ?_; rintro e w1 ⟨rfl, H1⟩)
        go_ret3
        exact ⟨rfl, H1⟩
      · go_enter Try.func13, Try.ntmps13
        go_wp2_with (refine wpL_string Try.underlying22 Try.underlying5 Try.underlying9 rfl hrd rfl ?_)
        go_ret3
        exact ⟨rfl, open_lines.2 ⟨.slice none 0 0, ((H.store 0 _).store 1 _).swap.tail.nilRow _ _ |>.swap⟩⟩
    · rw [show (c == 10) = false by simpa using h2] at t1
      cases cr
      · by_cases h3 : c = 13
        · subst h3
          go_enter Try.func13, Try.ntmps13
          go_wp2
          go_ret3
          exact ⟨rfl, open_lines.2 ⟨_, H.store 1 _⟩⟩
        · rw [show (c == 13) = false by simpa using h3] at t2
          by_cases h4 : P.seen c = true
          · have h4' : (!P.seen c) = false := by simp [h4]
            by_cases h5 : bb.length = 200
            · have h5' : ((bb.length : Int) == 200) = true := by simp; omega
              have e : (P.Lines.feed ⟨bb, false, 0⟩ c) = (⟨bb, false, 4⟩, [], false, 4) := by simp [P.Lines.feed, h2, h3, h4, h5]
              rw [e]; clear e
              go_enter Try.func13, Try.ntmps13
              go_wp2_with (first | (go_at_call 40; refine (linesFail_c b ⟨bb, false, 0⟩ _ l _ H0).mono ?_; rintro e w1 ⟨rfl, H1⟩) | (go_at_call 41; refine (visible_c c _).mono ?_; rintro e w1 ⟨rfl, rfl⟩))
              go_ret3
              exact ⟨rfl, H1⟩
            · have h5' : ((bb.length : Int) == 200) = false := by simp; omega
              have e : (P.Lines.feed ⟨bb, false, 0⟩ c) = (⟨bb ++ [c], false, 0⟩, [], false, 0) := by simp [P.Lines.feed, h2, h3, h4, h5]
              rw [e]; clear e
              go_enter Try.func13, Try.ntmps13
              go_wp2_with (first | (go_at_call 41; refine (visible_c c _).mono ?_; rintro e w1 ⟨rfl, rfl⟩) | (at_builtin; refine wpL_append (.tmp 12) (.tmp 14) 22 22 5 i0 (.int .u8 0) 1 1 Try.underlying22 Try.underlying22 (fun k h => by cases h) hi hz0 hz1 hz2 rfl (.slice ao bb.length cap) bb.length (bvs bb) rfl (H.swap.allocAny _) _ 1 [bv c] rfl (src_new (heap_alloc_new w _) rfl) (bvs_one [c]) (by unfold maxLen; omega) (by omega) rfl ?_; intro v' w' H'; obtain ⟨ao', cap', rfl⟩ := H'.rowShape; have d0 := H'.swap.cell 0; have e0 := H'.swap.free 0; simp only [List.getElem?_cons_zero] at d0))
              go_ret3
              exact ⟨rfl, open_lines.2 ⟨.slice ao' (bb.length + 1) cap', by simpa [bvs_append, bvs] using H'.swap.store 0 _⟩⟩
          · have h4' : (!P.seen c) = true := by simp [h4]
            have e : (P.Lines.feed ⟨bb, false, 0⟩ c) = (⟨bb, false, 3⟩, [], false, 3) := by simp [P.Lines.feed, h2, h3, h4]
            rw [e]; clear e
            go_enter Try.func13, Try.ntmps13
            go_wp2_with (first | (go_at_call 40; refine (linesFail_c b ⟨bb, false, 0⟩ _ l _ H0).mono ?_; rintro e w1 ⟨rfl, H1⟩) | (go_at_call 41; refine (visible_c c _).mono ?_; rintro e w1 ⟨rfl, rfl⟩))
            go_ret3
            exact ⟨rfl, H1⟩
      · have e : (P.Lines.feed ⟨bb, true, 0⟩ c) = (⟨bb, true, 2⟩, [], false, 2) := by simp [P.Lines.feed, h2]
        rw [e]; clear e
        have t1n : ((c.toNat : Int) != 10) = true := by simp only [bne, t1]; rfl
        go_enter Try.func13, Try.ntmps13
        go_wp2_with (go_at_call 40; refine (linesFail_c b ⟨bb, true, 0⟩ _ l _ H0).mono ?_; rintro e w1 ⟨rfl, H1⟩)
        go_ret3
        exact ⟨rfl, H1⟩
  · have h1' : (code != 0) = true := by simpa using h1
    simp only [P.Lines.feed, ne_eq, h1, not_false_eq_true, if_true]
    go_enter Try.func13, Try.ntmps13
    go_wp2_with fail
    go_quiet (fail)
    go_wp2
    go_ret3
    exact ⟨rfl, H0.drewN _⟩

/-- The same at a number, with what Feed comes to already written out. -/
theorem linesFeed_k (b : Nat) (s s' : P.Lines) (c : UInt8) (k : Int) (t : List UInt8) (is : Bool) (e : Int) (hk : k = (c.toNat : Int)) (hf : s.feed c = (s', t, is, e)) (l : List Chunk) (w : World) (hlen : s.b.length ≤ 200) (H : At w (linesC b s :: l)) :
    Calls Try.prog 13 #[.pointer (some ⟨b, 0, none⟩), .int .u8 k] w fun en w' => en = .returned (.tuple #[.string (S t), .bool is, .int .i64 e]) ∧ At w' (linesC b s' :: l) := by
  have h := linesFeed_c b s c l w hlen H
  rw [hf] at h
  subst hk
  exact h

theorem linesNew_c (l : List Chunk) (w : World) (H : At w l) :
    Calls Try.prog 12 #[] w fun e w' => ∃ b, e = .returned (.pointer (some ⟨b, 0, none⟩)) ∧ At w' (linesC b ⟨[], false, 0⟩ :: l) := by
  go_enter Try.func12, Try.ntmps12
  go_wp2
  go_ret
  exact ⟨_, rfl, open_lines.2 ⟨.slice none 0 0, ((H.nilRow _ _).allocObj _ _)⟩⟩

theorem linesBegun_c (b : Nat) (s : P.Lines) (l : List Chunk) (w : World) (hlen : s.b.length ≤ 200) (H : At w (linesC b s :: l)) :
    Calls Try.prog 15 #[.pointer (some ⟨b, 0, none⟩)] w fun e w' => e = .returned (.bool (P.begun s)) ∧ w = w' := by
  obtain ⟨v, H⟩ := open_lines.1 H
  obtain ⟨bb, cr, code⟩ := s
  simp only at H hlen
  obtain ⟨ao, cap, rfl⟩ := H.swap.rowShape
  have c0 := H.cell 0
  have c1 := H.cell 1
  simp only [List.getElem?_cons_succ, List.getElem?_cons_zero] at c0 c1
  cases bb with
  | nil =>
    go_enter Try.func15, Try.ntmps15
    go_wp2
    go_ret
    exact ⟨by simp [P.begun], rfl⟩
  | cons c r =>
    have h : decide ((0 : Int) < ((c :: r).length : Int)) = true := by simp
    go_enter Try.func15, Try.ntmps15
    go_wp2
    go_ret
    exact ⟨by simp [P.begun], rfl⟩
end Go.Proofs.Ytmmfcghieefoaaa
