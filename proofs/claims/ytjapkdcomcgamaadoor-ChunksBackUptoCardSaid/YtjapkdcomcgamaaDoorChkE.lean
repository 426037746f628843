/- A body in chunks: the law ChunksBack. -/
import Derived.Test.YtjapkdcomcgamaaDoorChkD
import Derived.Test.YtjapkdcomcgamaaDoorFldP
set_option linter.all false
namespace Go.Proofs.YtjapkdcomcgamaaDoor
open Go Go.Sep Go.Ab

/-- Bytes of a number's text. -/
def hxB (c : UInt8) : Bool := seenC c && (!(c == 59) && !bl c)
theorem dgN_hx : ∀ d : Fin 16, hxB (dgN d.1) = true := by decide +kernel
theorem txtN_hx : ∀ f n, (txtN 16 f n).all hxB = true
  | 0, _ => rfl
  | f + 1, n => by
    by_cases h : n < 16
    · rw [txtN_one h]
      simp only [List.all_cons, List.all_nil, Bool.and_true]
      exact dgN_hx ⟨n, h⟩
    · rw [txtN_more h, List.all_append, txtN_hx f]
      simp only [List.all_cons, List.all_nil, Bool.and_true, Bool.true_and]
      exact dgN_hx ⟨n % 16, Nat.mod_lt _ (by decide)⟩
theorem hx_all {s : Str} (h : s.all hxB = true) : seenA s = true ∧ (∀ c ∈ s, c ≠ 59) ∧ ∀ c ∈ s, bl c = false := by
  have key : ∀ c ∈ s, seenC c = true ∧ c ≠ 59 ∧ bl c = false := fun c hc => by
    have := List.all_eq_true.1 h c hc
    unfold hxB at this
    simp only [Bool.and_eq_true, Bool.not_eq_true', beq_eq_false_iff_ne] at this
    exact ⟨this.1, this.2.1, this.2.2⟩
  exact ⟨List.all_eq_true.2 fun c hc => (key c hc).1, fun c hc => (key c hc).2.1, fun c hc => (key c hc).2.2⟩
theorem drop_bl {s : Str} (h : ∀ c ∈ s, bl c = false) : s.dropWhile bl = s := by
  cases s with
  | nil => rfl
  | cons c l => rw [List.dropWhile_cons, h c (List.mem_cons_self ..)]; simp
theorem trim_bl {s : Str} (h : ∀ c ∈ s, bl c = false) : Lib.trimS s [32, 9] = s := by
  rw [trimS_eq]
  unfold trL trR
  have h2 : ∀ c ∈ s.reverse, bl c = false := fun c hc => h c (List.mem_reverse.1 hc)
  rw [drop_bl h2, List.reverse_reverse, drop_bl h]
theorem indexByte_no : ∀ {s : Str} {k : UInt8}, (∀ c ∈ s, c ≠ k) → Lib.indexByte s k = -1
  | [], k, _ => rfl
  | c :: l, k, h => by
    have h1 : (c == k) = false := by simpa using h c (List.mem_cons_self ..)
    have h2 := indexByte_no (s := l) (k := k) (fun x hx => h x (List.mem_cons_of_mem _ hx))
    rw [Lib.indexByte, h1, h2]; simp
theorem size_hex {n : Nat} (h1 : n < 65536) : sizeC (hexS (n : Int)) = ((n : Int), true) := by
  obtain ⟨h2, h3, h4⟩ := hx_all (txtN_hx 4 n)
  have e : hexS (n : Int) = txtN 16 4 n := by unfold hexS; rw [Int.toNat_natCast]
  rw [e]
  unfold sizeC cutB
  rw [indexByte_no h3]
  simp only [show ¬ (0 : Int) ≤ -1 by decide, if_false]
  rw [trim_bl h4]
  obtain ⟨g1, g2, g3⟩ := txt_back (base := 16) (.inr rfl) 4 n h1 (by decide)
  unfold numA
  rw [if_neg (by rintro (h | h); exact g3 h; omega)]
  exact g1
theorem line_hex (n : Nat) (t : Str) : lineOf (hexS (n : Int) ++ 13 :: 10 :: t) = (hexS n, ((hexS n).length : Int) + 2, true, 0) := by
  obtain ⟨h2, -, -⟩ := hx_all (txtN_hx 4 n)
  have e : hexS (n : Int) = txtN 16 4 n := by unfold hexS; rw [Int.toNat_natCast]
  have hl := hexS_len (n : Int)
  exact lineOf_app t (by rw [e]; exact h2) (by omega)
theorem line_none (t : Str) : lineOf (13 :: 10 :: t) = ([], 2, true, 0) := lineOf_app (s := []) t rfl (by decide)
theorem drop_line (s t : Str) : (s ++ 13 :: 10 :: t).drop ((s.length : Int) + 2).toNat = t := by
  rw [show ((s.length : Int) + 2).toNat = s.length + 2 by omega, show s ++ 13 :: 10 :: t = (s ++ [13, 10]) ++ t by simp]
  exact List.drop_left' (by simp)
theorem body_step (f : Nat) (a : Int) {b : Str} (r : Str) (hb : b ≠ []) (hl : b.length < 65536) (ha : a + b.length ≤ 4000) : bodyR (f + 1) a (ck1 b ++ r) = (bodyR f (a + b.length) r).pre b := by
  have e : ck1 b ++ r = hexS b.length ++ 13 :: 10 :: (b ++ 13 :: 10 :: r) := by unfold ck1; rw [if_neg hb]; simp
  have hp : 0 < b.length := List.length_pos_iff.2 hb
  rw [e, bodyR, line_hex]
  simp only [drop_line, size_hex hl, ne_eq, not_true_eq_false, if_false, Bool.true_eq_false]
  rw [if_neg (by omega), if_neg (by omega), if_neg (by simp only [List.length_append]; omega), Int.toNat_natCast]
  rw [List.drop_left, List.take_left, endR, line_none]
  simp
theorem body_end (f : Nat) (a : Int) (ha : a ≤ 4000) : bodyR (f + 2) a [48, 13, 10, 13, 10] = .over [] [] := by
  have h1 : lineOf [48, 13, 10, 13, 10] = ([48], 3, true, 0) := by decide +kernel
  have h2 : sizeC [48] = (0, true) := by decide +kernel
  have h3 : lineOf [13, 10] = ([], 2, true, 0) := by decide +kernel
  rw [bodyR, h1]
  simp only [h2, ne_eq, not_true_eq_false, if_false, Bool.true_eq_false]
  rw [if_neg (by omega), if_pos trivial]
  show tailR (f + 1) 0 [13, 10] = _
  rw [tailR, h3]
  simp
theorem body_all : ∀ (l : List Str) (f : Nat) (a : Int), l.length + 1 < f → 0 ≤ a → a + sumS l ≤ 4000 → bodyR f a (ckW l) = .over l.flatten []
  | [], f, a, hf, h0, ha => by
    obtain ⟨f, rfl⟩ : ∃ g, f = g + 2 := ⟨f - 2, by simp at hf; omega⟩
    simp only [sumS] at ha
    exact body_end f a (by omega)
  | b :: l, f, a, hf, h0, ha => by
    have hs := sumS_nonneg l
    simp only [sumS] at ha
    rw [List.length_cons] at hf
    have e : ckW (b :: l) = ck1 b ++ ckW l := by unfold ckW; rw [ckT, List.append_assoc]
    by_cases hb : b = []
    · subst hb
      have e1 : ck1 [] = [] := rfl
      rw [e, e1, List.nil_append]
      simpa using body_all l f a (by omega) h0 (by simpa using ha)
    · obtain ⟨f, rfl⟩ : ∃ g, f = g + 1 := ⟨f - 1, by omega⟩
      rw [e, body_step f a _ hb (by omega) (by omega), body_all l f _ (by omega) (by omega) (by omega)]
      simp [ChR.pre]
theorem sumS_flat : ∀ l : List Str, (l.flatten.length : Int) = sumS l
  | [] => rfl
  | b :: l => by have := sumS_flat l; simp only [List.flatten_cons, List.length_append, sumS]; omega
/-- More fuel changes nothing. -/
theorem body_back {l : List Str} (h : sumS l ≤ 4000) : chunksR (ckW l) = .over l.flatten [] := by
  have h1 := run_chunks (ckW l)
  have h2 := run_body ((ckW l).length + l.length + 2) (ckW l) ch0 (by omega) rfl rfl rfl rfl
  rw [show ch0.all = 0 from rfl, body_all l _ 0 (by omega) (Int.le_refl _) (by omega), h1] at h2
  cases hc : chunksR (ckW l) with
  | more o k => rw [hc] at h2; cases h2
  | over o r => rw [hc] at h2; exact h2
  | bad o e r => rw [hc] at h2; cases h2
end Go.Proofs.YtjapkdcomcgamaaDoor
namespace Go.Proofs.YtjapkdcomcgamaaDoor
open Go Go.Sep Go.Ab
set_option maxRecDepth 100000

theorem flat_take {l : List Str} {i : Nat} (h : i < l.length) : (l.take (i + 1)).flatten = (l.take i).flatten ++ l.getD i [] := by
  rw [List.take_succ_eq_append_getElem h, List.flatten_append]; simp [h]
theorem flat_le (l : List Str) (i : Nat) : (l.take i).flatten.length ≤ l.flatten.length := by
  have := congrArg (fun x => (List.flatten x).length) (List.take_append_drop i l)
  simp only [List.flatten_append, List.length_append] at this
  omega
theorem ckW_len (l : List Str) : (ckW l).length ≤ l.flatten.length + 8 * l.length + 5 := by
  have : ∀ l : List Str, (ckT l).length ≤ l.flatten.length + 8 * l.length := by
    intro l
    induction l with
    | nil => simp [ckT]
    | cons b l ih =>
      have := ck1_len b
      simp only [ckT, List.length_append, List.flatten_cons, List.length_cons]; omega
  have := this l
  simp only [ckW, List.length_append, List.length_cons, List.length_nil]; omega

set_option maxHeartbeats 16000000 in
theorem ckBack_ (l : List Str) (hneed : l.flatten.length ≤ 140737488355328) : Spc Tryd.prog 10 [.v (.one (.p (.list .bytes l)))] [] (.ret (.v (.one (.p (.bool true))))) [] := by
  refine spcG tab_ok mixed Tryd.func10 (by kernel_rfl) { cfgCk with nr := [3, 7], keep := some [0, 2, 3, 4, 5, 6, 7, 8, 9, 10, 11] } [ckNew__k, ckNew__l, ckFeed__k, ckFeed__l, sameBytes__k, sameBytes__l, ckWrite__k, ckWrite__l, ckBegun__k, ckBegun__l] (by kernel_rfl) ?_
  intro I X hI hX
  refine ev_rule (.need (I.hid (α := (Prop)) True) (.br (I.bnot Bool.true) (.fin (.ret (.v (.one (.p (.bool Bool.false))))) []) (.br (I.ilt 100 (I.len (α := (List UInt8)) l)) (.fin (.ret (.v (.one (.p (.bool Bool.true))))) []) (.code 0 [1, 1, 1, 1, 0, 1, 0] ⟨[(4, (.v (.one (.p (.int .i64 0))))), (3, (.v (.one (.row 0)))), (2, (.v (.one (.p (.val (.bool .false)))))), (0, (.v (.one (.p (.list .bytes l)))))], [(.row .byte 5 ([] : List UInt8))], 68⟩)))) (by kernel_rfl) ?_
  simp only [inst_need, inst_br, inst_both, inst_fin, inst_qed, inst_stop, inst_code]
  refine ⟨(by rw [hI]; trivial), fun h => (by rw [hI] at h; cases h), fun _ => ⟨fun _ => ⟨trivial, trivial⟩, fun hl5 => ?_⟩⟩
  have hll : l.length ≤ 100 := by rw [hI] at hl5; simp only [alg_b2i, alg_i2b, alg_add, alg_sub, alg_mul, alg_quo, alg_rem, alg_wrap, alg_imin, alg_imax, alg_ilt, alg_ile, alg_ieq, alg_bnot, alg_beq, alg_ban, alg_seq, alg_len, alg_app, alg_cut, alg_get, alg_set, alg_rep, alg_inr, alg_inb, alg_cutb, alg_same, alg_few, alg_nne, alg_nng, alg_hid, alg_shl, alg_shr, alg_bits, decide_eq_true_eq, decide_eq_false_iff_not, beq_iff_eq, beq_eq_false_iff_ne, Bool.not_eq_true', Bool.not_eq_false', Bool.and_eq_true, Bool.and_true, Bool.true_and, and_true, true_and, ne_eq, Int.toNat_zero, Nat.sub_zero, List.drop_zero, i64_min, i64_max, u8_min, u8_max, ofNat_b2i, b2i_inj, Int.toNat_natCast, Int.ofNat_eq_natCast, UInt8.ofNat_toNat, AOut.ret.injEq, D.v.injEq, D.tup.injEq, V0.one.injEq, C.p.injEq, P.bool.injEq, P.int.injEq, P.str.injEq, Bool.false_eq_true, Bool.true_eq_false, imp_false, Decidable.not_not, not_true_eq_false, not_false_eq_true] at hl5; omega
  refine loop_inv hI tab_ok mixed [ckNew__k, ckNew__l, ckFeed__k, ckFeed__l, sameBytes__k, sameBytes__l, ckWrite__k, ckWrite__l, ckBegun__k, ckBegun__l] hX [0, 3, 4] (fun (g : Nat × Str) => match g with | (i, o) => i ≤ l.length ∧ o = (l.take i).flatten) (fun (g : Nat × Str) => match g with | (i, o) => ⟨[(0, .v (.one (.p (.list .bytes l)))), (3, .v (.one (.row 0))), (4, .v (.one (.p (.int .i64 i))))], [.row .byte 5 o], 68⟩) (fun (g : Nat × Str) => match g with | (i, o) => l.length - i) (0, []) (by kernel_rfl) (by kernel_rfl) ?_ ?_
  · exact ⟨Nat.zero_le _, rfl⟩
  rintro ⟨i, o⟩ ⟨h1, h2⟩ A hA
  simp only at hA h1 h2
  refine ev_rule (let y0 := I.get (α := (List UInt8)) l ([] : List UInt8) (Nat.cast i); let y1 := I.inb (Nat.cast i) (I.len (α := (List UInt8)) l); .br (I.ilt (Nat.cast i) (I.len (α := (List UInt8)) l)) (.need y1 (.need y1 (.need (I.few (I.add (I.len (α := UInt8) o) (I.len (α := UInt8) y0)) 140737488355328) (.need (I.inr Go.IntKind.i64 (I.add (Nat.cast i) 1)) (.need (A ⟨[(0, (.v (.one (.p (.list .bytes l))))), (3, (.v (.one (.row 0)))), (4, (.v (.one (.p (.int .i64 (I.add (Nat.cast i) 1))))))], [(.row .byte 5 (I.app (α := UInt8) o y0))], 68⟩) .qed))))) (.br (I.ilt 4000 (I.len (α := UInt8) o)) (.fin (.ret (.v (.one (.p (.bool Bool.true))))) []) (.need (I.hid (α := (Prop)) (And (LE.le (List.length l) 1000) (∀ (b : Str), b ∈ l → List.length b ≤ 10000))) (.need (I.hid (α := (Prop)) True) (.code 1 [1, 1, 1, 1, 1, 1, 1, 1, 1, 0, 1, 0] ⟨[(8, (.v (.one (.p (.int .i64 0))))), (7, (.v (.one (.row 3)))), (6, (.v (.one (.ptr 2 0)))), (5, (.v (.one (.row 1)))), (0, (.v (.one (.p (.list .bytes l))))), (3, (.v (.one (.row 0)))), (4, (.v (.one (.p (.int .i64 (Nat.cast i))))))], [(.row .byte 5 o), (.row .byte 5 (I.hid (α := (List UInt8)) (ckW l))), (.pack [(.obj 129 [(.ptr 1 0), (.p (.int .i64 0)), (.p (.int .i64 0)), (.p (.int .i64 0)), (.p (.int .i64 0)), (.p (.int .i64 0))]), (.pack [(.obj 146 [(.row 1), (.p (.bool Bool.false)), (.p (.int .i64 0))]), (.row .byte 5 (I.hid (α := (List UInt8)) ([] : List UInt8)))])]), (.row .byte 5 ([] : List UInt8))], 68⟩))))) (by kernel_rfl) ?_
  simp only [inst_need, inst_br, inst_both, inst_fin, inst_qed, inst_stop, inst_code]
  refine ⟨fun cg => ?_, fun cg => ?_⟩
  · subst hI
    simp only [alg_b2i, alg_i2b, alg_add, alg_sub, alg_mul, alg_quo, alg_rem, alg_wrap, alg_imin, alg_imax, alg_ilt, alg_ile, alg_ieq, alg_bnot, alg_beq, alg_ban, alg_seq, alg_len, alg_app, alg_cut, alg_get, alg_set, alg_rep, alg_inr, alg_inb, alg_cutb, alg_same, alg_few, alg_nne, alg_nng, alg_hid, alg_shl, alg_shr, alg_bits, decide_eq_true_eq, decide_eq_false_iff_not, beq_iff_eq, beq_eq_false_iff_ne, Bool.not_eq_true', Bool.not_eq_false', Bool.and_eq_true, Bool.and_true, Bool.true_and, and_true, true_and, ne_eq, Int.toNat_zero, Nat.sub_zero, List.drop_zero, i64_min, i64_max, u8_min, u8_max, ofNat_b2i, b2i_inj, Int.toNat_natCast, Int.ofNat_eq_natCast, UInt8.ofNat_toNat, AOut.ret.injEq, D.v.injEq, D.tup.injEq, V0.one.injEq, C.p.injEq, P.bool.injEq, P.int.injEq, P.str.injEq, Bool.false_eq_true, Bool.true_eq_false, imp_false, Decidable.not_not, not_true_eq_false, not_false_eq_true] at cg
    have hst := flat_take (l := l) (i := i) (by omega)
    have hle := flat_le l (i + 1)
    have hfin := hA (i + 1, o ++ l.getD i []) ⟨by simp only; omega, by simp only; rw [hst, h2]⟩ (by simp only; omega)
    simp only [alg_b2i, alg_i2b, alg_add, alg_sub, alg_mul, alg_quo, alg_rem, alg_wrap, alg_imin, alg_imax, alg_ilt, alg_ile, alg_ieq, alg_bnot, alg_beq, alg_ban, alg_seq, alg_len, alg_app, alg_cut, alg_get, alg_set, alg_rep, alg_inr, alg_inb, alg_cutb, alg_same, alg_few, alg_nne, alg_nng, alg_hid, alg_shl, alg_shr, alg_bits, decide_eq_true_eq, decide_eq_false_iff_not, beq_iff_eq, beq_eq_false_iff_ne, Bool.not_eq_true', Bool.not_eq_false', Bool.and_eq_true, Bool.and_true, Bool.true_and, and_true, true_and, ne_eq, Int.toNat_zero, Nat.sub_zero, List.drop_zero, i64_min, i64_max, u8_min, u8_max, ofNat_b2i, b2i_inj, Int.toNat_natCast, Int.ofNat_eq_natCast, UInt8.ofNat_toNat, AOut.ret.injEq, D.v.injEq, D.tup.injEq, V0.one.injEq, C.p.injEq, P.bool.injEq, P.int.injEq, P.str.injEq, Bool.false_eq_true, Bool.true_eq_false, imp_false, Decidable.not_not, not_true_eq_false, not_false_eq_true, List.cons.injEq, P.list.injEq, HO.row.injEq, heq_eq_eq, reduceCtorEq, false_and, and_false]
    rw [hst, ← h2, List.length_append] at hle
    generalize l.getD i [] = x at *
    simp only at hfin
    exact ⟨by omega, by omega, by omega, by omega, hfin⟩
  have hi : i = l.length := by rw [hI] at cg; simp only [alg_b2i, alg_i2b, alg_add, alg_sub, alg_mul, alg_quo, alg_rem, alg_wrap, alg_imin, alg_imax, alg_ilt, alg_ile, alg_ieq, alg_bnot, alg_beq, alg_ban, alg_seq, alg_len, alg_app, alg_cut, alg_get, alg_set, alg_rep, alg_inr, alg_inb, alg_cutb, alg_same, alg_few, alg_nne, alg_nng, alg_hid, alg_shl, alg_shr, alg_bits, decide_eq_true_eq, decide_eq_false_iff_not, beq_iff_eq, beq_eq_false_iff_ne, Bool.not_eq_true', Bool.not_eq_false', Bool.and_eq_true, Bool.and_true, Bool.true_and, and_true, true_and, ne_eq, Int.toNat_zero, Nat.sub_zero, List.drop_zero, i64_min, i64_max, u8_min, u8_max, ofNat_b2i, b2i_inj, Int.toNat_natCast, Int.ofNat_eq_natCast, UInt8.ofNat_toNat, AOut.ret.injEq, D.v.injEq, D.tup.injEq, V0.one.injEq, C.p.injEq, P.bool.injEq, P.int.injEq, P.str.injEq, Bool.false_eq_true, Bool.true_eq_false, imp_false, Decidable.not_not, not_true_eq_false, not_false_eq_true] at cg; omega
  subst hi
  rw [List.take_of_length_le (Nat.le_refl _)] at h2
  clear hA
  have hh : ∀ {α : Type} (x : α), I.hid x = x := by subst hI; intros; rfl
  simp only [hh]
  refine ⟨fun _ => ⟨trivial, trivial⟩, fun hn => ?_⟩
  have hfl : l.flatten.length ≤ 4000 := by rw [hI] at hn; simp only [alg_b2i, alg_i2b, alg_add, alg_sub, alg_mul, alg_quo, alg_rem, alg_wrap, alg_imin, alg_imax, alg_ilt, alg_ile, alg_ieq, alg_bnot, alg_beq, alg_ban, alg_seq, alg_len, alg_app, alg_cut, alg_get, alg_set, alg_rep, alg_inr, alg_inb, alg_cutb, alg_same, alg_few, alg_nne, alg_nng, alg_hid, alg_shl, alg_shr, alg_bits, decide_eq_true_eq, decide_eq_false_iff_not, beq_iff_eq, beq_eq_false_iff_ne, Bool.not_eq_true', Bool.not_eq_false', Bool.and_eq_true, Bool.and_true, Bool.true_and, and_true, true_and, ne_eq, Int.toNat_zero, Nat.sub_zero, List.drop_zero, i64_min, i64_max, u8_min, u8_max, ofNat_b2i, b2i_inj, Int.toNat_natCast, Int.ofNat_eq_natCast, UInt8.ofNat_toNat, AOut.ret.injEq, D.v.injEq, D.tup.injEq, V0.one.injEq, C.p.injEq, P.bool.injEq, P.int.injEq, P.str.injEq, Bool.false_eq_true, Bool.true_eq_false, imp_false, Decidable.not_not, not_true_eq_false, not_false_eq_true] at hn; rw [← h2]; omega
  have hsm : ∀ x ∈ l, x.length ≤ 10000 := fun x hx => by
    have h3 := sumS_mem hx
    have h4 := sumS_flat l
    omega
  have hR : chunksR (ckW l) = .over l.flatten [] := body_back (by have := sumS_flat l; omega)
  have hwl := ckW_len l
  have hat0 := chAt_0 (ckW l)
  rw [hR] at hat0
  generalize ckW l = b at *
  refine ⟨⟨by omega, hsm⟩, trivial, ?_⟩
  refine loop_inv hI tab_ok mixed [ckNew__k, ckNew__l, ckFeed__k, ckFeed__l, sameBytes__k, sameBytes__l, ckWrite__k, ckWrite__l, ckBegun__k, ckBegun__l] hX [3, 5, 6, 7, 8] (fun (g : Nat × Ch × Str) => match g with | (i, s, got) => i ≤ b.length ∧ ChAt b (.over l.flatten []) i s got ∧ ChI s i ∧ got.length ≤ i) (fun (g : Nat × Ch × Str) => match g with | (i, s, got) => ⟨[(3, .v (.one (.row 0))), (5, .v (.one (.row 1))), (6, .v (.one (.ptr 2 0))), (7, .v (.one (.row 3))), (8, .v (.one (.p (.int .i64 i))))], [.row .byte 5 o, .row .byte 5 b, .pack [.obj 129 [(.ptr 1 0), (.p (.int .i64 s.pos)), (.p (.int .i64 s.left)), (.p (.int .i64 s.all)), (.p (.int .i64 s.tails)), (.p (.int .i64 s.code))], .pack [.obj 146 [(.row 1), (.p (.bool s.ln.cr)), (.p (.int .i64 s.ln.code))], .row .byte 5 s.ln.b]], .row .byte 5 got], 68⟩) (fun (g : Nat × Ch × Str) => match g with | (i, s, got) => b.length - i) (0, ch0, []) (by kernel_rfl) (by kernel_rfl) ?_ ?_
  · exact ⟨Nat.zero_le _, hat0, chI_0, Nat.le_refl _⟩
  rintro ⟨i, s, got⟩ ⟨h1, h3, h4, h5⟩ A hA
  simp only at hA h1 h3 h4 h5
  have hnd := chI_need h4 (by omega)
  refine ev_rule (let y0 := I.b2i (I.get (α := UInt8) b 0 (Nat.cast i)); let y1 := I.hid (α := (List UInt8)) (Prod.fst (Prod.snd (chF (Ch.mk (Ln.mk (Ln.b (Ch.ln s)) (Ln.cr (Ch.ln s)) (Ln.code (Ch.ln s))) (Ch.pos s) (Ch.left s) (Ch.all s) (Ch.tails s) (Ch.code s)) (UInt8.ofNat (Int.toNat y0))))); let y2 := I.inb (Nat.cast i) (I.len (α := UInt8) b); .br (I.ilt (Nat.cast i) (I.len (α := UInt8) b)) (.need y2 (.need y2 (.need (I.hid (α := (Prop)) (And (And (LE.le (0 : Int) y0) (LE.le y0 (255 : Int))) (And (LE.le (List.length (Ln.b (Ch.ln s))) 1000000) (And (And (LE.le (Neg.neg (1000000 : Int)) (Ch.left s)) (LE.le (Ch.left s) (100000000 : Int))) (And (And (LE.le (0 : Int) (Ch.all s)) (LE.le (Ch.all s) (1000000 : Int))) (And (LE.le (0 : Int) (Ch.tails s)) (LE.le (Ch.tails s) (1000000 : Int)))))))) (.br (I.bnot (I.ieq (I.hid (α := Int) (Prod.snd (Prod.snd (Prod.snd (chF (Ch.mk (Ln.mk (Ln.b (Ch.ln s)) (Ln.cr (Ch.ln s)) (Ln.code (Ch.ln s))) (Ch.pos s) (Ch.left s) (Ch.all s) (Ch.tails s) (Ch.code s)) (UInt8.ofNat (Int.toNat y0))))))) 0)) (.fin (.ret (.v (.one (.p (.bool Bool.false))))) []) (.need (I.inr Go.IntKind.i64 (I.sub (I.len (α := UInt8) b) 1)) (.br (I.bnot (I.beq (I.hid (α := Bool) (Prod.fst (Prod.snd (Prod.snd (chF (Ch.mk (Ln.mk (Ln.b (Ch.ln s)) (Ln.cr (Ch.ln s)) (Ln.code (Ch.ln s))) (Ch.pos s) (Ch.left s) (Ch.all s) (Ch.tails s) (Ch.code s)) (UInt8.ofNat (Int.toNat y0))))))) (I.ieq (Nat.cast i) (I.sub (I.len (α := UInt8) b) 1)))) (.fin (.ret (.v (.one (.p (.bool Bool.false))))) []) (.need (I.few (I.add (I.len (α := UInt8) got) (I.len (α := UInt8) y1)) 140737488355328) (.need (I.inr Go.IntKind.i64 (I.add (Nat.cast i) 1)) (.need (A ⟨[(3, (.v (.one (.row 0)))), (5, (.v (.one (.row 1)))), (6, (.v (.one (.ptr 2 0)))), (7, (.v (.one (.row 3)))), (8, (.v (.one (.p (.int .i64 (I.add (Nat.cast i) 1))))))], [(.row .byte 5 o), (.row .byte 5 b), (.pack [(.obj 129 [(.ptr 1 0), (.p (.int .i64 (I.hid (α := Int) (Ch.pos (Prod.fst (chF (Ch.mk (Ln.mk (Ln.b (Ch.ln s)) (Ln.cr (Ch.ln s)) (Ln.code (Ch.ln s))) (Ch.pos s) (Ch.left s) (Ch.all s) (Ch.tails s) (Ch.code s)) (UInt8.ofNat (Int.toNat y0)))))))), (.p (.int .i64 (I.hid (α := Int) (Ch.left (Prod.fst (chF (Ch.mk (Ln.mk (Ln.b (Ch.ln s)) (Ln.cr (Ch.ln s)) (Ln.code (Ch.ln s))) (Ch.pos s) (Ch.left s) (Ch.all s) (Ch.tails s) (Ch.code s)) (UInt8.ofNat (Int.toNat y0)))))))), (.p (.int .i64 (I.hid (α := Int) (Ch.all (Prod.fst (chF (Ch.mk (Ln.mk (Ln.b (Ch.ln s)) (Ln.cr (Ch.ln s)) (Ln.code (Ch.ln s))) (Ch.pos s) (Ch.left s) (Ch.all s) (Ch.tails s) (Ch.code s)) (UInt8.ofNat (Int.toNat y0)))))))), (.p (.int .i64 (I.hid (α := Int) (Ch.tails (Prod.fst (chF (Ch.mk (Ln.mk (Ln.b (Ch.ln s)) (Ln.cr (Ch.ln s)) (Ln.code (Ch.ln s))) (Ch.pos s) (Ch.left s) (Ch.all s) (Ch.tails s) (Ch.code s)) (UInt8.ofNat (Int.toNat y0)))))))), (.p (.int .i64 (I.hid (α := Int) (Ch.code (Prod.fst (chF (Ch.mk (Ln.mk (Ln.b (Ch.ln s)) (Ln.cr (Ch.ln s)) (Ln.code (Ch.ln s))) (Ch.pos s) (Ch.left s) (Ch.all s) (Ch.tails s) (Ch.code s)) (UInt8.ofNat (Int.toNat y0))))))))]), (.pack [(.obj 146 [(.row 1), (.p (.bool (I.hid (α := Bool) (Ln.cr (Ch.ln (Prod.fst (chF (Ch.mk (Ln.mk (Ln.b (Ch.ln s)) (Ln.cr (Ch.ln s)) (Ln.code (Ch.ln s))) (Ch.pos s) (Ch.left s) (Ch.all s) (Ch.tails s) (Ch.code s)) (UInt8.ofNat (Int.toNat y0))))))))), (.p (.int .i64 (I.hid (α := Int) (Ln.code (Ch.ln (Prod.fst (chF (Ch.mk (Ln.mk (Ln.b (Ch.ln s)) (Ln.cr (Ch.ln s)) (Ln.code (Ch.ln s))) (Ch.pos s) (Ch.left s) (Ch.all s) (Ch.tails s) (Ch.code s)) (UInt8.ofNat (Int.toNat y0)))))))))]), (.row .byte 5 (I.hid (α := (List UInt8)) (Ln.b (Ch.ln (Prod.fst (chF (Ch.mk (Ln.mk (Ln.b (Ch.ln s)) (Ln.cr (Ch.ln s)) (Ln.code (Ch.ln s))) (Ch.pos s) (Ch.left s) (Ch.all s) (Ch.tails s) (Ch.code s)) (UInt8.ofNat (Int.toNat y0))))))))])]), (.row .byte 5 (I.app (α := UInt8) got y1))], 68⟩) .qed))))))))) (.need (I.hid (α := (Prop)) True) (.fin (.ret (.v (.one (.p (.bool (I.hid (α := Bool) (BEq.beq got o))))))) []))) (by kernel_rfl) ?_
  simp only [inst_need, inst_br, inst_both, inst_fin, inst_qed, inst_stop, inst_code]
  subst hI
  simp only [alg_b2i, alg_i2b, alg_add, alg_sub, alg_mul, alg_quo, alg_rem, alg_wrap, alg_imin, alg_imax, alg_ilt, alg_ile, alg_ieq, alg_bnot, alg_beq, alg_ban, alg_seq, alg_len, alg_app, alg_cut, alg_get, alg_set, alg_rep, alg_inr, alg_inb, alg_cutb, alg_same, alg_few, alg_nne, alg_nng, alg_hid, alg_shl, alg_shr, alg_bits, decide_eq_true_eq, decide_eq_false_iff_not, beq_iff_eq, beq_eq_false_iff_ne, Bool.not_eq_true', Bool.not_eq_false', Bool.and_eq_true, Bool.and_true, Bool.true_and, and_true, true_and, ne_eq, Int.toNat_zero, Nat.sub_zero, List.drop_zero, i64_min, i64_max, u8_min, u8_max, ofNat_b2i, b2i_inj, Int.toNat_natCast, Int.ofNat_eq_natCast, UInt8.ofNat_toNat, AOut.ret.injEq, D.v.injEq, D.tup.injEq, V0.one.injEq, C.p.injEq, P.bool.injEq, P.int.injEq, P.str.injEq, Bool.false_eq_true, Bool.true_eq_false, imp_false, Decidable.not_not, not_true_eq_false, not_false_eq_true, List.cons.injEq, P.list.injEq, HO.row.injEq, heq_eq_eq, reduceCtorEq, false_and, and_false]
  have hst := fun h : i < b.length => chAt_step h3 h
  have hchi := fun c => chF_I h4 c
  have hget : ∀ h : i < b.length, b.getD i 0 = b[i] := fun h => by simp [h]
  have hsx : (⟨⟨s.ln.b, s.ln.cr, s.ln.code⟩, s.pos, s.left, s.all, s.tails, s.code⟩ : Ch) = s := rfl
  have hrl : ([] : Str).length = 0 := rfl
  simp only [hsx]
  have hend : i = b.length → got = o := fun h => by subst h; rw [h2]; exact (chAt_done h3).1
  refine ⟨fun h => ?_, fun h => hend (by omega)⟩
  have hi : i < b.length := by omega
  obtain ⟨g1, g2, g3⟩ := hst hi
  rw [hget hi]
  have hx := hchi b[i]
  have hd := (chF_data (s := s) (c := b[i])).1
  have hc := b[i].toNat_lt
  have e1 : wantR b (.over l.flatten []) i = 0 := by simp only [wantR, hrl]; rw [if_neg (by omega)]
  have e2 : wantB b (.over l.flatten []) i = ((i : Int) == (b.length : Int) - 1) := by simp only [wantB, hrl]; rw [Bool.eq_iff_iff]; simp
  rw [e1] at g2
  rw [e2] at g3
  generalize b[i] = c at *
  generalize chF s c = z at *
  obtain ⟨s', d, is', e'⟩ := z
  simp only at *
  have hfin := hA (i + 1, s', got ++ d) ⟨by simp only; omega, g1, hx, by simp only [List.length_append]; omega⟩ (by simp only; omega)
  subst g2
  subst g3
  (repeat' (first | refine And.intro ?_ ?_ | intro _)) <;> first | omega | exact True.intro | exact False.elim ‹False› | skip
  all_goals first
    | exact hfin
    | exact hnd
    | rfl
    | trace_state
end Go.Proofs.YtjapkdcomcgamaaDoor
