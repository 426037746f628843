/- Bytes and texts: the law CharsBack. -/
import Derived.Test.YtmmfcghieefoaaaDoorChrG
set_option linter.all false
namespace Go.Proofs.YtmmfcghieefoaaaDoor
open Go Go.Sep Go.Ab
set_option maxRecDepth 100000

theorem trL_idem : ∀ s : Str, trL (trL s) = trL s
  | [] => rfl
  | c :: l => by
    rw [trL_cons]
    by_cases h : bl c = true
    · rw [if_pos h]; exact trL_idem l
    · rw [if_neg h, trL_cons, if_neg h]
theorem trR_idem (s : Str) : trR (trR s) = trR s := by
  have h : ∀ t : Str, trR t = (trL t.reverse).reverse := fun _ => rfl
  rw [h (trR s), h s, List.reverse_reverse, trL_idem]
theorem trimS_idem (s : Str) : Lib.trimS (Lib.trimS s [32, 9]) [32, 9] = Lib.trimS s [32, 9] := by
  rw [trimS_eq, trimS_eq, ← tr_comm (trR s), trR_idem, trL_idem]
theorem lowS_idem (s : Str) : lowS (lowS s) = lowS s := by
  unfold lowS
  rw [List.map_map]
  refine List.map_congr_left fun x _ => ?_
  show lowC (lowC x) = lowC x
  have h := lowC_toNat x
  have h2 := lowC_toNat (lowC x)
  rw [← UInt8.toNat_inj]
  unfold lowK at h h2
  omega
theorem tokA_low : ∀ s : Str, tokA (lowS s) = tokA s
  | [] => rfl
  | c :: l => by
    have ih := tokA_low l
    have h := by256 (p := fun k => tokB (lowK k) = tokB k) (by decide +kernel) (byte_int c)
    show (tokB (lowC c).toNat && tokA (lowS l)) = (tokB c.toNat && tokA l)
    rw [ih, lowC_toNat, h]
theorem tokenA_low (s : Str) : tokenA (lowS s) = tokenA s := by
  unfold tokenA
  rw [tokA_low]
  congr 1
  exact decide_eq_decide.2 (by cases s <;> simp [lowS])
theorem numA_back {base most : Nat} (hb : base = 10 ∨ base = 16) (hm : 0 < most) {n : Int} (h0 : 0 ≤ n) (hn : n.toNat < base ^ most) : numA (txtN base most n.toNat) base most = (n, true) := by
  obtain ⟨h1, h2, h3⟩ := txt_back hb most n.toNat hn hm
  rw [numA, if_neg (fun h => by rcases h with h | h; exact h3 h; omega), h1]
  congr 1
  omega

set_option maxHeartbeats 4000000 in
theorem cBack_ (n : Int) (s : Str) : Spc Tryd.prog 3 [.v (.one (.p (.int .i64 n))), .v (.one (.p (.str s)))] [] (.ret (.v (.one (.p (.bool true))))) [] := by
  refine spcG tab_ok mixed Tryd.func3 (by kernel_rfl) { keep := some [0, 1, 4, 5, 6, 7, 8, 9] } [num9__k, htx6__k, isToken__k, isToken__l, cTrim__k, cTrim__l, cLower__k, cLower__l, cNumber__k, cNumber__l, cHexNumber__k, cHexNumber__l, cBegun__k, cBegun__l, num0__k, num0__l, num1__k, num1__l, num2__k, num2__l, num3__k, num3__l, num4__k, num4__l, num5__k, num5__l, num6__k, num6__l, num7__k, num7__l, num8__k, num8__l, num9__k, num9__l, htx0__k, htx0__l, htx1__k, htx1__l, htx2__k, htx2__l, htx3__k, htx3__l, htx4__k, htx4__l, htx5__k, htx5__l, htx6__k, htx6__l] (by kernel_rfl) ?_
  intro I X hI hX
  refine ev_rule (.need (I.hid (α := (Prop)) True) (.br (I.bnot Bool.true) (.fin (.ret (.v (.one (.p (.bool Bool.false))))) []) (.br (I.ilt 2000 (I.len (α := UInt8) s)) (.fin (.ret (.v (.one (.p (.bool Bool.true))))) []) (.need (I.hid (α := (Prop)) True) (.need (I.hid (α := (Prop)) (LE.le (List.length s) 1000000)) (.need (I.hid (α := (Prop)) True) (.br (I.bnot (I.seq (I.hid (α := (List UInt8)) (Go.Lib.trimS (I.hid (α := (List UInt8)) (Go.Lib.trimS s ([32, 9] : List UInt8))) ([32, 9] : List UInt8))) (I.hid (α := (List UInt8)) (Go.Lib.trimS s ([32, 9] : List UInt8))))) (.fin (.ret (.v (.one (.p (.bool Bool.false))))) []) (.need (I.hid (α := (Prop)) (LE.le (List.length (I.hid (α := (List UInt8)) (Go.Proofs.YtmmfcghieefoaaaDoor.lowS s))) 1000000)) (.br (I.bnot (I.seq (I.hid (α := (List UInt8)) (Go.Proofs.YtmmfcghieefoaaaDoor.lowS (I.hid (α := (List UInt8)) (Go.Proofs.YtmmfcghieefoaaaDoor.lowS s)))) (I.hid (α := (List UInt8)) (Go.Proofs.YtmmfcghieefoaaaDoor.lowS s)))) (.fin (.ret (.v (.one (.p (.bool Bool.false))))) []) (.br (I.bnot (I.ieq (I.len (α := UInt8) (I.hid (α := (List UInt8)) (Go.Proofs.YtmmfcghieefoaaaDoor.lowS s))) (I.len (α := UInt8) s))) (.fin (.ret (.v (.one (.p (.bool Bool.false))))) []) (.need (I.hid (α := (Prop)) (LE.le (List.length s) 1000000)) (.need (I.hid (α := (Prop)) (LE.le (List.length (I.hid (α := (List UInt8)) (Go.Proofs.YtmmfcghieefoaaaDoor.lowS s))) 1000000)) (.br (I.bnot (I.beq (I.hid (α := Bool) (Go.Proofs.YtmmfcghieefoaaaDoor.tokenA s)) (I.hid (α := Bool) (Go.Proofs.YtmmfcghieefoaaaDoor.tokenA (I.hid (α := (List UInt8)) (Go.Proofs.YtmmfcghieefoaaaDoor.lowS s)))))) (.fin (.ret (.v (.one (.p (.bool Bool.false))))) []) (.need (I.nne 1000000000) (.need (I.hid (α := (Prop)) (And (LE.le (0 : Int) (I.wrap Go.IntKind.i64 (I.rem (I.wrap Go.IntKind.u64 n) 1000000000))) (LT.lt (I.wrap Go.IntKind.i64 (I.rem (I.wrap Go.IntKind.u64 n) 1000000000)) (1000000000 : Int)))) (.need (I.hid (α := (Prop)) True) (.br (I.bnot (I.hid (α := Bool) (Prod.snd (Go.Proofs.YtmmfcghieefoaaaDoor.numA (I.hid (α := (List UInt8)) (Go.Proofs.YtmmfcghieefoaaaDoor.txtN 10 9 (Int.toNat (I.wrap Go.IntKind.i64 (I.rem (I.wrap Go.IntKind.u64 n) 1000000000))))) (10 : Int) (9 : Int))))) (.fin (.ret (.v (.one (.p (.bool Bool.false))))) []) (.br (I.bnot (I.ieq (I.hid (α := Int) (Prod.fst (Go.Proofs.YtmmfcghieefoaaaDoor.numA (I.hid (α := (List UInt8)) (Go.Proofs.YtmmfcghieefoaaaDoor.txtN 10 9 (Int.toNat (I.wrap Go.IntKind.i64 (I.rem (I.wrap Go.IntKind.u64 n) 1000000000))))) (10 : Int) (9 : Int)))) (I.wrap Go.IntKind.i64 (I.rem (I.wrap Go.IntKind.u64 n) 1000000000)))) (.fin (.ret (.v (.one (.p (.bool Bool.false))))) []) (.need (I.nne 16777216) (.need (I.hid (α := (Prop)) (And (LE.le (0 : Int) (I.rem (I.wrap Go.IntKind.i64 (I.rem (I.wrap Go.IntKind.u64 n) 1000000000)) 16777216)) (LT.lt (I.rem (I.wrap Go.IntKind.i64 (I.rem (I.wrap Go.IntKind.u64 n) 1000000000)) 16777216) (16777216 : Int)))) (.need (I.hid (α := (Prop)) True) (.br (I.hid (α := Bool) (Prod.snd (Go.Proofs.YtmmfcghieefoaaaDoor.numA (I.hid (α := (List UInt8)) (Go.Proofs.YtmmfcghieefoaaaDoor.txtN 16 6 (Int.toNat (I.rem (I.wrap Go.IntKind.i64 (I.rem (I.wrap Go.IntKind.u64 n) 1000000000)) 16777216)))) (16 : Int) (6 : Int)))) (.fin (.ret (.v (.one (.p (.bool (I.ieq (I.hid (α := Int) (Prod.fst (Go.Proofs.YtmmfcghieefoaaaDoor.numA (I.hid (α := (List UInt8)) (Go.Proofs.YtmmfcghieefoaaaDoor.txtN 16 6 (Int.toNat (I.rem (I.wrap Go.IntKind.i64 (I.rem (I.wrap Go.IntKind.u64 n) 1000000000)) 16777216)))) (16 : Int) (6 : Int)))) (I.rem (I.wrap Go.IntKind.i64 (I.rem (I.wrap Go.IntKind.u64 n) 1000000000)) 16777216))))))) []) (.fin (.ret (.v (.one (.p (.bool Bool.false))))) []))))))))))))))))))))))) (by kernel_rfl) ?_
  simp only [inst_need, inst_br, inst_both, inst_fin, inst_qed, inst_stop, inst_code]
  subst hI
  simp only [alg_b2i, alg_i2b, alg_add, alg_sub, alg_mul, alg_quo, alg_rem, alg_wrap, alg_imin, alg_imax, alg_ilt, alg_ile, alg_ieq, alg_bnot, alg_beq, alg_ban, alg_seq, alg_len, alg_app, alg_cut, alg_get, alg_set, alg_rep, alg_inr, alg_inb, alg_cutb, alg_same, alg_few, alg_nne, alg_nng, alg_hid, alg_shl, alg_shr, alg_bits, decide_eq_true_eq, decide_eq_false_iff_not, beq_iff_eq, beq_eq_false_iff_ne, Bool.not_eq_true', Bool.not_eq_false', and_true, true_and, ne_eq, Int.toNat_zero, Nat.sub_zero, List.drop_zero, i64_min, i64_max, u8_min, u8_max, ofNat_b2i, b2i_inj, Int.toNat_natCast, Int.ofNat_eq_natCast, UInt8.ofNat_toNat, AOut.ret.injEq, D.v.injEq, D.tup.injEq, V0.one.injEq, C.p.injEq, P.bool.injEq, P.int.injEq, P.str.injEq, Bool.false_eq_true, Bool.true_eq_false, imp_false, Decidable.not_not, not_true_eq_false, not_false_eq_true]
  have hw : 0 ≤ IntKind.u64.wrap n ∧ IntKind.u64.wrap n < 18446744073709551616 := by
    unfold IntKind.wrap
    simp only [show IntKind.u64.signed = false by decide, show IntKind.u64.bits = 64 by decide, Bool.false_and, Bool.false_eq_true, if_false]
    exact ⟨Int.emod_nonneg _ (by decide), Int.emod_lt_of_pos _ (by decide)⟩
  generalize IntKind.u64.wrap n = u at *
  have hu : 0 ≤ u.tmod 1000000000 ∧ u.tmod 1000000000 < 1000000000 := by rw [Int.tmod_eq_emod_of_nonneg hw.1]; omega
  rw [wrap64 _ (by omega)]
  generalize u.tmod 1000000000 = m at *
  have hv : 0 ≤ m.tmod 16777216 ∧ m.tmod 16777216 < 16777216 := by rw [Int.tmod_eq_emod_of_nonneg hu.1]; omega
  generalize m.tmod 16777216 = v at *
  have e1 : numA (txtN 10 9 m.toNat) 10 9 = (m, true) := numA_back (base := 10) (most := 9) (.inl rfl) (by decide) hu.1 (by simp only [Nat.reducePow]; omega)
  have e2 : numA (txtN 16 6 v.toNat) 16 6 = (v, true) := numA_back (base := 16) (most := 6) (.inr rfl) (by decide) hv.1 (by simp only [Nat.reducePow]; omega)
  have hll := lowS_len s
  rw [e1, e2, trimS_idem, lowS_idem, tokenA_low]
  simp only [hll]
  (repeat' (first | refine And.intro ?_ ?_ | intro _)) <;> try omega
  all_goals first | rfl | trivial | (intro h; cases h)
end Go.Proofs.YtmmfcghieefoaaaDoor
