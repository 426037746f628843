/- A log's entries: the law JournalBack. -/
import Derived.Test.YtmmfcghieefoaaaJrnD
import Derived.Test.YtmmfcghieefoaaaJrnP
set_option linter.all false
namespace Go.Proofs.Ytmmfcghieefoaaa
open Go Go.Sep Go.Ab Go.Jrn
set_option maxRecDepth 100000

theorem jBack_ (b : Str) : Spc Try.prog 9 [.v (.one (.p (.list .byte b)))] [] (.ret (.v (.one (.p (.bool true))))) [] := by
  refine spcG tab_ok mixed Try.func9 (by kernel_rfl) { nr := [5], keep := some [0, 2, 3, 4, 5, 6, 7, 8] } [sameBytes__k, sameBytes__l, encode__k, encode__l, decode__k, decode__l, jBegun__k, jBegun__l] (by kernel_rfl) ?_
  intro I X hI hX
  refine ev_rule (.need (I.hid (α := (Prop)) True) (.br (I.bnot Bool.true) (.fin (.ret (.v (.one (.p (.bool Bool.false))))) []) (.br (I.ilt 20000 (I.len (α := UInt8) b)) (.fin (.ret (.v (.one (.p (.bool Bool.true))))) []) (.need (I.hid (α := (Prop)) (LE.le (List.length b) 50000000)) (.code 0 [1, 1, 1, 1, 1, 0, 1, 0] ⟨[(6, (.v (.one (.p (.int .i64 0))))), (5, (.v (.one (.row 1)))), (4, (.v (.one (.p (.int .i64 (I.hid (α := Int) (Go.Proofs.Ytmmfcghieefoaaa.usedM b))))))), (3, (.v (.one (.row 0)))), (2, (.v (.one (.p (.val (.bool .false)))))), (0, (.v (.one (.p (.list .byte b)))))], [(.row .ent 45 (I.hid (α := (List Go.Ab.Ent)) (Prod.fst (Go.Jrn.dec b)))), (.row .byte 5 ([] : List UInt8))], 49⟩))))) (by kernel_rfl) ?_
  simp only [inst_need, inst_br, inst_both, inst_fin, inst_qed, inst_stop, inst_code]
  refine ⟨(by rw [hI]; trivial), fun h => (by rw [hI] at h; cases h), fun _ => ⟨fun _ => ⟨trivial, trivial⟩, fun h1 => ?_⟩⟩
  rw [hI] at h1; simp only [alg_b2i, alg_i2b, alg_add, alg_sub, alg_mul, alg_quo, alg_rem, alg_wrap, alg_imin, alg_imax, alg_ilt, alg_ile, alg_ieq, alg_bnot, alg_beq, alg_ban, alg_seq, alg_len, alg_app, alg_cut, alg_get, alg_set, alg_rep, alg_inr, alg_inb, alg_cutb, alg_same, alg_few, alg_nne, alg_nng, alg_hid, alg_shl, alg_shr, alg_bits, decide_eq_true_eq, decide_eq_false_iff_not, beq_iff_eq, beq_eq_false_iff_ne, Bool.not_eq_true', Bool.not_eq_false', and_true, true_and, ne_eq, Int.toNat_zero, Nat.sub_zero, List.drop_zero, i64_min, i64_max, u8_min, u8_max, ofNat_b2i, b2i_inj, Int.toNat_natCast, Int.ofNat_eq_natCast, UInt8.ofNat_toNat, AOut.ret.injEq, D.v.injEq, D.tup.injEq, V0.one.injEq, C.p.injEq, P.bool.injEq, P.int.injEq, P.str.injEq, Bool.false_eq_true, Bool.true_eq_false, imp_false, Decidable.not_not, not_true_eq_false, not_false_eq_true] at h1
  refine ⟨(by rw [hI]; simp only [alg_b2i, alg_i2b, alg_add, alg_sub, alg_mul, alg_quo, alg_rem, alg_wrap, alg_imin, alg_imax, alg_ilt, alg_ile, alg_ieq, alg_bnot, alg_beq, alg_ban, alg_seq, alg_len, alg_app, alg_cut, alg_get, alg_set, alg_rep, alg_inr, alg_inb, alg_cutb, alg_same, alg_few, alg_nne, alg_nng, alg_hid, alg_shl, alg_shr, alg_bits, decide_eq_true_eq, decide_eq_false_iff_not, beq_iff_eq, beq_eq_false_iff_ne, Bool.not_eq_true', Bool.not_eq_false', and_true, true_and, ne_eq, Int.toNat_zero, Nat.sub_zero, List.drop_zero, i64_min, i64_max, u8_min, u8_max, ofNat_b2i, b2i_inj, Int.toNat_natCast, Int.ofNat_eq_natCast, UInt8.ofNat_toNat, AOut.ret.injEq, D.v.injEq, D.tup.injEq, V0.one.injEq, C.p.injEq, P.bool.injEq, P.int.injEq, P.str.injEq, Bool.false_eq_true, Bool.true_eq_false, imp_false, Decidable.not_not, not_true_eq_false, not_false_eq_true]; omega), ?_⟩
  obtain ⟨hb1, hb2⟩ := dec_back b.length b (Nat.le_refl _)
  have hdl := dec_len b
  have hus : usedM b = (b.length : Int) - ((dec b).2.length : Int) := rfl
  generalize hl : (dec b).1 = l at *
  generalize hu : usedM b = u at *
  refine loop_inv hI tab_ok mixed [sameBytes__k, sameBytes__l, encode__k, encode__l, decode__k, decode__l, jBegun__k, jBegun__l] hX [0, 3, 4, 5, 6] (fun (g : Nat × Str) => match g with | (i, all) => i ≤ l.length ∧ all ++ encAll (l.drop i) = encAll l) (fun (g : Nat × Str) => match g with | (i, all) => ⟨[(0, .v (.one (.p (.list .byte b)))), (3, .v (.one (.row 0))), (4, .v (.one (.p (.int .i64 ((I.hid (α := Int) u)))))), (5, .v (.one (.row 1))), (6, .v (.one (.p (.int .i64 i))))], [.row .ent 45 ((I.hid (α := List Ent) l)), .row .byte 5 all], 49⟩) (fun (g : Nat × Str) => match g with | (i, all) => l.length - i) (0, []) (by kernel_rfl) (by kernel_rfl) ?_ ?_
  · exact ⟨Nat.zero_le _, rfl⟩
  rintro ⟨i, all⟩ ⟨h2, h3⟩ A hA
  simp only at hA
  refine ev_rule (.br (I.ilt (Nat.cast i) (I.len (α := Go.Ab.Ent) (I.hid (α := (List Go.Ab.Ent)) l))) (.need (I.inb (Nat.cast i) (I.len (α := Go.Ab.Ent) (I.hid (α := (List Go.Ab.Ent)) l))) (.need (I.inb (Nat.cast i) (I.len (α := Go.Ab.Ent) (I.hid (α := (List Go.Ab.Ent)) l))) (.need (I.hid (α := (Prop)) True) (.br (I.bnot (I.ieq (I.hid (α := Int) (Go.Jrn.encC (Go.Ab.Ent.mk (Go.Ab.Ent.kind (I.get (α := Go.Ab.Ent) (I.hid (α := (List Go.Ab.Ent)) l) (Go.Ab.Ent.mk (0 : Int) (0 : Int) (0 : Int) ([] : List UInt8)) (Nat.cast i))) (Go.Ab.Ent.id (I.get (α := Go.Ab.Ent) (I.hid (α := (List Go.Ab.Ent)) l) (Go.Ab.Ent.mk (0 : Int) (0 : Int) (0 : Int) ([] : List UInt8)) (Nat.cast i))) (Go.Ab.Ent.n (I.get (α := Go.Ab.Ent) (I.hid (α := (List Go.Ab.Ent)) l) (Go.Ab.Ent.mk (0 : Int) (0 : Int) (0 : Int) ([] : List UInt8)) (Nat.cast i))) (Go.Ab.Ent.text (I.get (α := Go.Ab.Ent) (I.hid (α := (List Go.Ab.Ent)) l) (Go.Ab.Ent.mk (0 : Int) (0 : Int) (0 : Int) ([] : List UInt8)) (Nat.cast i)))))) 0)) (.fin (.ret (.v (.one (.p (.bool Bool.false))))) []) (.need (I.few (I.add (I.len (α := UInt8) all) (I.len (α := UInt8) (I.hid (α := (List UInt8)) (Go.Jrn.encM (Go.Ab.Ent.mk (Go.Ab.Ent.kind (I.get (α := Go.Ab.Ent) (I.hid (α := (List Go.Ab.Ent)) l) (Go.Ab.Ent.mk (0 : Int) (0 : Int) (0 : Int) ([] : List UInt8)) (Nat.cast i))) (Go.Ab.Ent.id (I.get (α := Go.Ab.Ent) (I.hid (α := (List Go.Ab.Ent)) l) (Go.Ab.Ent.mk (0 : Int) (0 : Int) (0 : Int) ([] : List UInt8)) (Nat.cast i))) (Go.Ab.Ent.n (I.get (α := Go.Ab.Ent) (I.hid (α := (List Go.Ab.Ent)) l) (Go.Ab.Ent.mk (0 : Int) (0 : Int) (0 : Int) ([] : List UInt8)) (Nat.cast i))) (Go.Ab.Ent.text (I.get (α := Go.Ab.Ent) (I.hid (α := (List Go.Ab.Ent)) l) (Go.Ab.Ent.mk (0 : Int) (0 : Int) (0 : Int) ([] : List UInt8)) (Nat.cast i)))))))) 100000000) (.need (I.inr Go.IntKind.i64 (I.add (Nat.cast i) 1)) (.need (A ⟨[(0, (.v (.one (.p (.list .byte b))))), (3, (.v (.one (.row 0)))), (4, (.v (.one (.p (.int .i64 (I.hid (α := Int) u)))))), (5, (.v (.one (.row 1)))), (6, (.v (.one (.p (.int .i64 (I.add (Nat.cast i) 1))))))], [(.row .ent 45 (I.hid (α := (List Go.Ab.Ent)) l)), (.row .byte 5 (I.app (α := UInt8) all (I.hid (α := (List UInt8)) (Go.Jrn.encM (Go.Ab.Ent.mk (Go.Ab.Ent.kind (I.get (α := Go.Ab.Ent) (I.hid (α := (List Go.Ab.Ent)) l) (Go.Ab.Ent.mk (0 : Int) (0 : Int) (0 : Int) ([] : List UInt8)) (Nat.cast i))) (Go.Ab.Ent.id (I.get (α := Go.Ab.Ent) (I.hid (α := (List Go.Ab.Ent)) l) (Go.Ab.Ent.mk (0 : Int) (0 : Int) (0 : Int) ([] : List UInt8)) (Nat.cast i))) (Go.Ab.Ent.n (I.get (α := Go.Ab.Ent) (I.hid (α := (List Go.Ab.Ent)) l) (Go.Ab.Ent.mk (0 : Int) (0 : Int) (0 : Int) ([] : List UInt8)) (Nat.cast i))) (Go.Ab.Ent.text (I.get (α := Go.Ab.Ent) (I.hid (α := (List Go.Ab.Ent)) l) (Go.Ab.Ent.mk (0 : Int) (0 : Int) (0 : Int) ([] : List UInt8)) (Nat.cast i))))))))], 49⟩) .qed))))))) (.br (I.ile (I.hid (α := Int) u) (I.len (α := UInt8) b)) (.need (I.cutb 0 (I.hid (α := Int) u) (I.len (α := UInt8) b)) (.need (I.hid (α := (Prop)) True) (.fin (.ret (.v (.one (.p (.bool (I.hid (α := Bool) (BEq.beq all (I.cut (α := UInt8) b 0 (I.hid (α := Int) u))))))))) []))) (.fin (.ret (.v (.one (.p (.bool Bool.false))))) []))) (by kernel_rfl) ?_
  simp only [inst_need, inst_br, inst_both, inst_fin, inst_qed, inst_stop, inst_code]
  subst hI
  simp only [alg_b2i, alg_i2b, alg_add, alg_sub, alg_mul, alg_quo, alg_rem, alg_wrap, alg_imin, alg_imax, alg_ilt, alg_ile, alg_ieq, alg_bnot, alg_beq, alg_ban, alg_seq, alg_len, alg_app, alg_cut, alg_get, alg_set, alg_rep, alg_inr, alg_inb, alg_cutb, alg_same, alg_few, alg_nne, alg_nng, alg_hid, alg_shl, alg_shr, alg_bits, decide_eq_true_eq, decide_eq_false_iff_not, beq_iff_eq, beq_eq_false_iff_ne, Bool.not_eq_true', Bool.not_eq_false', and_true, true_and, ne_eq, Int.toNat_zero, Nat.sub_zero, List.drop_zero, i64_min, i64_max, u8_min, u8_max, ofNat_b2i, b2i_inj, Int.toNat_natCast, Int.ofNat_eq_natCast, UInt8.ofNat_toNat, AOut.ret.injEq, D.v.injEq, D.tup.injEq, V0.one.injEq, C.p.injEq, P.bool.injEq, P.int.injEq, P.str.injEq, Bool.false_eq_true, Bool.true_eq_false, imp_false, Decidable.not_not, not_true_eq_false, not_false_eq_true, List.cons.injEq, P.list.injEq, HO.row.injEq, heq_eq_eq, reduceCtorEq, false_and, and_false]
  have hal := congrArg List.length h3
  have hbl := congrArg List.length hb1
  simp only [List.length_append] at hal hbl
  have hx : ∀ h : i < l.length, l.getD i ⟨0, 0, 0, []⟩ = l[i] := fun h => by simp [h]
  have hmem : ∀ h : i < l.length, mayM (l.getD i ⟨0, 0, 0, []⟩) = true := fun h => by rw [hx h]; exact hb2 _ (List.getElem_mem h)
  have hdrop : i < l.length → encAll (l.drop i) = encB (l.getD i ⟨0, 0, 0, []⟩) ++ encAll (l.drop (i + 1)) := fun h => by rw [List.drop_eq_getElem_cons h, encAll, hx h]
  generalize l.getD i ⟨0, 0, 0, []⟩ = x at *
  obtain ⟨xk, xi, xn, xt⟩ := x
  simp only
  have hencM : i < l.length → encM ⟨xk, xi, xn, xt⟩ = encB ⟨xk, xi, xn, xt⟩ ∧ encC ⟨xk, xi, xn, xt⟩ = 0 := fun h => by simp [encM, encC, hmem h]
  have hle : i < l.length → all.length + (encB ⟨xk, xi, xn, xt⟩).length ≤ b.length := fun h => by
    rw [hdrop h, List.length_append] at hal; omega
  have hend : ¬ i < l.length → all = b.take u.toNat := fun h => by
    rw [List.drop_of_length_le (by omega)] at h3
    simp only [encAll, List.append_nil] at h3
    rw [h3]
    have : u.toNat = (encAll l).length := by omega
    rw [this]
    exact ((congrArg (List.take (encAll l).length) hb1).trans (List.take_left' rfl)).symm
  refine ⟨fun h => ?_, fun h => ?_⟩
  · have hi : i < l.length := by omega
    obtain ⟨q1, q2⟩ := hencM hi
    rw [q1, q2]
    refine ⟨by omega, by omega, rfl, fun _ => ⟨?_, by omega, ?_⟩⟩
    · have := hle hi; omega
    · refine hA (i + 1, all ++ encB ⟨xk, xi, xn, xt⟩) ⟨by omega, ?_⟩ (by simp only; omega)
      rw [List.append_assoc, ← hdrop hi]; exact h3
  · exact ⟨fun _ => ⟨by omega, hend (by omega)⟩, by omega⟩
end Go.Proofs.Ytmmfcghieefoaaa
