/- SeekWhole: nothing is lost. -/
import Derived.Test.YtmmfcghieefoaaaSeekD
set_option linter.all false
namespace Go.Proofs.Ytmmfcghieefoaaa
open Go Go.Sep Go.Ab
set_option maxRecDepth 100000
set_option linter.unusedSimpArgs false
set_option linter.unusedVariables false

/-- No mark ends anywhere in these bytes. -/
def NoMark (m s : Str) : Prop := ∀ k, ¬ m <:+ s.take k
theorem NoMark.find {m : Str} : ∀ {s : Str} {i : Int}, NoMark m s → findAt m s i = -1
  | [], i, h => by
    rw [findAt, if_neg]
    intro hp
    have := List.isPrefixOf_iff_prefix.1 hp
    have e : m = [] := List.prefix_nil.1 this
    subst e
    exact h 0 (List.suffix_refl _)
  | x :: s, i, h => by
    rw [findAt, if_neg]
    · refine NoMark.find fun k hk => h (k + 1) ?_
      rw [List.take_succ_cons]
      exact hk.trans (List.suffix_cons _ _)
    · intro hp
      have := List.prefix_iff_eq_take.1 (List.isPrefixOf_iff_prefix.1 hp)
      exact h m.length (by rw [← this]; exact List.suffix_refl _)
theorem NoMark.pre {m a b : Str} (h : NoMark m (a ++ b)) : NoMark m a := fun k hk => by
  refine h (min k a.length) ?_
  rw [List.take_append_of_le_length (by omega)]
  rcases Nat.le_total k a.length with hl | hl
  · rw [Nat.min_eq_left hl]; exact hk
  · rw [List.take_of_length_le hl] at hk
    rw [Nat.min_eq_right hl, List.take_length]; exact hk
theorem NoMark.snoc {m s : Str} {c : UInt8} (h : NoMark m s) (hc : ¬ m <:+ s ++ [c]) : NoMark m (s ++ [c]) := fun k hk => by
  rcases Nat.lt_or_ge s.length k with hl | hl
  · rw [List.take_of_length_le (by simp; omega)] at hk; exact hc hk
  · rw [List.take_append_of_le_length hl] at hk; exact h k hk
theorem NoMark.nil {m : Str} (h : m ≠ []) : NoMark m [] := fun k hk => by
  rw [List.take_nil] at hk
  exact h (List.suffix_nil.1 hk)
/-- What is told and what is held. -/
theorem feed_whole (mark since : Str) (c : UInt8) : ∃ out n' fd, feedA mark (P.held mark since) c = (out, n', fd) ∧ (fd = true ↔ mark ≠ [] ∧ mark <:+ since ++ [c]) ∧ (fd = false → n' = P.held mark (since ++ [c])) ∧ (fd = true → n' = 0) ∧
    out ++ (if fd then mark else mark.take n') = mark.take (P.held mark since) ++ [c] ∧ (P.held mark since < mark.length ∨ mark = []) ∧ P.held mark since ≤ since.length ∧ out.length ≤ P.held mark since + 1 := by
  obtain ⟨out, n', fd, h1, h2, h3, h4, h5, h6, h7, h8, h9, h10⟩ := feed_facts mark since c
  refine ⟨out, n', fd, h1, h2, h3, h4, ?_, h6, h5, h9⟩
  by_cases hm : mark = []
  · subst hm
    have h0 : ∀ s, P.held [] s = 0 := fun s => rfl
    simp only [feedA, h0, if_true, Prod.mk.injEq] at h1
    obtain ⟨rfl, rfl, rfl⟩ := h1
    rfl
  have hm0 : 0 < mark.length := by cases mark <;> simp_all
  obtain ⟨_, _, _, h4, _⟩ := P.feed_spec hm0 c (P.held_top mark since)
  have h0 : feedA mark (P.held mark since) c = P.feed mark (P.held mark since) c := if_neg hm
  rw [h0] at h1
  rw [h1] at h4
  exact h4

theorem lawWhole_ (mark b : Str) : Spc Try.prog 6 [.v (.one (.p (.list .byte mark))), .v (.one (.p (.list .byte b)))] [] (.ret (.v (.one (.p (.bool true))))) [] := by
  refine spcG tab_ok mixed Try.func6 (by kernel_rfl) { cfgS with nr := [6, 7], keep := some [0, 1, 4, 5, 6, 7, 8, 9, 10, 11] } [sameBytes__k, sameBytes__l, findFirst__k, findFirst__l, fits__k, fits__l, rest__k, rest__l, feed__k, feed__l, new__k, new__l, begun__k, begun__l] (by kernel_rfl) ?_
  intro I X hI hX
  refine ev_rule (.need (I.hid (α := (Prop)) True) (.br (I.bnot Bool.true) (.fin (.ret (.v (.one (.p (.bool Bool.false))))) []) (.br (I.ilt 60 (I.len (α := UInt8) mark)) (.fin (.ret (.v (.one (.p (.bool Bool.true))))) []) (.br (I.ilt 1000 (I.len (α := UInt8) b)) (.fin (.ret (.v (.one (.p (.bool Bool.true))))) []) (.need (I.hid (α := (Prop)) (LE.le (List.length mark) 999999)) (.code 0 [1, 1, 1, 1, 1, 0, 1, 0] ⟨[(8, (.v (.one (.p (.int .i64 0))))), (7, (.v (.one (.row 2)))), (6, (.v (.one (.row 1)))), (5, (.v (.one (.ptr 0 0)))), (4, (.v (.one (.p (.val (.bool .false)))))), (0, (.v (.one (.p (.list .byte mark))))), (1, (.v (.one (.p (.list .byte b)))))], [(.pack [(.obj 76 [(.row 1), (.row 2), (.p (.int .i64 0))]), (.row .byte 5 mark), (.row .int 3 (I.hid (α := (List Int)) (Go.Proofs.Ytmmfcghieefoaaa.bords mark)))]), (.row .byte 5 []), (.row .byte 5 [])], 88⟩)))))) (by kernel_rfl) ?_
  simp only [inst_need, inst_br, inst_both, inst_fin, inst_qed, inst_code]
  refine ⟨(by rw [hI]; trivial), fun h => (by rw [hI] at h; cases h), fun _ => ⟨fun _ => ⟨trivial, trivial⟩, fun h1 => ⟨fun _ => ⟨trivial, trivial⟩, fun h2 => ?_⟩⟩⟩
  rw [hI] at h1; simp only [alg_b2i, alg_i2b, alg_add, alg_sub, alg_mul, alg_quo, alg_rem, alg_wrap, alg_imin, alg_imax, alg_ilt, alg_ile, alg_ieq, alg_bnot, alg_beq, alg_ban, alg_seq, alg_len, alg_app, alg_cut, alg_get, alg_set, alg_rep, alg_inr, alg_inb, alg_cutb, alg_same, alg_few, alg_nne, alg_nng, alg_hid, alg_shl, alg_shr, alg_bits, decide_eq_true_eq, decide_eq_false_iff_not, beq_iff_eq, beq_eq_false_iff_ne, Bool.not_eq_true', Bool.not_eq_false', and_true, true_and, ne_eq, Int.toNat_zero, Nat.sub_zero, List.drop_zero, i64_min, i64_max, u8_min, u8_max, ofNat_b2i, b2i_inj, Int.toNat_natCast, Int.ofNat_eq_natCast, UInt8.ofNat_toNat, AOut.ret.injEq, D.v.injEq, D.tup.injEq, V0.one.injEq, C.p.injEq, P.bool.injEq, P.int.injEq, P.str.injEq, Bool.false_eq_true, Bool.true_eq_false, imp_false, Decidable.not_not, not_true_eq_false, not_false_eq_true] at h1
  rw [hI] at h2; simp only [alg_b2i, alg_i2b, alg_add, alg_sub, alg_mul, alg_quo, alg_rem, alg_wrap, alg_imin, alg_imax, alg_ilt, alg_ile, alg_ieq, alg_bnot, alg_beq, alg_ban, alg_seq, alg_len, alg_app, alg_cut, alg_get, alg_set, alg_rep, alg_inr, alg_inb, alg_cutb, alg_same, alg_few, alg_nne, alg_nng, alg_hid, alg_shl, alg_shr, alg_bits, decide_eq_true_eq, decide_eq_false_iff_not, beq_iff_eq, beq_eq_false_iff_ne, Bool.not_eq_true', Bool.not_eq_false', and_true, true_and, ne_eq, Int.toNat_zero, Nat.sub_zero, List.drop_zero, i64_min, i64_max, u8_min, u8_max, ofNat_b2i, b2i_inj, Int.toNat_natCast, Int.ofNat_eq_natCast, UInt8.ofNat_toNat, AOut.ret.injEq, D.v.injEq, D.tup.injEq, V0.one.injEq, C.p.injEq, P.bool.injEq, P.int.injEq, P.str.injEq, Bool.false_eq_true, Bool.true_eq_false, imp_false, Decidable.not_not, not_true_eq_false, not_false_eq_true] at h2
  refine ⟨(by rw [hI]; simp only [alg_b2i, alg_i2b, alg_add, alg_sub, alg_mul, alg_quo, alg_rem, alg_wrap, alg_imin, alg_imax, alg_ilt, alg_ile, alg_ieq, alg_bnot, alg_beq, alg_ban, alg_seq, alg_len, alg_app, alg_cut, alg_get, alg_set, alg_rep, alg_inr, alg_inb, alg_cutb, alg_same, alg_few, alg_nne, alg_nng, alg_hid, alg_shl, alg_shr, alg_bits, decide_eq_true_eq, decide_eq_false_iff_not, beq_iff_eq, beq_eq_false_iff_ne, Bool.not_eq_true', Bool.not_eq_false', and_true, true_and, ne_eq, Int.toNat_zero, Nat.sub_zero, List.drop_zero, i64_min, i64_max, u8_min, u8_max, ofNat_b2i, b2i_inj, Int.toNat_natCast, Int.ofNat_eq_natCast, UInt8.ofNat_toNat, AOut.ret.injEq, D.v.injEq, D.tup.injEq, V0.one.injEq, C.p.injEq, P.bool.injEq, P.int.injEq, P.str.injEq, Bool.false_eq_true, Bool.true_eq_false, imp_false, Decidable.not_not, not_true_eq_false, not_false_eq_true]; omega), ?_⟩
  generalize hbs : bords mark = bs
  refine loop_inv hI tab_ok mixed [sameBytes__k, sameBytes__l, findFirst__k, findFirst__l, fits__k, fits__l, rest__k, rest__l, feed__k, feed__l, new__k, new__l, begun__k, begun__l] hX [0, 1, 5, 6, 7, 8] (fun (g : Nat × Str × Str × Int × Str) => match g with | (i, all, part, n, since) => i ≤ b.length ∧ since.length ≤ i ∧ n = (P.held mark since : Nat) ∧ (mark ≠ [] → NoMark mark since) ∧ part ++ mark.take (P.held mark since) = since ∧ all ++ mark.take (P.held mark since) = b.take i) (fun (g : Nat × Str × Str × Int × Str) => match g with | (i, all, part, n, since) => ⟨[(0, .v (.one (.p (.list .byte mark)))), (1, .v (.one (.p (.list .byte b)))), (5, .v (.one (.ptr 0 0))), (6, .v (.one (.row 1))), (7, .v (.one (.row 2))), (8, .v (.one (.p (.int .i64 i))))], [.pack [.obj 76 [(.row 1), (.row 2), (.p (.int .i64 n))], .row .byte 5 mark, .row .int 3 ((I.hid bs))], .row .byte 5 all, .row .byte 5 part], 88⟩) (fun (g : Nat × Str × Str × Int × Str) => match g with | (i, all, part, n, since) => b.length - i) (0, [], [], 0, []) (by kernel_rfl) (by kernel_rfl) ?_ ?_
  · refine ⟨Nat.zero_le _, Nat.le_refl _, by rw [P.held_nil]; rfl, NoMark.nil, ?_, ?_⟩ <;> rw [P.held_nil] <;> rfl
  rintro ⟨i, all, part, n, since⟩ ⟨hi, hsi, hn, hno, hpart, hall⟩ A hA
  simp only at hA
  refine ev_rule (.br (I.ilt (Nat.cast i) (I.len (α := UInt8) b)) (.need (I.inb (Nat.cast i) (I.len (α := UInt8) b)) (.need (I.inb (Nat.cast i) (I.len (α := UInt8) b)) (.need (I.hid (α := (Prop)) (And (Eq (I.hid (α := (List Int)) bs) (Go.Proofs.Ytmmfcghieefoaaa.bords mark)) (And (LE.le (List.length mark) 1000000) (And (LE.le (0 : Int) n) (And (Or (Eq mark []) (LT.lt n (Nat.cast (List.length mark)))) (And (LE.le (0 : Int) (I.b2i (I.get (α := UInt8) b 0 (Nat.cast i)))) (LE.le (I.b2i (I.get (α := UInt8) b 0 (Nat.cast i))) (255 : Int)))))))) (.need (I.few (I.add (I.len (α := UInt8) all) (I.len (α := UInt8) (I.hid (α := (List UInt8)) (Prod.fst (Go.Proofs.Ytmmfcghieefoaaa.feedA mark (Int.toNat n) (UInt8.ofNat (Int.toNat (I.b2i (I.get (α := UInt8) b 0 (Nat.cast i)))))))))) 100000000) (.need (I.few (I.add (I.len (α := UInt8) part) (I.len (α := UInt8) (I.hid (α := (List UInt8)) (Prod.fst (Go.Proofs.Ytmmfcghieefoaaa.feedA mark (Int.toNat n) (UInt8.ofNat (Int.toNat (I.b2i (I.get (α := UInt8) b 0 (Nat.cast i)))))))))) 100000000) (.br (I.hid (α := Bool) (Prod.snd (Prod.snd (Go.Proofs.Ytmmfcghieefoaaa.feedA mark (Int.toNat n) (UInt8.ofNat (Int.toNat (I.b2i (I.get (α := UInt8) b 0 (Nat.cast i))))))))) (.br (I.ieq (I.len (α := UInt8) mark) 0) (.fin (.ret (.v (.one (.p (.bool Bool.false))))) []) (.need (I.hid (α := (Prop)) (And (LE.le (List.length (I.app (α := UInt8) part (I.hid (α := (List UInt8)) (Prod.fst (Go.Proofs.Ytmmfcghieefoaaa.feedA mark (Int.toNat n) (UInt8.ofNat (Int.toNat (I.b2i (I.get (α := UInt8) b 0 (Nat.cast i)))))))))) 1000000) (LE.le (List.length mark) 1000000))) (.br (I.ile 0 (I.hid (α := Int) (Go.Proofs.Ytmmfcghieefoaaa.findAt mark (I.app (α := UInt8) part (I.hid (α := (List UInt8)) (Prod.fst (Go.Proofs.Ytmmfcghieefoaaa.feedA mark (Int.toNat n) (UInt8.ofNat (Int.toNat (I.b2i (I.get (α := UInt8) b 0 (Nat.cast i))))))))) (0 : Int)))) (.fin (.ret (.v (.one (.p (.bool Bool.false))))) []) (.need (I.few (I.add (I.len (α := UInt8) (I.app (α := UInt8) all (I.hid (α := (List UInt8)) (Prod.fst (Go.Proofs.Ytmmfcghieefoaaa.feedA mark (Int.toNat n) (UInt8.ofNat (Int.toNat (I.b2i (I.get (α := UInt8) b 0 (Nat.cast i)))))))))) (I.len (α := UInt8) mark)) 100000000) (.need (I.inr Go.IntKind.i64 (I.add (Nat.cast i) 1)) (.need (A ⟨[(0, (.v (.one (.p (.list .byte mark))))), (1, (.v (.one (.p (.list .byte b))))), (5, (.v (.one (.ptr 0 0)))), (6, (.v (.one (.row 1)))), (7, (.v (.one (.row 2)))), (8, (.v (.one (.p (.int .i64 (I.add (Nat.cast i) 1))))))], [(.pack [(.obj 76 [(.row 1), (.row 2), (.p (.int .i64 (I.hid (α := Int) (Nat.cast (Prod.fst (Prod.snd (Go.Proofs.Ytmmfcghieefoaaa.feedA mark (Int.toNat n) (UInt8.ofNat (Int.toNat (I.b2i (I.get (α := UInt8) b 0 (Nat.cast i))))))))))))]), (.row .byte 5 mark), (.row .int 3 (I.hid (α := (List Int)) bs))]), (.row .byte 5 (I.app (α := UInt8) (I.app (α := UInt8) all (I.hid (α := (List UInt8)) (Prod.fst (Go.Proofs.Ytmmfcghieefoaaa.feedA mark (Int.toNat n) (UInt8.ofNat (Int.toNat (I.b2i (I.get (α := UInt8) b 0 (Nat.cast i))))))))) mark)), (.row .byte 5 [])], 88⟩) .qed)))))) (.need (I.inr Go.IntKind.i64 (I.add (Nat.cast i) 1)) (.need (A ⟨[(0, (.v (.one (.p (.list .byte mark))))), (1, (.v (.one (.p (.list .byte b))))), (5, (.v (.one (.ptr 0 0)))), (6, (.v (.one (.row 1)))), (7, (.v (.one (.row 2)))), (8, (.v (.one (.p (.int .i64 (I.add (Nat.cast i) 1))))))], [(.pack [(.obj 76 [(.row 1), (.row 2), (.p (.int .i64 (I.hid (α := Int) (Nat.cast (Prod.fst (Prod.snd (Go.Proofs.Ytmmfcghieefoaaa.feedA mark (Int.toNat n) (UInt8.ofNat (Int.toNat (I.b2i (I.get (α := UInt8) b 0 (Nat.cast i))))))))))))]), (.row .byte 5 mark), (.row .int 3 (I.hid (α := (List Int)) bs))]), (.row .byte 5 (I.app (α := UInt8) all (I.hid (α := (List UInt8)) (Prod.fst (Go.Proofs.Ytmmfcghieefoaaa.feedA mark (Int.toNat n) (UInt8.ofNat (Int.toNat (I.b2i (I.get (α := UInt8) b 0 (Nat.cast i)))))))))), (.row .byte 5 (I.app (α := UInt8) part (I.hid (α := (List UInt8)) (Prod.fst (Go.Proofs.Ytmmfcghieefoaaa.feedA mark (Int.toNat n) (UInt8.ofNat (Int.toNat (I.b2i (I.get (α := UInt8) b 0 (Nat.cast i))))))))))], 88⟩) .qed)))))))) (.br (I.ilt 0 (I.len (α := UInt8) mark)) (.need (I.hid (α := (Prop)) (And (LE.le (List.length part) 1000000) (LE.le (List.length mark) 1000000))) (.br (I.ile 0 (I.hid (α := Int) (Go.Proofs.Ytmmfcghieefoaaa.findAt mark part (0 : Int)))) (.fin (.ret (.v (.one (.p (.bool Bool.false))))) []) (.need (I.hid (α := (Prop)) (And (LE.le (0 : Int) n) (And (LE.le n (Nat.cast (List.length mark))) (LE.le (List.length mark) 100000000)))) (.need (I.few (I.add (I.len (α := UInt8) all) (I.len (α := UInt8) (I.hid (α := (List UInt8)) (List.take (Int.toNat n) mark)))) 100000000) (.need (I.hid (α := (Prop)) True) (.br (I.hid (α := Bool) (BEq.beq (I.app (α := UInt8) all (I.hid (α := (List UInt8)) (List.take (Int.toNat n) mark))) b)) (.br (I.ile (I.len (α := UInt8) (I.hid (α := (List UInt8)) (List.take (Int.toNat n) mark))) (I.len (α := UInt8) mark)) (.need (I.hid (α := (Prop)) True) (.fin (.ret (.v (.one (.p (.bool (I.ieq 0 0)))))) [])) (.fin (.ret (.v (.one (.p (.bool Bool.false))))) [])) (.fin (.ret (.v (.one (.p (.bool Bool.false))))) []))))))) (.need (I.hid (α := (Prop)) (And (LE.le (0 : Int) n) (And (LE.le n (Nat.cast (List.length mark))) (LE.le (List.length mark) 100000000)))) (.need (I.few (I.add (I.len (α := UInt8) all) (I.len (α := UInt8) (I.hid (α := (List UInt8)) (List.take (Int.toNat n) mark)))) 100000000) (.need (I.hid (α := (Prop)) True) (.br (I.hid (α := Bool) (BEq.beq (I.app (α := UInt8) all (I.hid (α := (List UInt8)) (List.take (Int.toNat n) mark))) b)) (.br (I.ile (I.len (α := UInt8) (I.hid (α := (List UInt8)) (List.take (Int.toNat n) mark))) (I.len (α := UInt8) mark)) (.need (I.hid (α := (Prop)) True) (.fin (.ret (.v (.one (.p (.bool (I.ieq 0 0)))))) [])) (.fin (.ret (.v (.one (.p (.bool Bool.false))))) [])) (.fin (.ret (.v (.one (.p (.bool Bool.false))))) []))))))) (by kernel_rfl) ?_
  simp only [inst_need, inst_br, inst_both, inst_fin, inst_qed, inst_code]
  subst hI
  simp only [alg_b2i, alg_i2b, alg_add, alg_sub, alg_mul, alg_quo, alg_rem, alg_wrap, alg_imin, alg_imax, alg_ilt, alg_ile, alg_ieq, alg_bnot, alg_beq, alg_ban, alg_seq, alg_len, alg_app, alg_cut, alg_get, alg_set, alg_rep, alg_inr, alg_inb, alg_cutb, alg_same, alg_few, alg_nne, alg_nng, alg_hid, alg_shl, alg_shr, alg_bits, decide_eq_true_eq, decide_eq_false_iff_not, beq_iff_eq, beq_eq_false_iff_ne, Bool.not_eq_true', Bool.not_eq_false', and_true, true_and, ne_eq, Int.toNat_zero, Nat.sub_zero, List.drop_zero, i64_min, i64_max, u8_min, u8_max, ofNat_b2i, b2i_inj, Int.toNat_natCast, Int.ofNat_eq_natCast, UInt8.ofNat_toNat, AOut.ret.injEq, D.v.injEq, D.tup.injEq, V0.one.injEq, C.p.injEq, P.bool.injEq, P.int.injEq, P.str.injEq, Bool.false_eq_true, Bool.true_eq_false, imp_false, Decidable.not_not, not_true_eq_false, not_false_eq_true]
  generalize hc : b.getD i 0 = c
  obtain ⟨out, n', fd, hf, f1, f2, f3, f5, f6, f7, f8⟩ := feed_whole mark since c
  rw [← Int.toNat_natCast (P.held mark since), ← hn] at hf
  have hu : 0 ≤ (c.toNat : Int) ∧ (c.toNat : Int) ≤ 255 := by have := c.toNat_lt; omega
  simp only [hf, List.length_append, List.length_cons, List.length_nil, Nat.zero_add]
  have hheld : P.held mark since ≤ mark.length := by rcases f6 with h | h; omega; subst h; exact Nat.le_refl 0
  have hal := congrArg List.length hall
  have hpl := congrArg List.length hpart
  have hol := congrArg List.length f5
  simp only [List.length_append, List.length_take, Nat.min_eq_left hheld] at hal hpl
  have hnt : mark.take n.toNat = mark.take (P.held mark since) := by rw [hn, Int.toNat_natCast]
  have hmk1 : mark = [] ∨ n < (List.length mark : Int) := by rcases f6 with h | h; right; omega; exact .inl h
  have hpos : mark ≠ [] ↔ 0 < mark.length := by cases mark <;> simp
  have hall2 : i < b.length → (all ++ out) ++ (if fd then mark else mark.take n') = b.take (i + 1) := by
    intro h
    rw [List.append_assoc, f5, ← List.append_assoc, hall, List.take_succ_eq_append_getElem h]
    rw [← hc]; simp [h]
  have hend : ¬ i < b.length → all ++ mark.take n.toNat = b := by
    intro h
    rw [hnt, hall, List.take_of_length_le (by omega)]
  have hfind : 0 < mark.length → ¬ 0 ≤ findAt mark part 0 := by
    intro h
    have : NoMark mark part := by have := hno (hpos.2 h); rw [← hpart] at this; exact this.pre
    rw [this.find]; omega
  have hlt : (mark.take n.toNat).length ≤ mark.length := by simp only [List.length_take]; omega
  have hlt2 : all.length + (mark.take n.toNat).length ≤ i := by simp only [List.length_take]; omega
  cases fd with
  | true =>
    simp only [if_true] at f5 hall2
    obtain ⟨g1, g2⟩ := f1.1 rfl
    have g3 := hpos.1 g1
    have g4 := f3 rfl
    subst g4
    have e1 : part ++ out ++ mark = since ++ [c] := by rw [List.append_assoc, f5, ← List.append_assoc, hpart]
    have e2 : since = (part ++ out) ++ mark.dropLast := by
      have := congrArg List.dropLast e1
      rw [List.dropLast_append_of_ne_nil g1, List.dropLast_concat] at this
      exact this.symm
    have hfind2 : ¬ 0 ≤ findAt mark (part ++ out) 0 := by
      have : NoMark mark (part ++ out) := by have := hno g1; rw [e2] at this; exact this.pre
      rw [this.find]; omega
    have hback : i < b.length → A ⟨[(0, .v (.one (.p (.list .byte mark)))), (1, .v (.one (.p (.list .byte b)))), (5, .v (.one (.ptr 0 0))), (6, .v (.one (.row 1))), (7, .v (.one (.row 2))), (8, .v (.one (.p (.int .i64 (((i : Int) + 1))))))], [.pack [.obj 76 [(.row 1), (.row 2), (.p (.int .i64 (((0 : Nat) : Int))))], .row .byte 5 mark, .row .int 3 bs], .row .byte 5 ((all ++ out ++ mark)), .row .byte 5 ([])], 88⟩ := fun h =>
      hA (i + 1, all ++ out ++ mark, [], 0, []) ⟨by omega, Nat.zero_le _, by rw [P.held_nil]; rfl, NoMark.nil, by rw [P.held_nil]; rfl, by rw [P.held_nil, List.take_zero, List.append_nil]; exact hall2 h⟩ (by simp only; omega)
    (repeat' (first | refine And.intro ?_ ?_ | intro _)) <;> try omega
    all_goals first
      | exact hbs.symm
      | exact hmk1
      | exact hfind2
      | exact hfind (by omega)
      | exact hback (by omega)
      | exact hend (by omega)
      | trivial
  | false =>
    simp only [Bool.false_eq_true, if_false] at f5 hall2
    have g1 : ¬ (mark ≠ [] ∧ mark <:+ since ++ [c]) := fun h => by cases f1.2 h
    have g4 := f2 rfl
    subst g4
    have hback : i < b.length → A ⟨[(0, .v (.one (.p (.list .byte mark)))), (1, .v (.one (.p (.list .byte b)))), (5, .v (.one (.ptr 0 0))), (6, .v (.one (.row 1))), (7, .v (.one (.row 2))), (8, .v (.one (.p (.int .i64 (((i : Int) + 1))))))], [.pack [.obj 76 [(.row 1), (.row 2), (.p (.int .i64 (((P.held mark (since ++ [c]) : Nat) : Int))))], .row .byte 5 mark, .row .int 3 bs], .row .byte 5 ((all ++ out)), .row .byte 5 ((part ++ out))], 88⟩ := fun h =>
      hA (i + 1, all ++ out, part ++ out, (P.held mark (since ++ [c]) : Nat), since ++ [c]) ⟨by omega, by simp; omega, rfl, fun hm => (hno hm).snoc (fun hs => g1 ⟨hm, hs⟩), by rw [List.append_assoc, f5, ← List.append_assoc, hpart], hall2 h⟩ (by simp only; omega)
    (repeat' (first | refine And.intro ?_ ?_ | intro _)) <;> try omega
    all_goals first
      | exact hbs.symm
      | exact hmk1
      | exact hfind (by omega)
      | exact hback (by omega)
      | exact hend (by omega)
      | trivial
end Go.Proofs.Ytmmfcghieefoaaa
