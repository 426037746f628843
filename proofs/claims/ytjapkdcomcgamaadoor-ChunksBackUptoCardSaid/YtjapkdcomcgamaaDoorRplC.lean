/- A line at the beginning of bytes, the document's own walk; fields that are the same. -/
import Derived.Test.YtjapkdcomcgamaaDoorLnL
import Derived.Test.YtjapkdcomcgamaaDoorFldB
set_option linter.all false
namespace Go.Proofs.YtjapkdcomcgamaaDoor
open Go Go.Sep Go.Ab
set_option maxRecDepth 100000

theorem lineGo_at {b : Str} {i : Nat} (h : i < b.length) : lineGo (b.take i) (b.drop i) =
    if b.getD i 0 = 13 then (if i + 1 < b.length then (if b.getD (i + 1) 0 = 10 then (b.take i, (i : Int) + 2, true, 0) else ([], (i : Int) + 2, false, 2)) else ([], 0, false, 0))
    else if b.getD i 0 = 10 then ([], (i : Int) + 1, false, 2) else if seenC (b.getD i 0) = false then ([], (i : Int) + 1, false, 3) else if i = 200 then ([], (i : Int) + 1, false, 4)
    else lineGo (b.take (i + 1)) (b.drop (i + 1)) := by
  have e1 : b.getD i 0 = b[i] := by simp [h]
  have hl : (b.take i).length = i := by rw [List.length_take]; omega
  rw [e1, List.drop_eq_getElem_cons h, List.take_succ_eq_append_getElem h, lineGo.eq_def]
  simp only [hl]
  split
  · by_cases h2 : i + 1 < b.length
    · have e2 : b.getD (i + 1) 0 = b[i + 1] := by simp [h2]
      rw [if_pos h2, e2, List.drop_eq_getElem_cons h2]
    · rw [if_neg h2, List.drop_of_length_le (by omega)]
  · rfl

theorem lineOf_ (b : Str) (hneed : b.length ≤ 1000000) : Spc Tryd.prog 43 [.v (.one (.p (.list .byte b)))] [] (.ret (.tup [(.one (.p (.str ((lineOf b).1)))), (.one (.p (.int .i64 ((lineOf b).2.1)))), (.one (.p (.bool ((lineOf b).2.2.1)))), (.one (.p (.int .i64 ((lineOf b).2.2.2))))])) [] := by
  generalize hr : lineOf b = r
  obtain ⟨s, n, ok, c⟩ := r
  refine spcG tab_ok mixed Tryd.func43 (by kernel_rfl) { keep := some [0, 2, 3, 4, 5, 6, 7] } [isSeen__k, isSeen__l] (by kernel_rfl) ?_
  intro I X hI hX
  refine ev_rule (.code 0 [1, 0, 1, 0] ⟨[(6, (.v (.one (.p (.int .i64 0))))), (5, (.v (.one (.p (.int .i64 0))))), (4, (.v (.one (.p (.val (.bool .false)))))), (3, (.v (.one (.p (.int .i64 0))))), (2, (.v (.one (.p (.str (Array.toList (List.toArray ([] : List UInt8)))))))), (0, (.v (.one (.p (.list .byte b)))))], [], 52⟩) (by kernel_rfl) ?_
  simp only [inst_need, inst_br, inst_both, inst_fin, inst_qed, inst_stop, inst_code]
  refine loop_inv hI tab_ok mixed [isSeen__k, isSeen__l] hX [0, 6] (fun (i : Nat) => i ≤ b.length ∧ i ≤ 200 ∧ lineGo (b.take i) (b.drop i) = (s, n, ok, c)) (fun (i : Nat) => ⟨[(0, .v (.one (.p (.list .byte b)))), (6, .v (.one (.p (.int .i64 i))))], [], 52⟩) (fun (i : Nat) => b.length - i) 0 (by kernel_rfl) (by kernel_rfl) ?_ ?_
  · exact ⟨Nat.zero_le _, Nat.zero_le _, hr⟩
  rintro i ⟨h1, h2, h3⟩ A hA
  refine ev_rule (let y0 := I.inr Go.IntKind.i64 (I.add (Nat.cast i) 1); let y1 := I.b2i (I.get (α := UInt8) b 0 (Nat.cast i)); let y2 := I.inb (I.add (Nat.cast i) 1) (I.len (α := UInt8) b); let y3 := I.inr Go.IntKind.i64 (I.add (Nat.cast i) 2); let y4 := I.inb (Nat.cast i) (I.len (α := UInt8) b); .br (I.ilt (Nat.cast i) (I.len (α := UInt8) b)) (.need y4 (.need y4 (.br (I.ieq y1 13) (.need y0 (.br (I.ieq (I.add (Nat.cast i) 1) (I.len (α := UInt8) b)) (.fin (.ret (.tup [(.one (.p (.str (Array.toList (List.toArray ([] : List UInt8)))))), (.one (.p (.int .i64 0))), (.one (.p (.bool Bool.false))), (.one (.p (.int .i64 0)))])) []) (.need y0 (.need y2 (.need y2 (.br (I.bnot (I.ieq (I.b2i (I.get (α := UInt8) b 0 (I.add (Nat.cast i) 1))) 10)) (.need y3 (.fin (.ret (.tup [(.one (.p (.str (Array.toList (List.toArray ([] : List UInt8)))))), (.one (.p (.int .i64 (I.add (Nat.cast i) 2)))), (.one (.p (.bool Bool.false))), (.one (.p (.int .i64 2)))])) [])) (.need (I.cutb 0 (Int.ofNat i) (I.len (α := UInt8) b)) (.need y3 (.fin (.ret (.tup [(.one (.p (.str (I.cut (α := UInt8) b 0 (Int.ofNat i))))), (.one (.p (.int .i64 (I.add (Nat.cast i) 2)))), (.one (.p (.bool Bool.true))), (.one (.p (.int .i64 0)))])) []))))))))) (.br (I.ieq y1 10) (.need y0 (.fin (.ret (.tup [(.one (.p (.str (Array.toList (List.toArray ([] : List UInt8)))))), (.one (.p (.int .i64 (I.add (Nat.cast i) 1)))), (.one (.p (.bool Bool.false))), (.one (.p (.int .i64 2)))])) [])) (.need (I.hid (α := (Prop)) True) (.br (I.bnot (I.hid (α := Bool) (seenB y1))) (.need y0 (.fin (.ret (.tup [(.one (.p (.str (Array.toList (List.toArray ([] : List UInt8)))))), (.one (.p (.int .i64 (I.add (Nat.cast i) 1)))), (.one (.p (.bool Bool.false))), (.one (.p (.int .i64 3)))])) [])) (.br (I.ieq (Nat.cast i) 200) (.need y0 (.fin (.ret (.tup [(.one (.p (.str (Array.toList (List.toArray ([] : List UInt8)))))), (.one (.p (.int .i64 (I.add (Nat.cast i) 1)))), (.one (.p (.bool Bool.false))), (.one (.p (.int .i64 4)))])) [])) (.need y0 (.need (A ⟨[(0, (.v (.one (.p (.list .byte b))))), (6, (.v (.one (.p (.int .i64 (I.add (Nat.cast i) 1))))))], [], 52⟩) .qed))))))))) (.fin (.ret (.tup [(.one (.p (.str (Array.toList (List.toArray ([] : List UInt8)))))), (.one (.p (.int .i64 0))), (.one (.p (.bool Bool.false))), (.one (.p (.int .i64 0)))])) [])) (by kernel_rfl) ?_
  simp only [inst_need, inst_br, inst_both, inst_fin, inst_qed, inst_stop, inst_code]
  subst hI
  simp only [alg_b2i, alg_i2b, alg_add, alg_sub, alg_mul, alg_quo, alg_rem, alg_wrap, alg_imin, alg_imax, alg_ilt, alg_ile, alg_ieq, alg_bnot, alg_beq, alg_ban, alg_seq, alg_len, alg_app, alg_cut, alg_get, alg_set, alg_rep, alg_inr, alg_inb, alg_cutb, alg_same, alg_few, alg_nne, alg_nng, alg_hid, alg_shl, alg_shr, alg_bits, decide_eq_true_eq, decide_eq_false_iff_not, beq_iff_eq, beq_eq_false_iff_ne, Bool.not_eq_true', Bool.not_eq_false', Bool.and_eq_true, Bool.and_true, Bool.true_and, and_true, true_and, ne_eq, Int.toNat_zero, Nat.sub_zero, List.drop_zero, i64_min, i64_max, u8_min, u8_max, ofNat_b2i, b2i_inj, Int.toNat_natCast, Int.ofNat_eq_natCast, UInt8.ofNat_toNat, AOut.ret.injEq, D.v.injEq, D.tup.injEq, V0.one.injEq, C.p.injEq, P.bool.injEq, P.int.injEq, P.str.injEq, Bool.false_eq_true, Bool.true_eq_false, imp_false, Decidable.not_not, not_true_eq_false, not_false_eq_true, List.cons.injEq, P.list.injEq, HO.row.injEq, heq_eq_eq, reduceCtorEq, false_and, and_false]
  have hx : i < b.length → _ := fun h => lineGo_at (b := b) (i := i) h
  have hend : ¬ i < b.length → (s, n, ok, c) = ([], 0, false, 0) := fun h => by rw [← h3, List.drop_of_length_le (by omega)]; rfl
  unfold seenC at hx
  rw [h3] at hx
  have hn1 : ((i : Int) + 1).toNat = i + 1 := by omega
  rw [hn1]
  generalize b.getD i 0 = x at *
  generalize b.getD (i + 1) 0 = y at *
  have h13 : (x.toNat : Int) = 13 ↔ x = 13 := ⟨fun h => UInt8.toNat_inj.1 (Int.ofNat_inj.1 h), fun h => by subst h; rfl⟩
  have h10 : (x.toNat : Int) = 10 ↔ x = 10 := ⟨fun h => UInt8.toNat_inj.1 (Int.ofNat_inj.1 h), fun h => by subst h; rfl⟩
  have hy10 : (y.toNat : Int) = 10 ↔ y = 10 := ⟨fun h => UInt8.toNat_inj.1 (Int.ofNat_inj.1 h), fun h => by subst h; rfl⟩
  simp only [h13, h10, hy10]
  (repeat' (first | refine And.intro ?_ ?_ | intro _)) <;> first | omega | exact True.intro | exact False.elim ‹False› | skip
  all_goals first
    | (have hx := hx (by omega); ((repeat (first | rewrite [if_pos (by first | omega | assumption | (simp only [*, or_self, or_true, true_or, or_false, false_or, not_true_eq_false, not_false_eq_true, Bool.false_eq_true, Bool.true_eq_false, and_self, and_true, true_and]; done) | (simp only [*]; omega) | (simp [*]; done) | (simp [*]; omega))] at hx | rewrite [if_neg (by first | omega | assumption | (simp only [*, or_self, or_true, true_or, or_false, false_or, not_true_eq_false, not_false_eq_true, Bool.false_eq_true, Bool.true_eq_false, and_self, and_true, true_and]; done) | (simp only [*]; omega) | (simp [*]; done) | (simp [*]; omega))] at hx))); cases hx; first | rfl | done | exact ⟨rfl, rfl, rfl, rfl⟩ | (simp; done) | (simp; omega))
    | (have hx := hx (by omega); ((repeat (first | rewrite [if_pos (by first | omega | assumption | (simp only [*, or_self, or_true, true_or, or_false, false_or, not_true_eq_false, not_false_eq_true, Bool.false_eq_true, Bool.true_eq_false, and_self, and_true, true_and]; done) | (simp only [*]; omega) | (simp [*]; done) | (simp [*]; omega))] at hx | rewrite [if_neg (by first | omega | assumption | (simp only [*, or_self, or_true, true_or, or_false, false_or, not_true_eq_false, not_false_eq_true, Bool.false_eq_true, Bool.true_eq_false, and_self, and_true, true_and]; done) | (simp only [*]; omega) | (simp [*]; done) | (simp [*]; omega))] at hx))); exact hA (i + 1) ⟨by omega, by omega, hx.symm⟩ (by omega))
    | (have hend := hend (by omega); cases hend; first | rfl | exact ⟨rfl, rfl, rfl, rfl⟩)
    | trace_state
def lineOf__c (I : Alg) (args : List D) (hp : List HO) : Option CT := match args, hp with
  | [.v (.one (.p (.list .byte b)))], [] => (fun (b : Str) => (some (.one ⟨I.hid (b.length ≤ 1000000), (.ret (.tup [(.one (.p (.str (I.hid ((lineOf b).1))))), (.one (.p (.int .i64 (I.hid ((lineOf b).2.1))))), (.one (.p (.bool (I.hid ((lineOf b).2.2.1))))), (.one (.p (.int .i64 (I.hid ((lineOf b).2.2.2)))))])), []⟩) : Option CT)) b
  | _, _ => none
theorem lineOf__g : GoodC Tryd.prog 43 (lineOf__c alg) := by
  intro args hp r h
  unfold lineOf__c at h
  split at h
  · cases h; exact fun hn => lineOf_ _ hn
  · cases h
def lineOf__k : Know Tryd.prog := ⟨43, lineOf__c, lineOf__g⟩
def lineOf__l : Know Tryd.prog := ⟨43, fun I => lendC I (lineOf__c I), lendC_good lineOf__g⟩

theorem fld_ext_drop {l m : List Fld} {i : Nat} (h1 : i < l.length) (h2 : i < m.length) : (decide (l.drop i = m.drop i)) = (decide (l.getD i ⟨[], []⟩ = m.getD i ⟨[], []⟩) && decide (l.drop (i + 1) = m.drop (i + 1))) := by
  have e1 : l.getD i ⟨[], []⟩ = l[i] := by simp [h1]
  have e2 : m.getD i ⟨[], []⟩ = m[i] := by simp [h2]
  rw [e1, e2, Bool.eq_iff_iff, Bool.and_eq_true, decide_eq_true_iff, decide_eq_true_iff, decide_eq_true_iff, List.drop_eq_getElem_cons h1, List.drop_eq_getElem_cons h2, List.cons.injEq]
theorem fld_ext {x y : Fld} (h1 : x.name = y.name) (h2 : x.value = y.value) : x = y := by cases x; cases y; simp_all
theorem sameF_ (l m : List Fld) (hneed : l.length ≤ 1000000 ∧ m.length ≤ 1000000) : Spc Tryd.prog 46 [.v (.one (.p (.list .fld l))), .v (.one (.p (.list .fld m)))] [] (.ret (.v (.one (.p (.bool ((decide (l = m)))))))) [] := by
  obtain ⟨hl, hm⟩ := hneed
  generalize hr : decide (l = m) = r
  refine spcG tab_ok mixed Tryd.func46 (by kernel_rfl) { keep := some [0, 1, 4, 5] } [] (by kernel_rfl) ?_
  intro I X hI hX
  refine ev_rule (.br (I.bnot (I.ieq (I.len (α := Go.Ab.Fld) l) (I.len (α := Go.Ab.Fld) m))) (.fin (.ret (.v (.one (.p (.bool Bool.false))))) []) (.code 0 [1, 1, 0, 1, 0] ⟨[(5, (.v (.one (.p (.int .i64 0))))), (4, (.v (.one (.p (.val (.bool .false)))))), (0, (.v (.one (.p (.list .fld l))))), (1, (.v (.one (.p (.list .fld m)))))], [], 26⟩)) (by kernel_rfl) ?_
  simp only [inst_need, inst_br, inst_both, inst_fin, inst_qed, inst_stop, inst_code]
  refine ⟨fun c1 => ?_, fun c1 => ?_⟩
  · subst hI
    simp only [alg_b2i, alg_i2b, alg_add, alg_sub, alg_mul, alg_quo, alg_rem, alg_wrap, alg_imin, alg_imax, alg_ilt, alg_ile, alg_ieq, alg_bnot, alg_beq, alg_ban, alg_seq, alg_len, alg_app, alg_cut, alg_get, alg_set, alg_rep, alg_inr, alg_inb, alg_cutb, alg_same, alg_few, alg_nne, alg_nng, alg_hid, alg_shl, alg_shr, alg_bits, decide_eq_true_eq, decide_eq_false_iff_not, beq_iff_eq, beq_eq_false_iff_ne, Bool.not_eq_true', Bool.not_eq_false', Bool.and_eq_true, Bool.and_true, Bool.true_and, and_true, true_and, ne_eq, Int.toNat_zero, Nat.sub_zero, List.drop_zero, i64_min, i64_max, u8_min, u8_max, ofNat_b2i, b2i_inj, Int.toNat_natCast, Int.ofNat_eq_natCast, UInt8.ofNat_toNat, AOut.ret.injEq, D.v.injEq, D.tup.injEq, V0.one.injEq, C.p.injEq, P.bool.injEq, P.int.injEq, P.str.injEq, Bool.false_eq_true, Bool.true_eq_false, imp_false, Decidable.not_not, not_true_eq_false, not_false_eq_true] at c1
    simp only [alg_b2i, alg_i2b, alg_add, alg_sub, alg_mul, alg_quo, alg_rem, alg_wrap, alg_imin, alg_imax, alg_ilt, alg_ile, alg_ieq, alg_bnot, alg_beq, alg_ban, alg_seq, alg_len, alg_app, alg_cut, alg_get, alg_set, alg_rep, alg_inr, alg_inb, alg_cutb, alg_same, alg_few, alg_nne, alg_nng, alg_hid, alg_shl, alg_shr, alg_bits, decide_eq_true_eq, decide_eq_false_iff_not, beq_iff_eq, beq_eq_false_iff_ne, Bool.not_eq_true', Bool.not_eq_false', Bool.and_eq_true, Bool.and_true, Bool.true_and, and_true, true_and, ne_eq, Int.toNat_zero, Nat.sub_zero, List.drop_zero, i64_min, i64_max, u8_min, u8_max, ofNat_b2i, b2i_inj, Int.toNat_natCast, Int.ofNat_eq_natCast, UInt8.ofNat_toNat, AOut.ret.injEq, D.v.injEq, D.tup.injEq, V0.one.injEq, C.p.injEq, P.bool.injEq, P.int.injEq, P.str.injEq, Bool.false_eq_true, Bool.true_eq_false, imp_false, Decidable.not_not, not_true_eq_false, not_false_eq_true]
    rw [← hr]
    exact (decide_eq_false fun e => c1 (by rw [e])).symm
  have hlm : l.length = m.length := by
    subst hI
    simp only [alg_b2i, alg_i2b, alg_add, alg_sub, alg_mul, alg_quo, alg_rem, alg_wrap, alg_imin, alg_imax, alg_ilt, alg_ile, alg_ieq, alg_bnot, alg_beq, alg_ban, alg_seq, alg_len, alg_app, alg_cut, alg_get, alg_set, alg_rep, alg_inr, alg_inb, alg_cutb, alg_same, alg_few, alg_nne, alg_nng, alg_hid, alg_shl, alg_shr, alg_bits, decide_eq_true_eq, decide_eq_false_iff_not, beq_iff_eq, beq_eq_false_iff_ne, Bool.not_eq_true', Bool.not_eq_false', Bool.and_eq_true, Bool.and_true, Bool.true_and, and_true, true_and, ne_eq, Int.toNat_zero, Nat.sub_zero, List.drop_zero, i64_min, i64_max, u8_min, u8_max, ofNat_b2i, b2i_inj, Int.toNat_natCast, Int.ofNat_eq_natCast, UInt8.ofNat_toNat, AOut.ret.injEq, D.v.injEq, D.tup.injEq, V0.one.injEq, C.p.injEq, P.bool.injEq, P.int.injEq, P.str.injEq, Bool.false_eq_true, Bool.true_eq_false, imp_false, Decidable.not_not, not_true_eq_false, not_false_eq_true] at c1
    omega
  refine loop_inv hI tab_ok mixed [] hX [0, 1, 5] (fun (i : Nat) => i ≤ l.length ∧ r = decide (l.drop i = m.drop i)) (fun (i : Nat) => ⟨[(0, .v (.one (.p (.list .fld l)))), (1, .v (.one (.p (.list .fld m)))), (5, .v (.one (.p (.int .i64 i))))], [], 26⟩) (fun (i : Nat) => l.length - i) 0 (by kernel_rfl) (by kernel_rfl) ?_ ?_
  · exact ⟨Nat.zero_le _, hr.symm⟩
  rintro i ⟨h1, h2⟩ A hA
  refine ev_rule (let y0 := I.get (α := Go.Ab.Fld) l (Go.Ab.Fld.mk ([] : List UInt8) ([] : List UInt8)) (Nat.cast i); let y1 := I.get (α := Go.Ab.Fld) m (Go.Ab.Fld.mk ([] : List UInt8) ([] : List UInt8)) (Nat.cast i); let y2 := I.inb (Nat.cast i) (I.len (α := Go.Ab.Fld) l); let y3 := I.inb (Nat.cast i) (I.len (α := Go.Ab.Fld) m); .br (I.ilt (Nat.cast i) (I.len (α := Go.Ab.Fld) l)) (.need y2 (.need y2 (.need y3 (.need y3 (.br (I.bnot (I.ban (I.seq (Go.Ab.Fld.name y0) (Go.Ab.Fld.name y1)) (I.seq (Go.Ab.Fld.value y0) (Go.Ab.Fld.value y1)))) (.fin (.ret (.v (.one (.p (.bool Bool.false))))) []) (.need (I.inr Go.IntKind.i64 (I.add (Nat.cast i) 1)) (.need (A ⟨[(0, (.v (.one (.p (.list .fld l))))), (1, (.v (.one (.p (.list .fld m))))), (5, (.v (.one (.p (.int .i64 (I.add (Nat.cast i) 1))))))], [], 26⟩) .qed))))))) (.fin (.ret (.v (.one (.p (.bool Bool.true))))) [])) (by kernel_rfl) ?_
  simp only [inst_need, inst_br, inst_both, inst_fin, inst_qed, inst_stop, inst_code]
  subst hI
  simp only [alg_b2i, alg_i2b, alg_add, alg_sub, alg_mul, alg_quo, alg_rem, alg_wrap, alg_imin, alg_imax, alg_ilt, alg_ile, alg_ieq, alg_bnot, alg_beq, alg_ban, alg_seq, alg_len, alg_app, alg_cut, alg_get, alg_set, alg_rep, alg_inr, alg_inb, alg_cutb, alg_same, alg_few, alg_nne, alg_nng, alg_hid, alg_shl, alg_shr, alg_bits, decide_eq_true_eq, decide_eq_false_iff_not, beq_iff_eq, beq_eq_false_iff_ne, Bool.not_eq_true', Bool.not_eq_false', Bool.and_eq_true, Bool.and_true, Bool.true_and, and_true, true_and, ne_eq, Int.toNat_zero, Nat.sub_zero, List.drop_zero, i64_min, i64_max, u8_min, u8_max, ofNat_b2i, b2i_inj, Int.toNat_natCast, Int.ofNat_eq_natCast, UInt8.ofNat_toNat, AOut.ret.injEq, D.v.injEq, D.tup.injEq, V0.one.injEq, C.p.injEq, P.bool.injEq, P.int.injEq, P.str.injEq, Bool.false_eq_true, Bool.true_eq_false, imp_false, Decidable.not_not, not_true_eq_false, not_false_eq_true, List.cons.injEq, P.list.injEq, HO.row.injEq, heq_eq_eq, reduceCtorEq, false_and, and_false]
  have hd : i < l.length → _ := fun h => fld_ext_drop (l := l) (m := m) (i := i) h (by omega)
  have hend : ¬ i < l.length → r = true := fun h => by
    rw [h2, List.drop_of_length_le (by omega), List.drop_of_length_le (by omega)]; simp
  generalize l.getD i ⟨[], []⟩ = x at *
  generalize m.getD i ⟨[], []⟩ = y at *
  have hx : ¬ x = y → i < l.length → r = false := fun h hi => by rw [h2, hd hi, decide_eq_false h, Bool.false_and]
  have hy : x = y → i < l.length → r = decide (l.drop (i + 1) = m.drop (i + 1)) := fun h hi => by rw [h2, hd hi, decide_eq_true h, Bool.true_and]
  (repeat' (first | refine And.intro ?_ ?_ | intro _)) <;> first | omega | exact True.intro | exact False.elim ‹False› | skip
  all_goals first
    | omega
    | (exact (hx (by rintro rfl; simp_all) (by omega)).symm)
    | (rw [hx (by rintro rfl; simp_all) (by omega)])
    | exact hA (i + 1) ⟨by omega, hy (fld_ext (by simp_all) (by simp_all)) (by omega)⟩ (by omega)
    | (rw [hend (by omega)])
    | trace_state
def sameF__c (I : Alg) (args : List D) (hp : List HO) : Option CT := match args, hp with
  | [.v (.one (.p (.list .fld l))), .v (.one (.p (.list .fld m)))], [] => (fun (l m : List Fld) => (some (.one ⟨I.hid (l.length ≤ 1000000 ∧ m.length ≤ 1000000), (.ret (.v (.one (.p (.bool (I.hid ((decide (l = m))))))))), []⟩) : Option CT)) l m
  | _, _ => none
theorem sameF__g : GoodC Tryd.prog 46 (sameF__c alg) := by
  intro args hp r h
  unfold sameF__c at h
  split at h
  · cases h; exact fun hn => sameF_ _ _ hn
  · cases h
def sameF__k : Know Tryd.prog := ⟨46, sameF__c, sameF__g⟩
def sameF__l : Know Tryd.prog := ⟨46, fun I => lendC I (sameF__c I), lendC_good sameF__g⟩
end Go.Proofs.YtjapkdcomcgamaaDoor
