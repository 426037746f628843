/- A log's entries: the laws JournalDoes and JournalBack. -/
import Derived.Test.YtmmfcghieefoaaaJrnC
set_option linter.all false
namespace Go.Proofs.Ytmmfcghieefoaaa
open Go Go.Sep Go.Ab Go.Jrn
set_option maxRecDepth 100000

def sameE : List Ent → List Ent → Bool
  | [], [] => true
  | a :: l, b :: m => a.kind == b.kind && a.id == b.id && a.n == b.n && a.text == b.text && sameE l m
  | _, _ => false
theorem sameE_self : ∀ l : List Ent, sameE l l = true
  | [] => rfl
  | a :: l => by simp [sameE, sameE_self l]
theorem sameE_len : ∀ {l m : List Ent}, l.length ≠ m.length → sameE l m = false
  | [], [], h => (h rfl).elim
  | [], _ :: _, _ => rfl
  | _ :: _, [], _ => rfl
  | a :: l, b :: m, h => by
    have : sameE l m = false := sameE_len (by simpa using h)
    simp [sameE, this]

theorem entryOf_ (k i n : Int) (t : Str) : Spc Try.prog 28 [.v (.agg [(.p (.int .i64 k)), (.p (.int .i64 i)), (.p (.int .i64 n)), (.p (.list .byte t))])] [] (.ret (.v (.agg [(.p (.int .i64 k)), (.p (.int .i64 i)), (.p (.int .i64 n)), (.p (.list .byte t))]))) [] := by
  refine spcG tab_ok mixed Try.func28 (by kernel_rfl) { keep := some [0, 1, 2] } [] (by kernel_rfl) ?_
  intro I X hI hX
  refine ev_rule (.fin (.ret (.v (.agg [(.p (.int .i64 k)), (.p (.int .i64 i)), (.p (.int .i64 n)), (.p (.list .byte t))]))) []) (by kernel_rfl) ?_
  simp only [inst_need, inst_br, inst_both, inst_fin, inst_qed, inst_stop, inst_code]
  exact ⟨trivial, trivial⟩
def entryOf__c (I : Alg) (args : List D) (hp : List HO) : Option CR := match args, hp with
  | [.v (.agg [(.p (.int .i64 k)), (.p (.int .i64 i)), (.p (.int .i64 n)), (.p (.list .byte t))])], [] => (fun (k i n : Int) (t : Str) => (some ⟨I.hid (True), (.ret (.v (.agg [(.p (.int .i64 k)), (.p (.int .i64 i)), (.p (.int .i64 n)), (.p (.list .byte t))]))), []⟩ : Option CR)) k i n t
  | _, _ => none
theorem entryOf__g : GoodC Try.prog 28 (entryOf__c alg) := by
  intro args hp r h hn
  unfold entryOf__c at h
  split at h
  · cases h; exact entryOf_ _ _ _ _
  · cases h
def entryOf__k : Know Try.prog := ⟨28, entryOf__c, entryOf__g⟩
def entryOf__l : Know Try.prog := ⟨28, fun I => lendC I (entryOf__c I), lendC_good entryOf__g⟩

theorem sameEntries_ (a b : List Ent) (hneed : a.length ≤ 100000000 ∧ b.length ≤ 100000000) : Spc Try.prog 31 [.v (.one (.p (.list .ent a))), .v (.one (.p (.list .ent b)))] [] (.ret (.v (.one (.p (.bool (sameE a b)))))) [] := by
  refine spcG tab_ok mixed Try.func31 (by kernel_rfl) { keep := some [0, 1, 4, 5] } [sameBytes__k, sameBytes__l] (by kernel_rfl) ?_
  intro I X hI hX
  refine ev_rule (.br (I.bnot (I.ieq (I.len (α := Go.Ab.Ent) a) (I.len (α := Go.Ab.Ent) b))) (.fin (.ret (.v (.one (.p (.bool Bool.false))))) []) (.code 0 [1, 1, 0, 1, 0] ⟨[(5, (.v (.one (.p (.int .i64 0))))), (4, (.v (.one (.p (.val (.bool .false)))))), (0, (.v (.one (.p (.list .ent a))))), (1, (.v (.one (.p (.list .ent b)))))], [], 68⟩)) (by kernel_rfl) ?_
  simp only [inst_need, inst_br, inst_both, inst_fin, inst_qed, inst_stop, inst_code]
  generalize hr : sameE a b = r
  refine ⟨fun h => ?_, fun h => ?_⟩
  · subst hI
    simp only [alg_b2i, alg_i2b, alg_add, alg_sub, alg_mul, alg_quo, alg_rem, alg_wrap, alg_imin, alg_imax, alg_ilt, alg_ile, alg_ieq, alg_bnot, alg_beq, alg_ban, alg_seq, alg_len, alg_app, alg_cut, alg_get, alg_set, alg_rep, alg_inr, alg_inb, alg_cutb, alg_same, alg_few, alg_nne, alg_nng, alg_hid, alg_shl, alg_shr, alg_bits, decide_eq_true_eq, decide_eq_false_iff_not, beq_iff_eq, beq_eq_false_iff_ne, Bool.not_eq_true', Bool.not_eq_false', and_true, true_and, ne_eq, Int.toNat_zero, Nat.sub_zero, List.drop_zero, i64_min, i64_max, u8_min, u8_max, ofNat_b2i, b2i_inj, Int.toNat_natCast, Int.ofNat_eq_natCast, UInt8.ofNat_toNat, AOut.ret.injEq, D.v.injEq, D.tup.injEq, V0.one.injEq, C.p.injEq, P.bool.injEq, P.int.injEq, P.str.injEq, Bool.false_eq_true, Bool.true_eq_false, imp_false, Decidable.not_not, not_true_eq_false, not_false_eq_true] at h
    simp only [alg_b2i, alg_i2b, alg_add, alg_sub, alg_mul, alg_quo, alg_rem, alg_wrap, alg_imin, alg_imax, alg_ilt, alg_ile, alg_ieq, alg_bnot, alg_beq, alg_ban, alg_seq, alg_len, alg_app, alg_cut, alg_get, alg_set, alg_rep, alg_inr, alg_inb, alg_cutb, alg_same, alg_few, alg_nne, alg_nng, alg_hid, alg_shl, alg_shr, alg_bits, decide_eq_true_eq, decide_eq_false_iff_not, beq_iff_eq, beq_eq_false_iff_ne, Bool.not_eq_true', Bool.not_eq_false', and_true, true_and, ne_eq, Int.toNat_zero, Nat.sub_zero, List.drop_zero, i64_min, i64_max, u8_min, u8_max, ofNat_b2i, b2i_inj, Int.toNat_natCast, Int.ofNat_eq_natCast, UInt8.ofNat_toNat, AOut.ret.injEq, D.v.injEq, D.tup.injEq, V0.one.injEq, C.p.injEq, P.bool.injEq, P.int.injEq, P.str.injEq, Bool.false_eq_true, Bool.true_eq_false, imp_false, Decidable.not_not, not_true_eq_false, not_false_eq_true, List.cons.injEq, P.list.injEq, HO.row.injEq, heq_eq_eq, reduceCtorEq, false_and, and_false]
    rw [← hr, sameE_len (by omega)]
  rw [hI] at h; simp only [alg_b2i, alg_i2b, alg_add, alg_sub, alg_mul, alg_quo, alg_rem, alg_wrap, alg_imin, alg_imax, alg_ilt, alg_ile, alg_ieq, alg_bnot, alg_beq, alg_ban, alg_seq, alg_len, alg_app, alg_cut, alg_get, alg_set, alg_rep, alg_inr, alg_inb, alg_cutb, alg_same, alg_few, alg_nne, alg_nng, alg_hid, alg_shl, alg_shr, alg_bits, decide_eq_true_eq, decide_eq_false_iff_not, beq_iff_eq, beq_eq_false_iff_ne, Bool.not_eq_true', Bool.not_eq_false', and_true, true_and, ne_eq, Int.toNat_zero, Nat.sub_zero, List.drop_zero, i64_min, i64_max, u8_min, u8_max, ofNat_b2i, b2i_inj, Int.toNat_natCast, Int.ofNat_eq_natCast, UInt8.ofNat_toNat, AOut.ret.injEq, D.v.injEq, D.tup.injEq, V0.one.injEq, C.p.injEq, P.bool.injEq, P.int.injEq, P.str.injEq, Bool.false_eq_true, Bool.true_eq_false, imp_false, Decidable.not_not, not_true_eq_false, not_false_eq_true] at h
  refine loop_inv hI tab_ok mixed [sameBytes__k, sameBytes__l] hX [0, 1, 5] (fun (i : Nat) => i ≤ a.length ∧ sameE (a.drop i) (b.drop i) = r) (fun (i : Nat) => ⟨[(0, .v (.one (.p (.list .ent a)))), (1, .v (.one (.p (.list .ent b)))), (5, .v (.one (.p (.int .i64 i))))], [], 68⟩) (fun (i : Nat) => a.length - i) 0 (by kernel_rfl) (by kernel_rfl) ?_ ?_
  · exact ⟨Nat.zero_le _, hr⟩
  rintro i ⟨h1, h2⟩ A hA
  refine ev_rule (.br (I.ilt (Nat.cast i) (I.len (α := Go.Ab.Ent) a)) (.need (I.inb (Nat.cast i) (I.len (α := Go.Ab.Ent) a)) (.need (I.inb (Nat.cast i) (I.len (α := Go.Ab.Ent) a)) (.need (I.inb (Nat.cast i) (I.len (α := Go.Ab.Ent) b)) (.need (I.inb (Nat.cast i) (I.len (α := Go.Ab.Ent) b)) (.br (I.bnot (I.ieq (Go.Ab.Ent.kind (I.get (α := Go.Ab.Ent) a (Go.Ab.Ent.mk (0 : Int) (0 : Int) (0 : Int) ([] : List UInt8)) (Nat.cast i))) (Go.Ab.Ent.kind (I.get (α := Go.Ab.Ent) b (Go.Ab.Ent.mk (0 : Int) (0 : Int) (0 : Int) ([] : List UInt8)) (Nat.cast i))))) (.fin (.ret (.v (.one (.p (.bool Bool.false))))) []) (.need (I.inb (Nat.cast i) (I.len (α := Go.Ab.Ent) a)) (.need (I.inb (Nat.cast i) (I.len (α := Go.Ab.Ent) a)) (.need (I.inb (Nat.cast i) (I.len (α := Go.Ab.Ent) b)) (.need (I.inb (Nat.cast i) (I.len (α := Go.Ab.Ent) b)) (.br (I.bnot (I.ieq (Go.Ab.Ent.id (I.get (α := Go.Ab.Ent) a (Go.Ab.Ent.mk (0 : Int) (0 : Int) (0 : Int) ([] : List UInt8)) (Nat.cast i))) (Go.Ab.Ent.id (I.get (α := Go.Ab.Ent) b (Go.Ab.Ent.mk (0 : Int) (0 : Int) (0 : Int) ([] : List UInt8)) (Nat.cast i))))) (.fin (.ret (.v (.one (.p (.bool Bool.false))))) []) (.need (I.inb (Nat.cast i) (I.len (α := Go.Ab.Ent) a)) (.need (I.inb (Nat.cast i) (I.len (α := Go.Ab.Ent) a)) (.need (I.inb (Nat.cast i) (I.len (α := Go.Ab.Ent) b)) (.need (I.inb (Nat.cast i) (I.len (α := Go.Ab.Ent) b)) (.br (I.bnot (I.ieq (Go.Ab.Ent.n (I.get (α := Go.Ab.Ent) a (Go.Ab.Ent.mk (0 : Int) (0 : Int) (0 : Int) ([] : List UInt8)) (Nat.cast i))) (Go.Ab.Ent.n (I.get (α := Go.Ab.Ent) b (Go.Ab.Ent.mk (0 : Int) (0 : Int) (0 : Int) ([] : List UInt8)) (Nat.cast i))))) (.fin (.ret (.v (.one (.p (.bool Bool.false))))) []) (.need (I.inb (Nat.cast i) (I.len (α := Go.Ab.Ent) a)) (.need (I.inb (Nat.cast i) (I.len (α := Go.Ab.Ent) a)) (.need (I.inb (Nat.cast i) (I.len (α := Go.Ab.Ent) b)) (.need (I.inb (Nat.cast i) (I.len (α := Go.Ab.Ent) b)) (.need (I.hid (α := (Prop)) True) (.br (I.bnot (I.hid (α := Bool) (BEq.beq (Go.Ab.Ent.text (I.get (α := Go.Ab.Ent) a (Go.Ab.Ent.mk (0 : Int) (0 : Int) (0 : Int) ([] : List UInt8)) (Nat.cast i))) (Go.Ab.Ent.text (I.get (α := Go.Ab.Ent) b (Go.Ab.Ent.mk (0 : Int) (0 : Int) (0 : Int) ([] : List UInt8)) (Nat.cast i)))))) (.fin (.ret (.v (.one (.p (.bool Bool.false))))) []) (.need (I.inr Go.IntKind.i64 (I.add (Nat.cast i) 1)) (.need (A ⟨[(0, (.v (.one (.p (.list .ent a))))), (1, (.v (.one (.p (.list .ent b))))), (5, (.v (.one (.p (.int .i64 (I.add (Nat.cast i) 1))))))], [], 68⟩) .qed))))))))))))))))))))))) (.fin (.ret (.v (.one (.p (.bool Bool.true))))) [])) (by kernel_rfl) ?_
  simp only [inst_need, inst_br, inst_both, inst_fin, inst_qed, inst_stop, inst_code]
  subst hI
  simp only [alg_b2i, alg_i2b, alg_add, alg_sub, alg_mul, alg_quo, alg_rem, alg_wrap, alg_imin, alg_imax, alg_ilt, alg_ile, alg_ieq, alg_bnot, alg_beq, alg_ban, alg_seq, alg_len, alg_app, alg_cut, alg_get, alg_set, alg_rep, alg_inr, alg_inb, alg_cutb, alg_same, alg_few, alg_nne, alg_nng, alg_hid, alg_shl, alg_shr, alg_bits, decide_eq_true_eq, decide_eq_false_iff_not, beq_iff_eq, beq_eq_false_iff_ne, Bool.not_eq_true', Bool.not_eq_false', and_true, true_and, ne_eq, Int.toNat_zero, Nat.sub_zero, List.drop_zero, i64_min, i64_max, u8_min, u8_max, ofNat_b2i, b2i_inj, Int.toNat_natCast, Int.ofNat_eq_natCast, UInt8.ofNat_toNat, AOut.ret.injEq, D.v.injEq, D.tup.injEq, V0.one.injEq, C.p.injEq, P.bool.injEq, P.int.injEq, P.str.injEq, Bool.false_eq_true, Bool.true_eq_false, imp_false, Decidable.not_not, not_true_eq_false, not_false_eq_true, List.cons.injEq, P.list.injEq, HO.row.injEq, heq_eq_eq, reduceCtorEq, false_and, and_false]
  have hd : i < a.length → sameE (a.drop i) (b.drop i) = ((a.getD i ⟨0, 0, 0, []⟩).kind == (b.getD i ⟨0, 0, 0, []⟩).kind && (a.getD i ⟨0, 0, 0, []⟩).id == (b.getD i ⟨0, 0, 0, []⟩).id && (a.getD i ⟨0, 0, 0, []⟩).n == (b.getD i ⟨0, 0, 0, []⟩).n && (a.getD i ⟨0, 0, 0, []⟩).text == (b.getD i ⟨0, 0, 0, []⟩).text && sameE (a.drop (i + 1)) (b.drop (i + 1))) := by
    intro hl
    have hl2 : i < b.length := by omega
    rw [List.drop_eq_getElem_cons hl, List.drop_eq_getElem_cons hl2, sameE]
    simp [hl, hl2]
  have hend : ¬ i < a.length → r = true := by
    intro hl
    rw [← h2, List.drop_of_length_le (by omega), List.drop_of_length_le (by omega)]; rfl
  generalize a.getD i ⟨0, 0, 0, []⟩ = x at *
  generalize b.getD i ⟨0, 0, 0, []⟩ = y at *
  have hno : i < a.length → (¬ x.kind = y.kind ∨ ¬ x.id = y.id ∨ ¬ x.n = y.n ∨ ¬ x.text = y.text) → false = r := by
    intro hl hn
    rw [← h2, hd hl]
    rcases hn with h | h | h | h <;> simp [h]
  have hback : i < a.length → x.kind = y.kind → x.id = y.id → x.n = y.n → x.text = y.text → A ⟨[(0, .v (.one (.p (.list .ent a)))), (1, .v (.one (.p (.list .ent b)))), (5, .v (.one (.p (.int .i64 (((i : Int) + 1))))))], [], 68⟩ := by
    intro hl e1 e2 e3 e4
    refine hA (i + 1) ⟨hl, ?_⟩ (by omega)
    rw [← h2, hd hl, e1, e2, e3, e4]; simp
  (repeat' (first | refine And.intro ?_ ?_ | intro _)) <;> try omega
  all_goals first
    | exact hno (by omega) (.inl ‹_›)
    | exact hno (by omega) (.inr (.inl ‹_›))
    | exact hno (by omega) (.inr (.inr (.inl ‹_›)))
    | exact hno (by omega) (.inr (.inr (.inr ‹_›)))
    | exact hback (by omega) ‹_› ‹_› ‹_› ‹_›
    | exact (hend (by omega)).symm
def sameEntries__c (I : Alg) (args : List D) (hp : List HO) : Option CR := match args, hp with
  | [.v (.one (.p (.list .ent a))), .v (.one (.p (.list .ent b)))], [] => (fun (a b : List Ent) => (some ⟨I.hid (a.length ≤ 100000000 ∧ b.length ≤ 100000000), (.ret (.v (.one (.p (.bool (I.hid (sameE a b))))))), []⟩ : Option CR)) a b
  | _, _ => none
theorem sameEntries__g : GoodC Try.prog 31 (sameEntries__c alg) := by
  intro args hp r h hn
  unfold sameEntries__c at h
  split at h
  · cases h; exact sameEntries_ _ _ hn
  · cases h
def sameEntries__k : Know Try.prog := ⟨31, sameEntries__c, sameEntries__g⟩
def sameEntries__l : Know Try.prog := ⟨31, fun I => lendC I (sameEntries__c I), lendC_good sameEntries__g⟩

theorem jBegun_  : Spc Try.prog 25 [] [] (.ret (.v (.one (.p (.bool true))))) [] := by
  refine spcG tab_ok mixed Try.func25 (by kernel_rfl) { fz := [29, 30], fork := [15], keep := some [0, 1, 2, 3, 4] } [encode__k, encode__l, decode__k, decode__l] (by kernel_rfl) ?_
  intro I X hI hX
  refine ev_rule (.need (I.inr Go.IntKind.u8 120) (.need (I.inb 0 (I.len (α := UInt8) ([(I.i2b 120)] : List UInt8))) (.need (I.hid (α := (Prop)) True) (.need (I.inr Go.IntKind.u8 9) (.need (I.few (I.add (I.len (α := UInt8) (I.hid (α := (List UInt8)) (Go.Jrn.encM (Go.Ab.Ent.mk (2 : Int) (1 : Int) (Neg.neg (1 : Int)) ([(I.i2b 120)] : List UInt8))))) (I.len (α := UInt8) ([(I.i2b 9)] : List UInt8))) 100000000) (.both (.need (I.hid (α := (Prop)) (LE.le (List.length (I.app (α := UInt8) (I.hid (α := (List UInt8)) (Go.Jrn.encM (Go.Ab.Ent.mk (2 : Int) (1 : Int) (Neg.neg (1 : Int)) ([(I.i2b 120)] : List UInt8)))) ([(I.i2b 9)] : List UInt8))) 50000000)) (.br (I.ieq (I.hid (α := Int) (Go.Jrn.encC (Go.Ab.Ent.mk (2 : Int) (1 : Int) (Neg.neg (1 : Int)) ([(I.i2b 120)] : List UInt8)))) 0) (.br (I.seq (I.cut (α := UInt8) (I.app (α := UInt8) (I.hid (α := (List UInt8)) (Go.Jrn.encM (Go.Ab.Ent.mk (2 : Int) (1 : Int) (Neg.neg (1 : Int)) ([(I.i2b 120)] : List UInt8)))) ([(I.i2b 9)] : List UInt8)) 0 (I.len (α := UInt8) (I.hid (α := (List UInt8)) (Go.Jrn.encM (Go.Ab.Ent.mk (2 : Int) (1 : Int) (Neg.neg (1 : Int)) ([(I.i2b 120)] : List UInt8)))))) (Array.toList (List.toArray ([5, 3, 2, 0, 120] : List UInt8)))) (.br (I.ieq (I.hid (α := Int) (Go.Proofs.Ytmmfcghieefoaaa.usedM (I.app (α := UInt8) (I.hid (α := (List UInt8)) (Go.Jrn.encM (Go.Ab.Ent.mk (2 : Int) (1 : Int) (Neg.neg (1 : Int)) ([(I.i2b 120)] : List UInt8)))) ([(I.i2b 9)] : List UInt8)))) 5) (.br (I.ieq (I.len (α := Go.Ab.Ent) (I.hid (α := (List Go.Ab.Ent)) (Prod.fst (Go.Jrn.dec (I.app (α := UInt8) (I.hid (α := (List UInt8)) (Go.Jrn.encM (Go.Ab.Ent.mk (2 : Int) (1 : Int) (Neg.neg (1 : Int)) ([(I.i2b 120)] : List UInt8)))) ([(I.i2b 9)] : List UInt8)))))) 1) (.need (I.inb 0 (I.len (α := Go.Ab.Ent) (I.hid (α := (List Go.Ab.Ent)) (Prod.fst (Go.Jrn.dec (I.app (α := UInt8) (I.hid (α := (List UInt8)) (Go.Jrn.encM (Go.Ab.Ent.mk (2 : Int) (1 : Int) (Neg.neg (1 : Int)) ([(I.i2b 120)] : List UInt8)))) ([(I.i2b 9)] : List UInt8))))))) (.need (I.inb 0 (I.len (α := Go.Ab.Ent) (I.hid (α := (List Go.Ab.Ent)) (Prod.fst (Go.Jrn.dec (I.app (α := UInt8) (I.hid (α := (List UInt8)) (Go.Jrn.encM (Go.Ab.Ent.mk (2 : Int) (1 : Int) (Neg.neg (1 : Int)) ([(I.i2b 120)] : List UInt8)))) ([(I.i2b 9)] : List UInt8))))))) (.fin (.ret (.v (.one (.p (.bool (I.ieq (Go.Ab.Ent.n (I.get (α := Go.Ab.Ent) (I.hid (α := (List Go.Ab.Ent)) (Prod.fst (Go.Jrn.dec (I.app (α := UInt8) (I.hid (α := (List UInt8)) (Go.Jrn.encM (Go.Ab.Ent.mk (2 : Int) (1 : Int) (Neg.neg (1 : Int)) ([(I.i2b 120)] : List UInt8)))) ([(I.i2b 9)] : List UInt8))))) (Go.Ab.Ent.mk (0 : Int) (0 : Int) (0 : Int) ([] : List UInt8)) 0)) (Neg.neg (1 : Int)))))))) []))) (.fin (.ret (.v (.one (.p (.bool Bool.false))))) [])) (.fin (.ret (.v (.one (.p (.bool Bool.false))))) [])) (.fin (.ret (.v (.one (.p (.bool Bool.false))))) [])) (.fin (.ret (.v (.one (.p (.bool Bool.false))))) []))) (.need (I.hid (α := (Prop)) (LE.le (List.length (I.app (α := UInt8) (I.hid (α := (List UInt8)) (Go.Jrn.encM (Go.Ab.Ent.mk (2 : Int) (1 : Int) (Neg.neg (1 : Int)) ([(I.i2b 120)] : List UInt8)))) ([(I.i2b 9)] : List UInt8))) 50000000)) (.br (I.ieq (I.hid (α := Int) (Go.Jrn.encC (Go.Ab.Ent.mk (2 : Int) (1 : Int) (Neg.neg (1 : Int)) ([(I.i2b 120)] : List UInt8)))) 0) (.br (I.seq (I.hid (α := (List UInt8)) (Go.Jrn.encM (Go.Ab.Ent.mk (2 : Int) (1 : Int) (Neg.neg (1 : Int)) ([(I.i2b 120)] : List UInt8)))) (Array.toList (List.toArray ([5, 3, 2, 0, 120] : List UInt8)))) (.br (I.ieq (I.hid (α := Int) (Go.Proofs.Ytmmfcghieefoaaa.usedM (I.app (α := UInt8) (I.hid (α := (List UInt8)) (Go.Jrn.encM (Go.Ab.Ent.mk (2 : Int) (1 : Int) (Neg.neg (1 : Int)) ([(I.i2b 120)] : List UInt8)))) ([(I.i2b 9)] : List UInt8)))) 5) (.br (I.ieq (I.len (α := Go.Ab.Ent) (I.hid (α := (List Go.Ab.Ent)) (Prod.fst (Go.Jrn.dec (I.app (α := UInt8) (I.hid (α := (List UInt8)) (Go.Jrn.encM (Go.Ab.Ent.mk (2 : Int) (1 : Int) (Neg.neg (1 : Int)) ([(I.i2b 120)] : List UInt8)))) ([(I.i2b 9)] : List UInt8)))))) 1) (.need (I.inb 0 (I.len (α := Go.Ab.Ent) (I.hid (α := (List Go.Ab.Ent)) (Prod.fst (Go.Jrn.dec (I.app (α := UInt8) (I.hid (α := (List UInt8)) (Go.Jrn.encM (Go.Ab.Ent.mk (2 : Int) (1 : Int) (Neg.neg (1 : Int)) ([(I.i2b 120)] : List UInt8)))) ([(I.i2b 9)] : List UInt8))))))) (.need (I.inb 0 (I.len (α := Go.Ab.Ent) (I.hid (α := (List Go.Ab.Ent)) (Prod.fst (Go.Jrn.dec (I.app (α := UInt8) (I.hid (α := (List UInt8)) (Go.Jrn.encM (Go.Ab.Ent.mk (2 : Int) (1 : Int) (Neg.neg (1 : Int)) ([(I.i2b 120)] : List UInt8)))) ([(I.i2b 9)] : List UInt8))))))) (.fin (.ret (.v (.one (.p (.bool (I.ieq (Go.Ab.Ent.n (I.get (α := Go.Ab.Ent) (I.hid (α := (List Go.Ab.Ent)) (Prod.fst (Go.Jrn.dec (I.app (α := UInt8) (I.hid (α := (List UInt8)) (Go.Jrn.encM (Go.Ab.Ent.mk (2 : Int) (1 : Int) (Neg.neg (1 : Int)) ([(I.i2b 120)] : List UInt8)))) ([(I.i2b 9)] : List UInt8))))) (Go.Ab.Ent.mk (0 : Int) (0 : Int) (0 : Int) ([] : List UInt8)) 0)) (Neg.neg (1 : Int)))))))) []))) (.fin (.ret (.v (.one (.p (.bool Bool.false))))) [])) (.fin (.ret (.v (.one (.p (.bool Bool.false))))) [])) (.fin (.ret (.v (.one (.p (.bool Bool.false))))) [])) (.fin (.ret (.v (.one (.p (.bool Bool.false))))) []))))))))) (by kernel_rfl) ?_
  simp only [inst_need, inst_br, inst_both, inst_fin, inst_qed, inst_stop, inst_code]
  subst hI
  simp only [AOut.ret.injEq, D.v.injEq, V0.one.injEq, C.p.injEq, P.bool.injEq, and_true]
  simp only [alg_b2i, alg_i2b, alg_add, alg_sub, alg_mul, alg_quo, alg_rem, alg_wrap, alg_imin, alg_imax, alg_ilt, alg_ile, alg_ieq, alg_bnot, alg_beq, alg_ban, alg_seq, alg_len, alg_app, alg_cut, alg_get, alg_set, alg_rep, alg_inr, alg_inb, alg_cutb, alg_same, alg_few, alg_nne, alg_nng, alg_hid, alg_shl, alg_shr, alg_bits]
  (repeat' (first | refine And.intro ?_ ?_ | (intro h; first | exact absurd h (by decide +kernel) | clear h)))
  all_goals decide +kernel
def jBegun__c (I : Alg) (args : List D) (hp : List HO) : Option CR := match args, hp with
  | [], [] => (fun (_ : Unit) => (some ⟨I.hid (True), (.ret (.v (.one (.p (.bool true))))), []⟩ : Option CR)) ()
  | _, _ => none
theorem jBegun__g : GoodC Try.prog 25 (jBegun__c alg) := by
  intro args hp r h hn
  unfold jBegun__c at h
  split at h
  · cases h; exact jBegun_ 
  · cases h
def jBegun__k : Know Try.prog := ⟨25, jBegun__c, jBegun__g⟩
def jBegun__l : Know Try.prog := ⟨25, fun I => lendC I (jBegun__c I), lendC_good jBegun__g⟩

theorem jDoes_ (k i n : Int) (t b : Str) : Spc Try.prog 7 [.v (.agg [(.p (.int .i64 k)), (.p (.int .i64 i)), (.p (.int .i64 n)), (.p (.list .byte t))]), .v (.one (.p (.list .byte b)))] [] (.ret (.v (.one (.p (.bool true))))) [] := by
  refine spcG tab_ok mixed Try.func7 (by kernel_rfl) { fz := [31], keep := some [0, 1, 2, 4, 5, 6, 7, 8, 9, 10, 11, 12] } [sameBytes__k, sameBytes__l, encode__k, encode__l, entryBytes__k, entryBytes__l, decode__k, decode__l, entries__k, entries__l, entryOf__k, entryOf__l, sameEntries__k, sameEntries__l, jBegun__k, jBegun__l] (by kernel_rfl) ?_
  intro I X hI hX
  refine ev_rule (.need (I.hid (α := (Prop)) True) (.br (I.bnot Bool.true) (.fin (.ret (.v (.one (.p (.bool Bool.false))))) []) (.br (I.ilt 20000 (I.len (α := UInt8) b)) (.fin (.ret (.v (.one (.p (.bool Bool.true))))) []) (.br (I.ilt 20000 (I.len (α := UInt8) t)) (.fin (.ret (.v (.one (.p (.bool Bool.true))))) []) (.need (I.hid (α := (Prop)) True) (.need (I.hid (α := (Prop)) True) (.need (I.hid (α := (Prop)) True) (.need (I.hid (α := (Prop)) (LE.le (List.length b) 50000000)) (.need (I.hid (α := (Prop)) (LE.le (List.length b) 1000000)) (.need (I.hid (α := (Prop)) True) (.br (I.hid (α := Bool) (BEq.beq (I.hid (α := (List UInt8)) (Go.Jrn.encM (Go.Ab.Ent.mk k i n t))) (I.hid (α := (List UInt8)) (Go.Jrn.encM (Go.Ab.Ent.mk k i n t))))) (.br (I.ieq (I.hid (α := Int) (Go.Jrn.encC (Go.Ab.Ent.mk k i n t))) (I.hid (α := Int) (Go.Jrn.encC (Go.Ab.Ent.mk k i n t)))) (.br (I.ieq (I.hid (α := Int) (Go.Proofs.Ytmmfcghieefoaaa.usedM b)) (I.hid (α := Int) (Go.Proofs.Ytmmfcghieefoaaa.usedM b))) (.need (I.hid (α := (Prop)) (And (LE.le (List.length (I.hid (α := (List Go.Ab.Ent)) (Prod.fst (Go.Jrn.dec b)))) 100000000) (LE.le (List.length (I.hid (α := (List Go.Ab.Ent)) (Prod.fst (Go.Jrn.dec b)))) 100000000))) (.fin (.ret (.v (.one (.p (.bool (I.hid (α := Bool) (Go.Proofs.Ytmmfcghieefoaaa.sameE (I.hid (α := (List Go.Ab.Ent)) (Prod.fst (Go.Jrn.dec b))) (I.hid (α := (List Go.Ab.Ent)) (Prod.fst (Go.Jrn.dec b)))))))))) [])) (.fin (.ret (.v (.one (.p (.bool Bool.false))))) [])) (.fin (.ret (.v (.one (.p (.bool Bool.false))))) [])) (.fin (.ret (.v (.one (.p (.bool Bool.false))))) [])))))))))))) (by kernel_rfl) ?_
  simp only [inst_need, inst_br, inst_both, inst_fin, inst_qed, inst_stop, inst_code]
  subst hI
  simp only [alg_b2i, alg_i2b, alg_add, alg_sub, alg_mul, alg_quo, alg_rem, alg_wrap, alg_imin, alg_imax, alg_ilt, alg_ile, alg_ieq, alg_bnot, alg_beq, alg_ban, alg_seq, alg_len, alg_app, alg_cut, alg_get, alg_set, alg_rep, alg_inr, alg_inb, alg_cutb, alg_same, alg_few, alg_nne, alg_nng, alg_hid, alg_shl, alg_shr, alg_bits, decide_eq_true_eq, decide_eq_false_iff_not, beq_iff_eq, beq_eq_false_iff_ne, Bool.not_eq_true', Bool.not_eq_false', and_true, true_and, ne_eq, Int.toNat_zero, Nat.sub_zero, List.drop_zero, i64_min, i64_max, u8_min, u8_max, ofNat_b2i, b2i_inj, Int.toNat_natCast, Int.ofNat_eq_natCast, UInt8.ofNat_toNat, AOut.ret.injEq, D.v.injEq, D.tup.injEq, V0.one.injEq, C.p.injEq, P.bool.injEq, P.int.injEq, P.str.injEq, Bool.false_eq_true, Bool.true_eq_false, imp_false, Decidable.not_not, not_true_eq_false, not_false_eq_true, List.cons.injEq, P.list.injEq, HO.row.injEq, heq_eq_eq, reduceCtorEq, false_and, and_false]
  have hl := dec_len b
  exact fun _ => ⟨fun _ => trivial, fun h1 => ⟨fun _ => trivial, fun h2 => ⟨by omega, by omega, fun _ _ _ => ⟨⟨by omega, by omega⟩, sameE_self _⟩⟩⟩⟩
end Go.Proofs.Ytmmfcghieefoaaa
