/- Fields of a head: the one value of a name. -/
import Derived.Test.YtmmfcghieefoaaaDoorFldD
set_option linter.all false
namespace Go.Proofs.YtmmfcghieefoaaaDoor
open Go Go.Sep Go.Ab
set_option maxRecDepth 100000

def oneF (l : List Str) : Str × Int := if l.length = 0 then ([], 10) else if l.length = 1 then (l.getD 0 [], 0) else ([], 9)

theorem fOne_ (l : List Fld) (n : Str) (hneed : l.length ≤ 1000 ∧ n.length ≤ 1000000 ∧ ∀ f ∈ l, f.name.length ≤ 1000000 ∧ f.value.length ≤ 1000000) : Spc Tryd.prog 38 [.v (.one (.p (.list .fld l))), .v (.one (.p (.str n)))] [] (.ret (.tup [(.one (.p (.str ((oneF (valsF l n)).1)))), (.one (.p (.int .i64 ((oneF (valsF l n)).2))))])) [] := by
  generalize hr : oneF (valsF l n) = r
  obtain ⟨a, d⟩ := r
  refine spcG tab_ok mixed Tryd.func38 (by kernel_rfl) { keep := some [0, 1, 4, 5, 6, 11] } [fAll__k, fAll__l] (by kernel_rfl) ?_
  intro I X hI hX
  refine ev_rule (.need (I.hid (α := (Prop)) (And (LE.le (List.length l) 1000) (And (LE.le (List.length n) 1000000) (∀ (f : Fld), f ∈ l → List.length f.name ≤ 1000000 ∧ List.length f.value ≤ 1000000)))) (.br (I.ieq (I.len (α := (List UInt8)) (I.hid (α := (List (List UInt8))) (Go.Proofs.YtmmfcghieefoaaaDoor.valsF l n))) 0) (.fin (.ret (.tup [(.one (.p (.str (Array.toList (List.toArray ([] : List UInt8)))))), (.one (.p (.int .i64 10)))])) []) (.br (I.ieq (I.len (α := (List UInt8)) (I.hid (α := (List (List UInt8))) (Go.Proofs.YtmmfcghieefoaaaDoor.valsF l n))) 1) (.need (I.inb 0 (I.len (α := (List UInt8)) (I.hid (α := (List (List UInt8))) (Go.Proofs.YtmmfcghieefoaaaDoor.valsF l n)))) (.need (I.inb 0 (I.len (α := (List UInt8)) (I.hid (α := (List (List UInt8))) (Go.Proofs.YtmmfcghieefoaaaDoor.valsF l n)))) (.fin (.ret (.tup [(.one (.p (.str (I.get (α := (List UInt8)) (I.hid (α := (List (List UInt8))) (Go.Proofs.YtmmfcghieefoaaaDoor.valsF l n)) ([] : List UInt8) 0)))), (.one (.p (.int .i64 0)))])) []))) (.fin (.ret (.tup [(.one (.p (.str (Array.toList (List.toArray ([] : List UInt8)))))), (.one (.p (.int .i64 9)))])) [])))) (by kernel_rfl) ?_
  simp only [inst_need, inst_br, inst_both, inst_fin, inst_qed, inst_stop, inst_code]
  subst hI
  simp only [alg_b2i, alg_i2b, alg_add, alg_sub, alg_mul, alg_quo, alg_rem, alg_wrap, alg_imin, alg_imax, alg_ilt, alg_ile, alg_ieq, alg_bnot, alg_beq, alg_ban, alg_seq, alg_len, alg_app, alg_cut, alg_get, alg_set, alg_rep, alg_inr, alg_inb, alg_cutb, alg_same, alg_few, alg_nne, alg_nng, alg_hid, alg_shl, alg_shr, alg_bits, decide_eq_true_eq, decide_eq_false_iff_not, beq_iff_eq, beq_eq_false_iff_ne, Bool.not_eq_true', Bool.not_eq_false', Bool.and_eq_true, Bool.and_true, Bool.true_and, and_true, true_and, ne_eq, Int.toNat_zero, Nat.sub_zero, List.drop_zero, i64_min, i64_max, u8_min, u8_max, ofNat_b2i, b2i_inj, Int.toNat_natCast, Int.ofNat_eq_natCast, UInt8.ofNat_toNat, AOut.ret.injEq, D.v.injEq, D.tup.injEq, V0.one.injEq, C.p.injEq, P.bool.injEq, P.int.injEq, P.str.injEq, Bool.false_eq_true, Bool.true_eq_false, imp_false, Decidable.not_not, not_true_eq_false, not_false_eq_true]
  unfold oneF at hr
  (repeat' (first | refine And.intro ?_ ?_ | intro _)) <;> try omega
  all_goals first
    | assumption
    | exact (hneed.2.2 _ (by assumption)).1
    | exact (hneed.2.2 _ (by assumption)).2
    | (rw [if_pos (by omega)] at hr; cases hr; rfl)
    | (rw [if_neg (by omega), if_pos (by omega)] at hr; cases hr; rfl)
    | (rw [if_neg (by omega), if_neg (by omega)] at hr; cases hr; rfl)
def fOne__c (I : Alg) (args : List D) (hp : List HO) : Option CT := match args, hp with
  | [.v (.one (.p (.list .fld l))), .v (.one (.p (.str n)))], [] => (fun (l : List Fld) (n : Str) => (some (.one ⟨I.hid (l.length ≤ 1000 ∧ n.length ≤ 1000000 ∧ ∀ f ∈ l, f.name.length ≤ 1000000 ∧ f.value.length ≤ 1000000), (.ret (.tup [(.one (.p (.str (I.hid ((oneF (valsF l n)).1))))), (.one (.p (.int .i64 (I.hid ((oneF (valsF l n)).2)))))])), []⟩) : Option CT)) l n
  | _, _ => none
theorem fOne__g : GoodC Tryd.prog 38 (fOne__c alg) := by
  intro args hp r h
  unfold fOne__c at h
  split at h
  · cases h; exact fun hn => fOne_ _ _ hn
  · cases h
def fOne__k : Know Tryd.prog := ⟨38, fOne__c, fOne__g⟩
def fOne__l : Know Tryd.prog := ⟨38, fun I => lendC I (fOne__c I), lendC_good fOne__g⟩

theorem oneOf_ (l : List Fld) (n : Str) (hneed : l.length ≤ 1000 ∧ n.length ≤ 1000000 ∧ ∀ f ∈ l, f.name.length ≤ 1000000 ∧ f.value.length ≤ 1000000) : Spc Tryd.prog 39 [.v (.one (.p (.list .fld l))), .v (.one (.p (.str n)))] [] (.ret (.tup [(.one (.p (.str ((oneF (valsF l n)).1)))), (.one (.p (.int .i64 ((oneF (valsF l n)).2))))])) [] := by
  generalize hr : oneF (valsF l n) = r
  obtain ⟨a, d⟩ := r
  refine spcG tab_ok mixed Tryd.func39 (by kernel_rfl) { keep := some [0, 1, 4, 5, 6] } [valuesOf__k, valuesOf__l] (by kernel_rfl) ?_
  intro I X hI hX
  refine ev_rule (.need (I.hid (α := (Prop)) (And (LE.le (List.length l) 1000) (And (LE.le (List.length n) 1000000) (∀ (f : Fld), f ∈ l → List.length f.name ≤ 1000000 ∧ List.length f.value ≤ 1000000)))) (.br (I.ieq (I.len (α := (List UInt8)) (I.hid (α := (List (List UInt8))) (Go.Proofs.YtmmfcghieefoaaaDoor.valsF l n))) 0) (.fin (.ret (.tup [(.one (.p (.str (Array.toList (List.toArray ([] : List UInt8)))))), (.one (.p (.int .i64 10)))])) []) (.br (I.ilt 1 (I.len (α := (List UInt8)) (I.hid (α := (List (List UInt8))) (Go.Proofs.YtmmfcghieefoaaaDoor.valsF l n)))) (.fin (.ret (.tup [(.one (.p (.str (Array.toList (List.toArray ([] : List UInt8)))))), (.one (.p (.int .i64 9)))])) []) (.need (I.inb 0 (I.len (α := (List UInt8)) (I.hid (α := (List (List UInt8))) (Go.Proofs.YtmmfcghieefoaaaDoor.valsF l n)))) (.need (I.inb 0 (I.len (α := (List UInt8)) (I.hid (α := (List (List UInt8))) (Go.Proofs.YtmmfcghieefoaaaDoor.valsF l n)))) (.fin (.ret (.tup [(.one (.p (.str (I.get (α := (List UInt8)) (I.hid (α := (List (List UInt8))) (Go.Proofs.YtmmfcghieefoaaaDoor.valsF l n)) ([] : List UInt8) 0)))), (.one (.p (.int .i64 0)))])) [])))))) (by kernel_rfl) ?_
  simp only [inst_need, inst_br, inst_both, inst_fin, inst_qed, inst_stop, inst_code]
  subst hI
  simp only [alg_b2i, alg_i2b, alg_add, alg_sub, alg_mul, alg_quo, alg_rem, alg_wrap, alg_imin, alg_imax, alg_ilt, alg_ile, alg_ieq, alg_bnot, alg_beq, alg_ban, alg_seq, alg_len, alg_app, alg_cut, alg_get, alg_set, alg_rep, alg_inr, alg_inb, alg_cutb, alg_same, alg_few, alg_nne, alg_nng, alg_hid, alg_shl, alg_shr, alg_bits, decide_eq_true_eq, decide_eq_false_iff_not, beq_iff_eq, beq_eq_false_iff_ne, Bool.not_eq_true', Bool.not_eq_false', Bool.and_eq_true, Bool.and_true, Bool.true_and, and_true, true_and, ne_eq, Int.toNat_zero, Nat.sub_zero, List.drop_zero, i64_min, i64_max, u8_min, u8_max, ofNat_b2i, b2i_inj, Int.toNat_natCast, Int.ofNat_eq_natCast, UInt8.ofNat_toNat, AOut.ret.injEq, D.v.injEq, D.tup.injEq, V0.one.injEq, C.p.injEq, P.bool.injEq, P.int.injEq, P.str.injEq, Bool.false_eq_true, Bool.true_eq_false, imp_false, Decidable.not_not, not_true_eq_false, not_false_eq_true]
  unfold oneF at hr
  (repeat' (first | refine And.intro ?_ ?_ | intro _)) <;> try omega
  all_goals first
    | assumption
    | exact (hneed.2.2 _ (by assumption)).1
    | exact (hneed.2.2 _ (by assumption)).2
    | (rw [if_pos (by omega)] at hr; cases hr; rfl)
    | (rw [if_neg (by omega), if_pos (by omega)] at hr; cases hr; rfl)
    | (rw [if_neg (by omega), if_neg (by omega)] at hr; cases hr; rfl)
def oneOf__c (I : Alg) (args : List D) (hp : List HO) : Option CT := match args, hp with
  | [.v (.one (.p (.list .fld l))), .v (.one (.p (.str n)))], [] => (fun (l : List Fld) (n : Str) => (some (.one ⟨I.hid (l.length ≤ 1000 ∧ n.length ≤ 1000000 ∧ ∀ f ∈ l, f.name.length ≤ 1000000 ∧ f.value.length ≤ 1000000), (.ret (.tup [(.one (.p (.str (I.hid ((oneF (valsF l n)).1))))), (.one (.p (.int .i64 (I.hid ((oneF (valsF l n)).2)))))])), []⟩) : Option CT)) l n
  | _, _ => none
theorem oneOf__g : GoodC Tryd.prog 39 (oneOf__c alg) := by
  intro args hp r h
  unfold oneOf__c at h
  split at h
  · cases h; exact fun hn => oneOf_ _ _ hn
  · cases h
def oneOf__k : Know Tryd.prog := ⟨39, oneOf__c, oneOf__g⟩
def oneOf__l : Know Tryd.prog := ⟨39, fun I => lendC I (oneOf__c I), lendC_good oneOf__g⟩
end Go.Proofs.YtmmfcghieefoaaaDoor
