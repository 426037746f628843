/- Bytes and texts: numbers, and how it begins. -/
import Derived.Test.YtmmfcghieefoaaaDoorChrD
set_option linter.all false
namespace Go.Proofs.YtmmfcghieefoaaaDoor
open Go Go.Sep Go.Ab
set_option maxRecDepth 100000

theorem cNumber_ (s : Str) : Spc Tryd.prog 11 [.v (.one (.p (.str s)))] [] (.ret (.tup [(.one (.p (.int .i64 ((numA s 10 9).1)))), (.one (.p (.bool ((numA s 10 9).2))))])) [] := by
  refine spcG tab_ok mixed Tryd.func11 (by kernel_rfl) { keep := some [0, 2, 3] } [number10__k, number10__l, number16__k, number16__l] (by kernel_rfl) ?_
  intro I X hI hX
  refine ev_rule (.need (I.hid (α := (Prop)) True) (.fin (.ret (.tup [(.one (.p (.int .i64 (I.hid (α := Int) (Prod.fst (Go.Proofs.YtmmfcghieefoaaaDoor.numA s (10 : Int) (9 : Int))))))), (.one (.p (.bool (I.hid (α := Bool) (Prod.snd (Go.Proofs.YtmmfcghieefoaaaDoor.numA s (10 : Int) (9 : Int)))))))])) [])) (by kernel_rfl) ?_
  simp only [inst_need, inst_br, inst_both, inst_fin, inst_qed, inst_stop, inst_code]
  subst hI
  simp only [alg_b2i, alg_i2b, alg_add, alg_sub, alg_mul, alg_quo, alg_rem, alg_wrap, alg_imin, alg_imax, alg_ilt, alg_ile, alg_ieq, alg_bnot, alg_beq, alg_ban, alg_seq, alg_len, alg_app, alg_cut, alg_get, alg_set, alg_rep, alg_inr, alg_inb, alg_cutb, alg_same, alg_few, alg_nne, alg_nng, alg_hid, alg_shl, alg_shr, alg_bits, decide_eq_true_eq, decide_eq_false_iff_not, beq_iff_eq, beq_eq_false_iff_ne, Bool.not_eq_true', Bool.not_eq_false', Bool.and_eq_true, Bool.and_true, Bool.true_and, and_true, true_and, ne_eq, Int.toNat_zero, Nat.sub_zero, List.drop_zero, i64_min, i64_max, u8_min, u8_max, ofNat_b2i, b2i_inj, Int.toNat_natCast, Int.ofNat_eq_natCast, UInt8.ofNat_toNat, AOut.ret.injEq, D.v.injEq, D.tup.injEq, V0.one.injEq, C.p.injEq, P.bool.injEq, P.int.injEq, P.str.injEq, Bool.false_eq_true, Bool.true_eq_false, imp_false, Decidable.not_not, not_true_eq_false, not_false_eq_true]
  try trivial
def cNumber__c (I : Alg) (args : List D) (hp : List HO) : Option CT := match args, hp with
  | [.v (.one (.p (.str s)))], [] => (fun (s : Str) => (some (.one ⟨I.hid (True), (.ret (.tup [(.one (.p (.int .i64 (I.hid ((numA s 10 9).1))))), (.one (.p (.bool (I.hid ((numA s 10 9).2)))))])), []⟩) : Option CT)) s
  | _, _ => none
theorem cNumber__g : GoodC Tryd.prog 11 (cNumber__c alg) := by
  intro args hp r h
  unfold cNumber__c at h
  split at h
  · cases h; exact fun hn => cNumber_ _
  · cases h
def cNumber__k : Know Tryd.prog := ⟨11, cNumber__c, cNumber__g⟩
def cNumber__l : Know Tryd.prog := ⟨11, fun I => lendC I (cNumber__c I), lendC_good cNumber__g⟩
theorem cHexNumber_ (s : Str) : Spc Tryd.prog 13 [.v (.one (.p (.str s)))] [] (.ret (.tup [(.one (.p (.int .i64 ((numA s 16 6).1)))), (.one (.p (.bool ((numA s 16 6).2))))])) [] := by
  refine spcG tab_ok mixed Tryd.func13 (by kernel_rfl) { keep := some [0, 2, 3] } [number10__k, number10__l, number16__k, number16__l] (by kernel_rfl) ?_
  intro I X hI hX
  refine ev_rule (.need (I.hid (α := (Prop)) True) (.fin (.ret (.tup [(.one (.p (.int .i64 (I.hid (α := Int) (Prod.fst (Go.Proofs.YtmmfcghieefoaaaDoor.numA s (16 : Int) (6 : Int))))))), (.one (.p (.bool (I.hid (α := Bool) (Prod.snd (Go.Proofs.YtmmfcghieefoaaaDoor.numA s (16 : Int) (6 : Int)))))))])) [])) (by kernel_rfl) ?_
  simp only [inst_need, inst_br, inst_both, inst_fin, inst_qed, inst_stop, inst_code]
  subst hI
  simp only [alg_b2i, alg_i2b, alg_add, alg_sub, alg_mul, alg_quo, alg_rem, alg_wrap, alg_imin, alg_imax, alg_ilt, alg_ile, alg_ieq, alg_bnot, alg_beq, alg_ban, alg_seq, alg_len, alg_app, alg_cut, alg_get, alg_set, alg_rep, alg_inr, alg_inb, alg_cutb, alg_same, alg_few, alg_nne, alg_nng, alg_hid, alg_shl, alg_shr, alg_bits, decide_eq_true_eq, decide_eq_false_iff_not, beq_iff_eq, beq_eq_false_iff_ne, Bool.not_eq_true', Bool.not_eq_false', Bool.and_eq_true, Bool.and_true, Bool.true_and, and_true, true_and, ne_eq, Int.toNat_zero, Nat.sub_zero, List.drop_zero, i64_min, i64_max, u8_min, u8_max, ofNat_b2i, b2i_inj, Int.toNat_natCast, Int.ofNat_eq_natCast, UInt8.ofNat_toNat, AOut.ret.injEq, D.v.injEq, D.tup.injEq, V0.one.injEq, C.p.injEq, P.bool.injEq, P.int.injEq, P.str.injEq, Bool.false_eq_true, Bool.true_eq_false, imp_false, Decidable.not_not, not_true_eq_false, not_false_eq_true]
  try trivial
def cHexNumber__c (I : Alg) (args : List D) (hp : List HO) : Option CT := match args, hp with
  | [.v (.one (.p (.str s)))], [] => (fun (s : Str) => (some (.one ⟨I.hid (True), (.ret (.tup [(.one (.p (.int .i64 (I.hid ((numA s 16 6).1))))), (.one (.p (.bool (I.hid ((numA s 16 6).2)))))])), []⟩) : Option CT)) s
  | _, _ => none
theorem cHexNumber__g : GoodC Tryd.prog 13 (cHexNumber__c alg) := by
  intro args hp r h
  unfold cHexNumber__c at h
  split at h
  · cases h; exact fun hn => cHexNumber_ _
  · cases h
def cHexNumber__k : Know Tryd.prog := ⟨13, cHexNumber__c, cHexNumber__g⟩
def cHexNumber__l : Know Tryd.prog := ⟨13, fun I => lendC I (cHexNumber__c I), lendC_good cHexNumber__g⟩

theorem cBegun_  : Spc Tryd.prog 7 [] [] (.ret (.v (.one (.p (.bool true))))) [] := by
  refine spcG tab_ok mixed Tryd.func7 (by kernel_rfl) { keep := some [0, 1, 2] } [hex__k, hex__l, isToken__k, isToken__l, cTrim__k, cTrim__l, cLower__k, cLower__l, cNumber__k, cNumber__l] (by kernel_rfl) ?_
  intro I X hI hX
  refine ev_rule (.need (I.hid (α := (Prop)) True) (.br (I.hid (α := Bool) (Prod.snd (Go.Proofs.YtmmfcghieefoaaaDoor.numA (Array.toList (List.toArray ([48, 49, 50] : List UInt8))) (10 : Int) (9 : Int)))) (.br (I.ieq (I.hid (α := Int) (Prod.fst (Go.Proofs.YtmmfcghieefoaaaDoor.numA (Array.toList (List.toArray ([48, 49, 50] : List UInt8))) (10 : Int) (9 : Int)))) 12) (.need (I.hid (α := (Prop)) (And (LE.le (0 : Int) (70 : Int)) (LE.le (70 : Int) (255 : Int)))) (.br (I.ieq (I.hid (α := Int) (Go.Proofs.YtmmfcghieefoaaaDoor.hexK (70 : Int))) 15) (.need (I.hid (α := (Prop)) (LE.le (List.length (Array.toList (List.toArray ([97, 46, 98] : List UInt8)))) 1000000)) (.br (I.hid (α := Bool) (Go.Proofs.YtmmfcghieefoaaaDoor.tokenA (Array.toList (List.toArray ([97, 46, 98] : List UInt8))))) (.need (I.hid (α := (Prop)) (LE.le (List.length (Array.toList (List.toArray ([97, 32, 98] : List UInt8)))) 1000000)) (.br (I.bnot (I.hid (α := Bool) (Go.Proofs.YtmmfcghieefoaaaDoor.tokenA (Array.toList (List.toArray ([97, 32, 98] : List UInt8)))))) (.need (I.hid (α := (Prop)) (LE.le (List.length (Array.toList (List.toArray ([97, 90, 57] : List UInt8)))) 1000000)) (.br (I.seq (I.hid (α := (List UInt8)) (Go.Proofs.YtmmfcghieefoaaaDoor.lowS (Array.toList (List.toArray ([97, 90, 57] : List UInt8))))) (Array.toList (List.toArray ([97, 122, 57] : List UInt8)))) (.need (I.hid (α := (Prop)) True) (.fin (.ret (.v (.one (.p (.bool (I.seq (I.hid (α := (List UInt8)) (Go.Lib.trimS (Array.toList (List.toArray ([32, 9, 120, 32] : List UInt8))) ([32, 9] : List UInt8))) (Array.toList (List.toArray ([120] : List UInt8))))))))) [])) (.fin (.ret (.v (.one (.p (.bool Bool.false))))) []))) (.fin (.ret (.v (.one (.p (.bool Bool.false))))) []))) (.fin (.ret (.v (.one (.p (.bool Bool.false))))) []))) (.fin (.ret (.v (.one (.p (.bool Bool.false))))) []))) (.fin (.ret (.v (.one (.p (.bool Bool.false))))) [])) (.fin (.ret (.v (.one (.p (.bool Bool.false))))) []))) (by kernel_rfl) ?_
  simp only [inst_need, inst_br, inst_both, inst_fin, inst_qed, inst_stop, inst_code]
  subst hI
  simp only [AOut.ret.injEq, D.v.injEq, V0.one.injEq, C.p.injEq, P.bool.injEq, and_true]
  simp only [alg_b2i, alg_i2b, alg_add, alg_sub, alg_mul, alg_quo, alg_rem, alg_wrap, alg_imin, alg_imax, alg_ilt, alg_ile, alg_ieq, alg_bnot, alg_beq, alg_ban, alg_seq, alg_len, alg_app, alg_cut, alg_get, alg_set, alg_rep, alg_inr, alg_inb, alg_cutb, alg_same, alg_few, alg_nne, alg_nng, alg_hid, alg_shl, alg_shr, alg_bits]
  (repeat' (first | refine And.intro ?_ ?_ | (intro h; first | exact absurd h (by decide +kernel) | clear h)))
  all_goals decide +kernel
def cBegun__c (I : Alg) (args : List D) (hp : List HO) : Option CT := match args, hp with
  | [], [] => (fun (_ : Unit) => (some (.one ⟨I.hid (True), (.ret (.v (.one (.p (.bool true))))), []⟩) : Option CT)) ()
  | _, _ => none
theorem cBegun__g : GoodC Tryd.prog 7 (cBegun__c alg) := by
  intro args hp r h
  unfold cBegun__c at h
  split at h
  · cases h; exact fun hn => cBegun_ 
  · cases h
def cBegun__k : Know Tryd.prog := ⟨7, cBegun__c, cBegun__g⟩
def cBegun__l : Know Tryd.prog := ⟨7, fun I => lendC I (cBegun__c I), lendC_good cBegun__g⟩

end Go.Proofs.YtmmfcghieefoaaaDoor
