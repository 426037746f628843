/- Bytes and texts: the walks of package chars. -/
import Derived.Test.YtjapkdcomcgamaaDoorInZ
import Derived.Test.YtjapkdcomcgamaaDoorLib
set_option linter.all false
namespace Go.Proofs.YtjapkdcomcgamaaDoor
open Go Go.Sep Go.Ab
set_option maxRecDepth 100000

def lowK (k : Int) : Int := if 65 ≤ k ∧ k ≤ 90 then k + 32 else k
def digitB (k : Int) : Bool := decide (48 ≤ k ∧ k ≤ 57)
def letterB (k : Int) : Bool := decide (97 ≤ lowK k ∧ lowK k ≤ 122)
def marks : Str := [33, 35, 36, 37, 38, 39, 42, 43, 45, 46, 94, 95, 96, 124, 126]
def tokB (k : Int) : Bool := digitB k || (letterB k || decide (0 ≤ Lib.indexByte marks k.toNat.toUInt8))
def seenB (k : Int) : Bool := decide (k = 9 ∨ 32 ≤ k ∧ k ≠ 127)
def hexK (k : Int) : Int := if digitB k then k - 48 else if letterB k && decide (lowK k ≤ 102) then lowK k - 97 + 10 else -1
theorem wrap8 (n : Int) (h : 0 ≤ n ∧ n ≤ 255) : IntKind.u8.wrap n = n := by
  unfold IntKind.wrap
  simp only [show IntKind.u8.signed = false by decide, show IntKind.u8.bits = 8 by decide, Bool.false_and, Bool.false_eq_true, if_false]
  omega
theorem wrap64 (n : Int) (h : -9223372036854775808 ≤ n ∧ n ≤ 9223372036854775807) : IntKind.i64.wrap n = n := by
  unfold IntKind.wrap
  simp only [show IntKind.i64.signed = true by decide, show IntKind.i64.bits = 64 by decide]
  split <;> simp_all <;> omega
theorem lowK_byte {k : Int} (h : 0 ≤ k ∧ k ≤ 255) : 0 ≤ lowK k ∧ lowK k ≤ 255 := by unfold lowK; split <;> omega

theorem digit_ (k : Int) : Spc Tryd.prog 145 [.v (.one (.p (.int .u8 k)))] [] (.ret (.v (.one (.p (.bool (digitB k)))))) [] := by
  refine spcG tab_ok mixed Tryd.func145 (by kernel_rfl) { keep := some [0, 2] } [] (by kernel_rfl) ?_
  intro I X hI hX
  refine ev_rule (.br (I.ile 48 k) (.fin (.ret (.v (.one (.p (.bool (I.ile k 57)))))) []) (.fin (.ret (.v (.one (.p (.bool Bool.false))))) [])) (by kernel_rfl) ?_
  simp only [inst_need, inst_br, inst_both, inst_fin, inst_qed, inst_stop, inst_code]
  subst hI
  simp only [alg_b2i, alg_i2b, alg_add, alg_sub, alg_mul, alg_quo, alg_rem, alg_wrap, alg_imin, alg_imax, alg_ilt, alg_ile, alg_ieq, alg_bnot, alg_beq, alg_ban, alg_seq, alg_len, alg_app, alg_cut, alg_get, alg_set, alg_rep, alg_inr, alg_inb, alg_cutb, alg_same, alg_few, alg_nne, alg_nng, alg_hid, alg_shl, alg_shr, alg_bits, decide_eq_true_eq, decide_eq_false_iff_not, beq_iff_eq, beq_eq_false_iff_ne, Bool.not_eq_true', Bool.not_eq_false', Bool.and_eq_true, Bool.and_true, Bool.true_and, and_true, true_and, ne_eq, Int.toNat_zero, Nat.sub_zero, List.drop_zero, i64_min, i64_max, u8_min, u8_max, ofNat_b2i, b2i_inj, Int.toNat_natCast, Int.ofNat_eq_natCast, UInt8.ofNat_toNat, AOut.ret.injEq, D.v.injEq, D.tup.injEq, V0.one.injEq, C.p.injEq, P.bool.injEq, P.int.injEq, P.str.injEq, Bool.false_eq_true, Bool.true_eq_false, imp_false, Decidable.not_not, not_true_eq_false, not_false_eq_true]
  unfold digitB
  exact ⟨fun h => decide_eq_decide.2 (by omega), fun h => (decide_eq_false (by omega)).symm⟩
def digit__c (I : Alg) (args : List D) (hp : List HO) : Option CT := match args, hp with
  | [.v (.one (.p (.int .u8 k)))], [] => (fun (k : Int) => (some (.one ⟨I.hid (True), (.ret (.v (.one (.p (.bool (I.hid (digitB k))))))), []⟩) : Option CT)) k
  | _, _ => none
theorem digit__g : GoodC Tryd.prog 145 (digit__c alg) := by
  intro args hp r h
  unfold digit__c at h
  split at h
  · cases h; exact fun hn => digit_ _
  · cases h
def digit__k : Know Tryd.prog := ⟨145, digit__c, digit__g⟩
def digit__l : Know Tryd.prog := ⟨145, fun I => lendC I (digit__c I), lendC_good digit__g⟩

theorem lower_ (k : Int) (hneed : 0 ≤ k ∧ k ≤ 255) : Spc Tryd.prog 128 [.v (.one (.p (.int .u8 k)))] [] (.ret (.v (.one (.p (.int .u8 (lowK k)))))) [] := by
  refine spcG tab_ok mixed Tryd.func128 (by kernel_rfl) { keep := some [0, 2] } [] (by kernel_rfl) ?_
  intro I X hI hX
  refine ev_rule (.br (I.ile 65 k) (.br (I.ile k 90) (.need (I.inr Go.IntKind.u8 (I.add k 32)) (.fin (.ret (.v (.one (.p (.int .u8 (I.add k 32)))))) [])) (.fin (.ret (.v (.one (.p (.int .u8 k))))) [])) (.fin (.ret (.v (.one (.p (.int .u8 k))))) [])) (by kernel_rfl) ?_
  simp only [inst_need, inst_br, inst_both, inst_fin, inst_qed, inst_stop, inst_code]
  subst hI
  simp only [alg_b2i, alg_i2b, alg_add, alg_sub, alg_mul, alg_quo, alg_rem, alg_wrap, alg_imin, alg_imax, alg_ilt, alg_ile, alg_ieq, alg_bnot, alg_beq, alg_ban, alg_seq, alg_len, alg_app, alg_cut, alg_get, alg_set, alg_rep, alg_inr, alg_inb, alg_cutb, alg_same, alg_few, alg_nne, alg_nng, alg_hid, alg_shl, alg_shr, alg_bits, decide_eq_true_eq, decide_eq_false_iff_not, beq_iff_eq, beq_eq_false_iff_ne, Bool.not_eq_true', Bool.not_eq_false', Bool.and_eq_true, Bool.and_true, Bool.true_and, and_true, true_and, ne_eq, Int.toNat_zero, Nat.sub_zero, List.drop_zero, i64_min, i64_max, u8_min, u8_max, ofNat_b2i, b2i_inj, Int.toNat_natCast, Int.ofNat_eq_natCast, UInt8.ofNat_toNat, AOut.ret.injEq, D.v.injEq, D.tup.injEq, V0.one.injEq, C.p.injEq, P.bool.injEq, P.int.injEq, P.str.injEq, Bool.false_eq_true, Bool.true_eq_false, imp_false, Decidable.not_not, not_true_eq_false, not_false_eq_true]
  unfold lowK
  (repeat' (first | refine And.intro ?_ ?_ | intro _)) <;> first | omega | exact True.intro | exact False.elim ‹False› | skip
def lower__c (I : Alg) (args : List D) (hp : List HO) : Option CT := match args, hp with
  | [.v (.one (.p (.int .u8 k)))], [] => (fun (k : Int) => (some (.one ⟨I.hid (0 ≤ k ∧ k ≤ 255), (.ret (.v (.one (.p (.int .u8 (I.hid (lowK k))))))), []⟩) : Option CT)) k
  | _, _ => none
theorem lower__g : GoodC Tryd.prog 128 (lower__c alg) := by
  intro args hp r h
  unfold lower__c at h
  split at h
  · cases h; exact fun hn => lower_ _ hn
  · cases h
def lower__k : Know Tryd.prog := ⟨128, lower__c, lower__g⟩
def lower__l : Know Tryd.prog := ⟨128, fun I => lendC I (lower__c I), lendC_good lower__g⟩

theorem letter_ (k : Int) (hneed : 0 ≤ k ∧ k ≤ 255) : Spc Tryd.prog 146 [.v (.one (.p (.int .u8 k)))] [] (.ret (.v (.one (.p (.bool (letterB k)))))) [] := by
  refine spcG tab_ok mixed Tryd.func146 (by kernel_rfl) { keep := some [0, 2] } [lower__k, lower__l] (by kernel_rfl) ?_
  intro I X hI hX
  refine ev_rule (let y0 := I.hid (α := (Prop)) (And (LE.le (0 : Int) k) (LE.le k (255 : Int))); .need y0 (.br (I.ile 97 (I.hid (α := Int) (lowK k))) (.need y0 (.fin (.ret (.v (.one (.p (.bool (I.ile (I.hid (α := Int) (lowK k)) 122)))))) [])) (.fin (.ret (.v (.one (.p (.bool Bool.false))))) []))) (by kernel_rfl) ?_
  simp only [inst_need, inst_br, inst_both, inst_fin, inst_qed, inst_stop, inst_code]
  subst hI
  simp only [alg_b2i, alg_i2b, alg_add, alg_sub, alg_mul, alg_quo, alg_rem, alg_wrap, alg_imin, alg_imax, alg_ilt, alg_ile, alg_ieq, alg_bnot, alg_beq, alg_ban, alg_seq, alg_len, alg_app, alg_cut, alg_get, alg_set, alg_rep, alg_inr, alg_inb, alg_cutb, alg_same, alg_few, alg_nne, alg_nng, alg_hid, alg_shl, alg_shr, alg_bits, decide_eq_true_eq, decide_eq_false_iff_not, beq_iff_eq, beq_eq_false_iff_ne, Bool.not_eq_true', Bool.not_eq_false', Bool.and_eq_true, Bool.and_true, Bool.true_and, and_true, true_and, ne_eq, Int.toNat_zero, Nat.sub_zero, List.drop_zero, i64_min, i64_max, u8_min, u8_max, ofNat_b2i, b2i_inj, Int.toNat_natCast, Int.ofNat_eq_natCast, UInt8.ofNat_toNat, AOut.ret.injEq, D.v.injEq, D.tup.injEq, V0.one.injEq, C.p.injEq, P.bool.injEq, P.int.injEq, P.str.injEq, Bool.false_eq_true, Bool.true_eq_false, imp_false, Decidable.not_not, not_true_eq_false, not_false_eq_true]
  unfold letterB
  (repeat' (first | refine And.intro ?_ ?_ | intro _)) <;> first | omega | exact True.intro | exact False.elim ‹False› | skip
  all_goals first | exact decide_eq_decide.2 (by omega) | exact (decide_eq_false (by omega)).symm | exact (decide_eq_true (by omega)).symm | (rw [show (k == 127) = decide (k = 127) from rfl, ← decide_not]; exact decide_eq_decide.2 (by omega))
def letter__c (I : Alg) (args : List D) (hp : List HO) : Option CT := match args, hp with
  | [.v (.one (.p (.int .u8 k)))], [] => (fun (k : Int) => (some (.one ⟨I.hid (0 ≤ k ∧ k ≤ 255), (.ret (.v (.one (.p (.bool (I.hid (letterB k))))))), []⟩) : Option CT)) k
  | _, _ => none
theorem letter__g : GoodC Tryd.prog 146 (letter__c alg) := by
  intro args hp r h
  unfold letter__c at h
  split at h
  · cases h; exact fun hn => letter_ _ hn
  · cases h
def letter__k : Know Tryd.prog := ⟨146, letter__c, letter__g⟩
def letter__l : Know Tryd.prog := ⟨146, fun I => lendC I (letter__c I), lendC_good letter__g⟩

theorem token_ (k : Int) (hneed : 0 ≤ k ∧ k ≤ 255) : Spc Tryd.prog 129 [.v (.one (.p (.int .u8 k)))] [] (.ret (.v (.one (.p (.bool (tokB k)))))) [] := by
  refine spcG tab_ok mixed Tryd.func129 (by kernel_rfl) { keep := some [0, 2] } [indexByte__k, indexByte__l, digit__k, digit__l, letter__k, letter__l] (by kernel_rfl) ?_
  intro I X hI hX
  refine ev_rule (.need (I.hid (α := (Prop)) True) (.br (I.hid (α := Bool) (digitB k)) (.fin (.ret (.v (.one (.p (.bool Bool.true))))) []) (.need (I.hid (α := (Prop)) (And (LE.le (0 : Int) k) (LE.le k (255 : Int)))) (.br (I.hid (α := Bool) (letterB k)) (.fin (.ret (.v (.one (.p (.bool Bool.true))))) []) (.need (I.hid (α := (Prop)) True) (.fin (.ret (.v (.one (.p (.bool (I.ile 0 (I.hid (α := Int) (Go.Lib.indexByte (Array.toList (List.toArray ([33, 35, 36, 37, 38, 39, 42, 43, 45, 46, 94, 95, 96, 124, 126] : List UInt8))) (Nat.toUInt8 (Int.toNat k)))))))))) [])))))) (by kernel_rfl) ?_
  simp only [inst_need, inst_br, inst_both, inst_fin, inst_qed, inst_stop, inst_code]
  subst hI
  simp only [alg_b2i, alg_i2b, alg_add, alg_sub, alg_mul, alg_quo, alg_rem, alg_wrap, alg_imin, alg_imax, alg_ilt, alg_ile, alg_ieq, alg_bnot, alg_beq, alg_ban, alg_seq, alg_len, alg_app, alg_cut, alg_get, alg_set, alg_rep, alg_inr, alg_inb, alg_cutb, alg_same, alg_few, alg_nne, alg_nng, alg_hid, alg_shl, alg_shr, alg_bits, decide_eq_true_eq, decide_eq_false_iff_not, beq_iff_eq, beq_eq_false_iff_ne, Bool.not_eq_true', Bool.not_eq_false', Bool.and_eq_true, Bool.and_true, Bool.true_and, and_true, true_and, ne_eq, Int.toNat_zero, Nat.sub_zero, List.drop_zero, i64_min, i64_max, u8_min, u8_max, ofNat_b2i, b2i_inj, Int.toNat_natCast, Int.ofNat_eq_natCast, UInt8.ofNat_toNat, AOut.ret.injEq, D.v.injEq, D.tup.injEq, V0.one.injEq, C.p.injEq, P.bool.injEq, P.int.injEq, P.str.injEq, Bool.false_eq_true, Bool.true_eq_false, imp_false, Decidable.not_not, not_true_eq_false, not_false_eq_true]
  unfold tokB marks
  (repeat' (first | refine And.intro ?_ ?_ | intro _)) <;> first | omega | exact True.intro | exact False.elim ‹False› | skip
  all_goals simp [*]
def token__c (I : Alg) (args : List D) (hp : List HO) : Option CT := match args, hp with
  | [.v (.one (.p (.int .u8 k)))], [] => (fun (k : Int) => (some (.one ⟨I.hid (0 ≤ k ∧ k ≤ 255), (.ret (.v (.one (.p (.bool (I.hid (tokB k))))))), []⟩) : Option CT)) k
  | _, _ => none
theorem token__g : GoodC Tryd.prog 129 (token__c alg) := by
  intro args hp r h
  unfold token__c at h
  split at h
  · cases h; exact fun hn => token_ _ hn
  · cases h
def token__k : Know Tryd.prog := ⟨129, token__c, token__g⟩
def token__l : Know Tryd.prog := ⟨129, fun I => lendC I (token__c I), lendC_good token__g⟩

theorem visible_ (k : Int) : Spc Tryd.prog 103 [.v (.one (.p (.int .u8 k)))] [] (.ret (.v (.one (.p (.bool (seenB k)))))) [] := by
  refine spcG tab_ok mixed Tryd.func103 (by kernel_rfl) { keep := some [0, 2] } [] (by kernel_rfl) ?_
  intro I X hI hX
  refine ev_rule (.br (I.ieq k 9) (.fin (.ret (.v (.one (.p (.bool Bool.true))))) []) (.br (I.ile 32 k) (.fin (.ret (.v (.one (.p (.bool (I.bnot (I.ieq k 127))))))) []) (.fin (.ret (.v (.one (.p (.bool Bool.false))))) []))) (by kernel_rfl) ?_
  simp only [inst_need, inst_br, inst_both, inst_fin, inst_qed, inst_stop, inst_code]
  subst hI
  simp only [alg_b2i, alg_i2b, alg_add, alg_sub, alg_mul, alg_quo, alg_rem, alg_wrap, alg_imin, alg_imax, alg_ilt, alg_ile, alg_ieq, alg_bnot, alg_beq, alg_ban, alg_seq, alg_len, alg_app, alg_cut, alg_get, alg_set, alg_rep, alg_inr, alg_inb, alg_cutb, alg_same, alg_few, alg_nne, alg_nng, alg_hid, alg_shl, alg_shr, alg_bits, decide_eq_true_eq, decide_eq_false_iff_not, beq_iff_eq, beq_eq_false_iff_ne, Bool.not_eq_true', Bool.not_eq_false', Bool.and_eq_true, Bool.and_true, Bool.true_and, and_true, true_and, ne_eq, Int.toNat_zero, Nat.sub_zero, List.drop_zero, i64_min, i64_max, u8_min, u8_max, ofNat_b2i, b2i_inj, Int.toNat_natCast, Int.ofNat_eq_natCast, UInt8.ofNat_toNat, AOut.ret.injEq, D.v.injEq, D.tup.injEq, V0.one.injEq, C.p.injEq, P.bool.injEq, P.int.injEq, P.str.injEq, Bool.false_eq_true, Bool.true_eq_false, imp_false, Decidable.not_not, not_true_eq_false, not_false_eq_true]
  unfold seenB
  (repeat' (first | refine And.intro ?_ ?_ | intro _)) <;> first | omega | exact True.intro | exact False.elim ‹False› | skip
  all_goals first | exact decide_eq_decide.2 (by omega) | exact (decide_eq_false (by omega)).symm | exact (decide_eq_true (by omega)).symm | (rw [show (k == 127) = decide (k = 127) from rfl, ← decide_not]; exact decide_eq_decide.2 (by omega))
def visible__c (I : Alg) (args : List D) (hp : List HO) : Option CT := match args, hp with
  | [.v (.one (.p (.int .u8 k)))], [] => (fun (k : Int) => (some (.one ⟨I.hid (True), (.ret (.v (.one (.p (.bool (I.hid (seenB k))))))), []⟩) : Option CT)) k
  | _, _ => none
theorem visible__g : GoodC Tryd.prog 103 (visible__c alg) := by
  intro args hp r h
  unfold visible__c at h
  split at h
  · cases h; exact fun hn => visible_ _
  · cases h
def visible__k : Know Tryd.prog := ⟨103, visible__c, visible__g⟩
def visible__l : Know Tryd.prog := ⟨103, fun I => lendC I (visible__c I), lendC_good visible__g⟩

theorem isSeen_ (k : Int) : Spc Tryd.prog 76 [.v (.one (.p (.int .u8 k)))] [] (.ret (.v (.one (.p (.bool (seenB k)))))) [] := by
  refine spcG tab_ok mixed Tryd.func76 (by kernel_rfl) { keep := some [0, 2] } [] (by kernel_rfl) ?_
  intro I X hI hX
  refine ev_rule (.br (I.ieq k 9) (.fin (.ret (.v (.one (.p (.bool Bool.true))))) []) (.br (I.ilt 31 k) (.fin (.ret (.v (.one (.p (.bool (I.bnot (I.ieq k 127))))))) []) (.fin (.ret (.v (.one (.p (.bool Bool.false))))) []))) (by kernel_rfl) ?_
  simp only [inst_need, inst_br, inst_both, inst_fin, inst_qed, inst_stop, inst_code]
  subst hI
  simp only [alg_b2i, alg_i2b, alg_add, alg_sub, alg_mul, alg_quo, alg_rem, alg_wrap, alg_imin, alg_imax, alg_ilt, alg_ile, alg_ieq, alg_bnot, alg_beq, alg_ban, alg_seq, alg_len, alg_app, alg_cut, alg_get, alg_set, alg_rep, alg_inr, alg_inb, alg_cutb, alg_same, alg_few, alg_nne, alg_nng, alg_hid, alg_shl, alg_shr, alg_bits, decide_eq_true_eq, decide_eq_false_iff_not, beq_iff_eq, beq_eq_false_iff_ne, Bool.not_eq_true', Bool.not_eq_false', Bool.and_eq_true, Bool.and_true, Bool.true_and, and_true, true_and, ne_eq, Int.toNat_zero, Nat.sub_zero, List.drop_zero, i64_min, i64_max, u8_min, u8_max, ofNat_b2i, b2i_inj, Int.toNat_natCast, Int.ofNat_eq_natCast, UInt8.ofNat_toNat, AOut.ret.injEq, D.v.injEq, D.tup.injEq, V0.one.injEq, C.p.injEq, P.bool.injEq, P.int.injEq, P.str.injEq, Bool.false_eq_true, Bool.true_eq_false, imp_false, Decidable.not_not, not_true_eq_false, not_false_eq_true]
  unfold seenB
  (repeat' (first | refine And.intro ?_ ?_ | intro _)) <;> first | omega | exact True.intro | exact False.elim ‹False› | skip
  all_goals first | exact decide_eq_decide.2 (by omega) | exact (decide_eq_false (by omega)).symm | exact (decide_eq_true (by omega)).symm | (rw [show (k == 127) = decide (k = 127) from rfl, ← decide_not]; exact decide_eq_decide.2 (by omega))
def isSeen__c (I : Alg) (args : List D) (hp : List HO) : Option CT := match args, hp with
  | [.v (.one (.p (.int .u8 k)))], [] => (fun (k : Int) => (some (.one ⟨I.hid (True), (.ret (.v (.one (.p (.bool (I.hid (seenB k))))))), []⟩) : Option CT)) k
  | _, _ => none
theorem isSeen__g : GoodC Tryd.prog 76 (isSeen__c alg) := by
  intro args hp r h
  unfold isSeen__c at h
  split at h
  · cases h; exact fun hn => isSeen_ _
  · cases h
def isSeen__k : Know Tryd.prog := ⟨76, isSeen__c, isSeen__g⟩
def isSeen__l : Know Tryd.prog := ⟨76, fun I => lendC I (isSeen__c I), lendC_good isSeen__g⟩

theorem hex_ (k : Int) (hneed : 0 ≤ k ∧ k ≤ 255) : Spc Tryd.prog 165 [.v (.one (.p (.int .u8 k)))] [] (.ret (.v (.one (.p (.int .i64 (hexK k)))))) [] := by
  refine spcG tab_ok mixed Tryd.func165 (by kernel_rfl) { keep := some [0, 2] } [digit__k, digit__l, lower__k, lower__l, letter__k, letter__l] (by kernel_rfl) ?_
  intro I X hI hX
  refine ev_rule (let y0 := I.hid (α := (Prop)) (And (LE.le (0 : Int) k) (LE.le k (255 : Int))); let y1 := I.add (I.wrap Go.IntKind.i64 (I.sub (I.hid (α := Int) (lowK k)) 97)) 10; .need (I.hid (α := (Prop)) True) (.br (I.hid (α := Bool) (digitB k)) (.need (I.inr Go.IntKind.u8 (I.sub k 48)) (.fin (.ret (.v (.one (.p (.int .i64 (I.wrap Go.IntKind.i64 (I.sub k 48))))))) [])) (.need y0 (.br (I.hid (α := Bool) (letterB k)) (.need y0 (.br (I.ile (I.hid (α := Int) (lowK k)) 102) (.need y0 (.need (I.inr Go.IntKind.u8 (I.sub (I.hid (α := Int) (lowK k)) 97)) (.need (I.inr Go.IntKind.i64 y1) (.fin (.ret (.v (.one (.p (.int .i64 y1))))) [])))) (.fin (.ret (.v (.one (.p (.int .i64 (Neg.neg (1 : Int))))))) []))) (.fin (.ret (.v (.one (.p (.int .i64 (Neg.neg (1 : Int))))))) []))))) (by kernel_rfl) ?_
  simp only [inst_need, inst_br, inst_both, inst_fin, inst_qed, inst_stop, inst_code]
  subst hI
  simp only [alg_b2i, alg_i2b, alg_add, alg_sub, alg_mul, alg_quo, alg_rem, alg_wrap, alg_imin, alg_imax, alg_ilt, alg_ile, alg_ieq, alg_bnot, alg_beq, alg_ban, alg_seq, alg_len, alg_app, alg_cut, alg_get, alg_set, alg_rep, alg_inr, alg_inb, alg_cutb, alg_same, alg_few, alg_nne, alg_nng, alg_hid, alg_shl, alg_shr, alg_bits, decide_eq_true_eq, decide_eq_false_iff_not, beq_iff_eq, beq_eq_false_iff_ne, Bool.not_eq_true', Bool.not_eq_false', Bool.and_eq_true, Bool.and_true, Bool.true_and, and_true, true_and, ne_eq, Int.toNat_zero, Nat.sub_zero, List.drop_zero, i64_min, i64_max, u8_min, u8_max, ofNat_b2i, b2i_inj, Int.toNat_natCast, Int.ofNat_eq_natCast, UInt8.ofNat_toNat, AOut.ret.injEq, D.v.injEq, D.tup.injEq, V0.one.injEq, C.p.injEq, P.bool.injEq, P.int.injEq, P.str.injEq, Bool.false_eq_true, Bool.true_eq_false, imp_false, Decidable.not_not, not_true_eq_false, not_false_eq_true]
  (repeat' (first | refine And.intro ?_ ?_ | intro _)) <;> first | omega | exact True.intro | exact False.elim ‹False› | skip
  all_goals first
    | (have := of_decide_eq_true ‹digitB k = true›; omega)
    | (have := of_decide_eq_true ‹digitB k = true›; unfold hexK; rw [if_pos ‹digitB k = true›, wrap64 _ (by omega)])
    | (have := of_decide_eq_true ‹letterB k = true›; omega)
    | (have := of_decide_eq_true ‹letterB k = true›; rw [wrap64 _ (by omega)]; omega)
    | (have := of_decide_eq_true ‹letterB k = true›; rw [wrap64 _ (by omega)]; unfold hexK; simp [*])
    | (unfold hexK; simp [*])
def hex__c (I : Alg) (args : List D) (hp : List HO) : Option CT := match args, hp with
  | [.v (.one (.p (.int .u8 k)))], [] => (fun (k : Int) => (some (.one ⟨I.hid (0 ≤ k ∧ k ≤ 255), (.ret (.v (.one (.p (.int .i64 (I.hid (hexK k))))))), []⟩) : Option CT)) k
  | _, _ => none
theorem hex__g : GoodC Tryd.prog 165 (hex__c alg) := by
  intro args hp r h
  unfold hex__c at h
  split at h
  · cases h; exact fun hn => hex_ _ hn
  · cases h
def hex__k : Know Tryd.prog := ⟨165, hex__c, hex__g⟩
def hex__l : Know Tryd.prog := ⟨165, fun I => lendC I (hex__c I), lendC_good hex__g⟩
end Go.Proofs.YtjapkdcomcgamaaDoor
