/- Bytes and texts: the walks of package chars. -/
import Derived.Test.YtjapkdcomcgamaaGreatDoorInZ
import Derived.Test.YtjapkdcomcgamaaGreatDoorLib
set_option linter.all false
namespace Go.Proofs.YtjapkdcomcgamaaGreatDoor
open Go Go.Sep Go.Ab
set_option maxRecDepth 100000

def lowK (k : Int) : Int := if 65 ≤ k ∧ k ≤ 90 then k + 32 else k
def digitB (k : Int) : Bool := decide (48 ≤ k ∧ k ≤ 57)
def letterB (k : Int) : Bool := decide (97 ≤ lowK k ∧ lowK k ≤ 122)
def marks : Str := [33, 35, 36, 37, 38, 39, 42, 43, 45, 46, 94, 95, 96, 124, 126]
def tokB (k : Int) : Bool := digitB k || (letterB k || decide (0 ≤ Lib.indexByte marks k.toNat.toUInt8))
def seenB (k : Int) : Bool := decide (k = 9 ∨ 32 ≤ k ∧ k ≠ 127)
def hexK (k : Int) : Int := if digitB k then k - 48 else if letterB k && decide (lowK k ≤ 102) then lowK k - 97 + 10 else -1
theorem wrap8 (n : Int) (h : 0 ≤ n ∧ n ≤ 255) : IntKind.u8.wrap n = n := by
  unfold IntKind.wrap
  simp only [show IntKind.u8.signed = false by decide, show IntKind.u8.bits = 8 by decide, Bool.false_and, Bool.false_eq_true, if_false]
  omega
theorem wrap64 (n : Int) (h : -9223372036854775808 ≤ n ∧ n ≤ 9223372036854775807) : IntKind.i64.wrap n = n := by
  unfold IntKind.wrap
  simp only [show IntKind.i64.signed = true by decide, show IntKind.i64.bits = 64 by decide]
  split <;> simp_all <;> omega
theorem lowK_byte {k : Int} (h : 0 ≤ k ∧ k ≤ 255) : 0 ≤ lowK k ∧ lowK k ≤ 255 := by unfold lowK; split <;> omega

theorem digit_ (k : Int) : Spc Tryz.prog 120 [.v (.one (.p (.int .u8 k)))] [] (.ret (.v (.one (.p (.bool (digitB k)))))) [] := by
  refine spcG tab_ok mixed Tryz.func120 (by kernel_rfl) { keep := some [0, 2] } [] (by kernel_rfl) ?_
  intro I X hI hX
  refine ev_rule (.br (I.ile 48 k) (.fin (.ret (.v (.one (.p (.bool (I.ile k 57)))))) []) (.fin (.ret (.v (.one (.p (.bool Bool.false))))) [])) (by kernel_rfl) ?_
  simp only [instL]
  subst hI
  simp only [nrmA, decide_eq_true_eq, decide_eq_false_iff_not, beq_iff_eq, beq_eq_false_iff_ne, Bool.not_eq_true', Bool.not_eq_false', Bool.and_eq_true, Bool.and_true, Bool.true_and, and_true, true_and, ne_eq, Int.toNat_zero, Nat.sub_zero, List.drop_zero, i64_min, i64_max, u8_min, u8_max, ofNat_b2i, b2i_inj, Int.toNat_natCast, Int.ofNat_eq_natCast, UInt8.ofNat_toNat, AOut.ret.injEq, D.v.injEq, D.tup.injEq, V0.one.injEq, C.p.injEq, P.bool.injEq, P.int.injEq, P.str.injEq, Bool.false_eq_true, Bool.true_eq_false, imp_false, Decidable.not_not, not_true_eq_false, not_false_eq_true]
  unfold digitB
  exact ⟨fun h => decide_eq_decide.2 (by omega), fun h => (decide_eq_false (by omega)).symm⟩
def digit__c (I : Alg) (args : List D) (hp : List HO) : Option CT := match args, hp with
  | [.v (.one (.p (.int .u8 k)))], [] => (fun (k : Int) => (some (.one ⟨I.hid (True), (.ret (.v (.one (.p (.bool (I.hid (digitB k))))))), []⟩) : Option CT)) k
  | _, _ => none
theorem digit__g : GoodC Tryz.prog 120 (digit__c alg) := by
  intro args hp r h
  unfold digit__c at h
  split at h
  · cases h; exact fun hn => digit_ _
  · cases h
def digit__k : Know Tryz.prog := ⟨120, digit__c, digit__g⟩
def digit__l : Know Tryz.prog := ⟨120, fun I => lendC I (digit__c I), lendC_good digit__g⟩

theorem lower_ (k : Int) (hneed : 0 ≤ k ∧ k ≤ 255) : Spc Tryz.prog 91 [.v (.one (.p (.int .u8 k)))] [] (.ret (.v (.one (.p (.int .u8 (lowK k)))))) [] := by
  refine spcG tab_ok mixed Tryz.func91 (by kernel_rfl) { keep := some [0, 2] } [] (by kernel_rfl) ?_
  intro I X hI hX
  refine ev_rule (.br (I.ile 65 k) (.br (I.ile k 90) (.need (I.inr Go.IntKind.u8 (I.add k 32)) (.fin (.ret (.v (.one (.p (.int .u8 (I.add k 32)))))) [])) (.fin (.ret (.v (.one (.p (.int .u8 k))))) [])) (.fin (.ret (.v (.one (.p (.int .u8 k))))) [])) (by kernel_rfl) ?_
  simp only [instL]
  subst hI
  simp only [nrmA, decide_eq_true_eq, decide_eq_false_iff_not, beq_iff_eq, beq_eq_false_iff_ne, Bool.not_eq_true', Bool.not_eq_false', Bool.and_eq_true, Bool.and_true, Bool.true_and, and_true, true_and, ne_eq, Int.toNat_zero, Nat.sub_zero, List.drop_zero, i64_min, i64_max, u8_min, u8_max, ofNat_b2i, b2i_inj, Int.toNat_natCast, Int.ofNat_eq_natCast, UInt8.ofNat_toNat, AOut.ret.injEq, D.v.injEq, D.tup.injEq, V0.one.injEq, C.p.injEq, P.bool.injEq, P.int.injEq, P.str.injEq, Bool.false_eq_true, Bool.true_eq_false, imp_false, Decidable.not_not, not_true_eq_false, not_false_eq_true]
  unfold lowK
  (repeat' (first | refine And.intro ?_ ?_ | intro _)) <;> first | omega | exact True.intro | exact False.elim ‹False› | skip
def lower__c (I : Alg) (args : List D) (hp : List HO) : Option CT := match args, hp with
  | [.v (.one (.p (.int .u8 k)))], [] => (fun (k : Int) => (some (.one ⟨I.hid (0 ≤ k ∧ k ≤ 255), (.ret (.v (.one (.p (.int .u8 (I.hid (lowK k))))))), []⟩) : Option CT)) k
  | _, _ => none
theorem lower__g : GoodC Tryz.prog 91 (lower__c alg) := by
  intro args hp r h
  unfold lower__c at h
  split at h
  · cases h; exact fun hn => lower_ _ hn
  · cases h
def lower__k : Know Tryz.prog := ⟨91, lower__c, lower__g⟩
def lower__l : Know Tryz.prog := ⟨91, fun I => lendC I (lower__c I), lendC_good lower__g⟩

theorem letter_ (k : Int) (hneed : 0 ≤ k ∧ k ≤ 255) : Spc Tryz.prog 121 [.v (.one (.p (.int .u8 k)))] [] (.ret (.v (.one (.p (.bool (letterB k)))))) [] := by
  refine spcG tab_ok mixed Tryz.func121 (by kernel_rfl) { keep := some [0, 2] } [lower__k, lower__l] (by kernel_rfl) ?_
  intro I X hI hX
  refine ev_rule (let y0 := I.hid (α := (Prop)) (And (LE.le (0 : Int) k) (LE.le k (255 : Int))); .need y0 (.br (I.ile 97 (I.hid (α := Int) (lowK k))) (.need y0 (.fin (.ret (.v (.one (.p (.bool (I.ile (I.hid (α := Int) (lowK k)) 122)))))) [])) (.fin (.ret (.v (.one (.p (.bool Bool.false))))) []))) (by kernel_rfl) ?_
  simp only [instL]
  subst hI
  simp only [nrmA, decide_eq_true_eq, decide_eq_false_iff_not, beq_iff_eq, beq_eq_false_iff_ne, Bool.not_eq_true', Bool.not_eq_false', Bool.and_eq_true, Bool.and_true, Bool.true_and, and_true, true_and, ne_eq, Int.toNat_zero, Nat.sub_zero, List.drop_zero, i64_min, i64_max, u8_min, u8_max, ofNat_b2i, b2i_inj, Int.toNat_natCast, Int.ofNat_eq_natCast, UInt8.ofNat_toNat, AOut.ret.injEq, D.v.injEq, D.tup.injEq, V0.one.injEq, C.p.injEq, P.bool.injEq, P.int.injEq, P.str.injEq, Bool.false_eq_true, Bool.true_eq_false, imp_false, Decidable.not_not, not_true_eq_false, not_false_eq_true]
  unfold letterB
  (repeat' (first | refine And.intro ?_ ?_ | intro _)) <;> first | omega | exact True.intro | exact False.elim ‹False› | skip
  all_goals first | exact decide_eq_decide.2 (by omega) | exact (decide_eq_false (by omega)).symm | exact (decide_eq_true (by omega)).symm | (rw [show (k == 127) = decide (k = 127) from rfl, ← decide_not]; exact decide_eq_decide.2 (by omega))
def letter__c (I : Alg) (args : List D) (hp : List HO) : Option CT := match args, hp with
  | [.v (.one (.p (.int .u8 k)))], [] => (fun (k : Int) => (some (.one ⟨I.hid (0 ≤ k ∧ k ≤ 255), (.ret (.v (.one (.p (.bool (I.hid (letterB k))))))), []⟩) : Option CT)) k
  | _, _ => none
theorem letter__g : GoodC Tryz.prog 121 (letter__c alg) := by
  intro args hp r h
  unfold letter__c at h
  split at h
  · cases h; exact fun hn => letter_ _ hn
  · cases h
def letter__k : Know Tryz.prog := ⟨121, letter__c, letter__g⟩
def letter__l : Know Tryz.prog := ⟨121, fun I => lendC I (letter__c I), lendC_good letter__g⟩

theorem token_ (k : Int) (hneed : 0 ≤ k ∧ k ≤ 255) : Spc Tryz.prog 90 [.v (.one (.p (.int .u8 k)))] [] (.ret (.v (.one (.p (.bool (tokB k)))))) [] := by
  refine spcG tab_ok mixed Tryz.func90 (by kernel_rfl) { keep := some [0, 2] } [indexByte__k, indexByte__l, digit__k, digit__l, letter__k, letter__l] (by kernel_rfl) ?_
  intro I X hI hX
  refine ev_rule (.need (I.hid (α := (Prop)) True) (.br (I.hid (α := Bool) (digitB k)) (.fin (.ret (.v (.one (.p (.bool Bool.true))))) []) (.need (I.hid (α := (Prop)) (And (LE.le (0 : Int) k) (LE.le k (255 : Int)))) (.br (I.hid (α := Bool) (letterB k)) (.fin (.ret (.v (.one (.p (.bool Bool.true))))) []) (.need (I.hid (α := (Prop)) True) (.fin (.ret (.v (.one (.p (.bool (I.ile 0 (I.hid (α := Int) (Go.Lib.indexByte (Array.toList (List.toArray ([33, 35, 36, 37, 38, 39, 42, 43, 45, 46, 94, 95, 96, 124, 126] : List UInt8))) (Nat.toUInt8 (Int.toNat k)))))))))) [])))))) (by kernel_rfl) ?_
  simp only [instL]
  subst hI
  simp only [nrmA, decide_eq_true_eq, decide_eq_false_iff_not, beq_iff_eq, beq_eq_false_iff_ne, Bool.not_eq_true', Bool.not_eq_false', Bool.and_eq_true, Bool.and_true, Bool.true_and, and_true, true_and, ne_eq, Int.toNat_zero, Nat.sub_zero, List.drop_zero, i64_min, i64_max, u8_min, u8_max, ofNat_b2i, b2i_inj, Int.toNat_natCast, Int.ofNat_eq_natCast, UInt8.ofNat_toNat, AOut.ret.injEq, D.v.injEq, D.tup.injEq, V0.one.injEq, C.p.injEq, P.bool.injEq, P.int.injEq, P.str.injEq, Bool.false_eq_true, Bool.true_eq_false, imp_false, Decidable.not_not, not_true_eq_false, not_false_eq_true]
  unfold tokB marks
  (repeat' (first | refine And.intro ?_ ?_ | intro _)) <;> first | omega | exact True.intro | exact False.elim ‹False› | skip
  all_goals simp [*]
def token__c (I : Alg) (args : List D) (hp : List HO) : Option CT := match args, hp with
  | [.v (.one (.p (.int .u8 k)))], [] => (fun (k : Int) => (some (.one ⟨I.hid (0 ≤ k ∧ k ≤ 255), (.ret (.v (.one (.p (.bool (I.hid (tokB k))))))), []⟩) : Option CT)) k
  | _, _ => none
theorem token__g : GoodC Tryz.prog 90 (token__c alg) := by
  intro args hp r h
  unfold token__c at h
  split at h
  · cases h; exact fun hn => token_ _ hn
  · cases h
def token__k : Know Tryz.prog := ⟨90, token__c, token__g⟩
def token__l : Know Tryz.prog := ⟨90, fun I => lendC I (token__c I), lendC_good token__g⟩

theorem visible_ (k : Int) : Spc Tryz.prog 81 [.v (.one (.p (.int .u8 k)))] [] (.ret (.v (.one (.p (.bool (seenB k)))))) [] := by
  refine spcG tab_ok mixed Tryz.func81 (by kernel_rfl) { keep := some [0, 2] } [] (by kernel_rfl) ?_
  intro I X hI hX
  refine ev_rule (.br (I.ieq k 9) (.fin (.ret (.v (.one (.p (.bool Bool.true))))) []) (.br (I.ile 32 k) (.fin (.ret (.v (.one (.p (.bool (I.bnot (I.ieq k 127))))))) []) (.fin (.ret (.v (.one (.p (.bool Bool.false))))) []))) (by kernel_rfl) ?_
  simp only [instL]
  subst hI
  simp only [nrmA, decide_eq_true_eq, decide_eq_false_iff_not, beq_iff_eq, beq_eq_false_iff_ne, Bool.not_eq_true', Bool.not_eq_false', Bool.and_eq_true, Bool.and_true, Bool.true_and, and_true, true_and, ne_eq, Int.toNat_zero, Nat.sub_zero, List.drop_zero, i64_min, i64_max, u8_min, u8_max, ofNat_b2i, b2i_inj, Int.toNat_natCast, Int.ofNat_eq_natCast, UInt8.ofNat_toNat, AOut.ret.injEq, D.v.injEq, D.tup.injEq, V0.one.injEq, C.p.injEq, P.bool.injEq, P.int.injEq, P.str.injEq, Bool.false_eq_true, Bool.true_eq_false, imp_false, Decidable.not_not, not_true_eq_false, not_false_eq_true]
  unfold seenB
  (repeat' (first | refine And.intro ?_ ?_ | intro _)) <;> first | omega | exact True.intro | exact False.elim ‹False› | skip
  all_goals first | exact decide_eq_decide.2 (by omega) | exact (decide_eq_false (by omega)).symm | exact (decide_eq_true (by omega)).symm | (rw [show (k == 127) = decide (k = 127) from rfl, ← decide_not]; exact decide_eq_decide.2 (by omega))
def visible__c (I : Alg) (args : List D) (hp : List HO) : Option CT := match args, hp with
  | [.v (.one (.p (.int .u8 k)))], [] => (fun (k : Int) => (some (.one ⟨I.hid (True), (.ret (.v (.one (.p (.bool (I.hid (seenB k))))))), []⟩) : Option CT)) k
  | _, _ => none
theorem visible__g : GoodC Tryz.prog 81 (visible__c alg) := by
  intro args hp r h
  unfold visible__c at h
  split at h
  · cases h; exact fun hn => visible_ _
  · cases h
def visible__k : Know Tryz.prog := ⟨81, visible__c, visible__g⟩
def visible__l : Know Tryz.prog := ⟨81, fun I => lendC I (visible__c I), lendC_good visible__g⟩

theorem isSeen_ (k : Int) : Spc Tryz.prog 87 [.v (.one (.p (.int .u8 k)))] [] (.ret (.v (.one (.p (.bool (seenB k)))))) [] := by
  refine spcG tab_ok mixed Tryz.func87 (by kernel_rfl) { keep := some [0, 2] } [] (by kernel_rfl) ?_
  intro I X hI hX
  refine ev_rule (.br (I.ieq k 9) (.fin (.ret (.v (.one (.p (.bool Bool.true))))) []) (.br (I.ilt 31 k) (.fin (.ret (.v (.one (.p (.bool (I.bnot (I.ieq k 127))))))) []) (.fin (.ret (.v (.one (.p (.bool Bool.false))))) []))) (by kernel_rfl) ?_
  simp only [instL]
  subst hI
  simp only [nrmA, decide_eq_true_eq, decide_eq_false_iff_not, beq_iff_eq, beq_eq_false_iff_ne, Bool.not_eq_true', Bool.not_eq_false', Bool.and_eq_true, Bool.and_true, Bool.true_and, and_true, true_and, ne_eq, Int.toNat_zero, Nat.sub_zero, List.drop_zero, i64_min, i64_max, u8_min, u8_max, ofNat_b2i, b2i_inj, Int.toNat_natCast, Int.ofNat_eq_natCast, UInt8.ofNat_toNat, AOut.ret.injEq, D.v.injEq, D.tup.injEq, V0.one.injEq, C.p.injEq, P.bool.injEq, P.int.injEq, P.str.injEq, Bool.false_eq_true, Bool.true_eq_false, imp_false, Decidable.not_not, not_true_eq_false, not_false_eq_true]
  unfold seenB
  (repeat' (first | refine And.intro ?_ ?_ | intro _)) <;> first | omega | exact True.intro | exact False.elim ‹False› | skip
  all_goals first | exact decide_eq_decide.2 (by omega) | exact (decide_eq_false (by omega)).symm | exact (decide_eq_true (by omega)).symm | (rw [show (k == 127) = decide (k = 127) from rfl, ← decide_not]; exact decide_eq_decide.2 (by omega))
def isSeen__c (I : Alg) (args : List D) (hp : List HO) : Option CT := match args, hp with
  | [.v (.one (.p (.int .u8 k)))], [] => (fun (k : Int) => (some (.one ⟨I.hid (True), (.ret (.v (.one (.p (.bool (I.hid (seenB k))))))), []⟩) : Option CT)) k
  | _, _ => none
theorem isSeen__g : GoodC Tryz.prog 87 (isSeen__c alg) := by
  intro args hp r h
  unfold isSeen__c at h
  split at h
  · cases h; exact fun hn => isSeen_ _
  · cases h
def isSeen__k : Know Tryz.prog := ⟨87, isSeen__c, isSeen__g⟩
def isSeen__l : Know Tryz.prog := ⟨87, fun I => lendC I (isSeen__c I), lendC_good isSeen__g⟩

end Go.Proofs.YtjapkdcomcgamaaGreatDoor
