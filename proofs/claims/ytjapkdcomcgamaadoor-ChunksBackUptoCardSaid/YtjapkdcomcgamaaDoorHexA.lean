/- A number's text to the base 16: the library's own walk. -/
import Derived.Test.YtjapkdcomcgamaaDoorLib
import Derived.Test.YtjapkdcomcgamaaDoorNum
import Derived.Lib.LaidTab
set_option linter.all false
namespace Go.Proofs.YtjapkdcomcgamaaDoor
open Go Go.Sep Go.Ab
set_option maxRecDepth 100000

theorem tz16 (w : World) (hcell : w.cell? ⟨4, 15, none⟩ = some (.int .u8 4)) : Calls Tryd.prog 163 #[.int .u64 16] w fun e w' => e = .returned (.int .i64 4) ∧ w' = w := by
  go_enter Tryd.func163, Tryd.ntmps163
  have key : IntKind.u64.wrap (bits BinOp.and IntKind.u64 16 (IntKind.u64.wrap (-16)) * 285870213051353865) / 288230376151711744 = 15 := by decide +kernel
  go_wp2_with (simp only [key])
  go_ret
  exact ⟨rfl, rfl⟩
theorem tz64_ (n : Int) (hneed : n = 16) : Spc Tryd.prog 163 [.v (.one (.p (.int .u64 n)))] [] (.ret (.v (.one (.p (.int .i64 4))))) [] := by
  refine Spc.of_below ⟨_, Tryd.func163, by kernel_rfl, by kernel_rfl⟩ fun S bs w vs hW hM => ?_
  obtain ⟨v, r, rfl⟩ : ∃ v r, vs = v :: r := by cases vs with | nil => exact hM.elim | cons v r => exact ⟨v, r, rfl⟩
  obtain ⟨h1, hM⟩ := hM
  obtain rfl : r = [] := by cases r with | nil => rfl | cons v r => exact hM.elim
  subst hneed
  cases h1 with
  | int _ _ =>
    refine ⟨.int .i64 4, .int _ _, (tz16 w ?_).mono fun e w' h => ⟨h.1, by rw [h.2]; exact .refl _ _⟩⟩
    exact Lib.TabIs.cell hW.2 (by kernel_rfl) 15 (by decide)
def tz64__c (I : Alg) (args : List D) (hp : List HO) : Option CT := match args, hp with
  | [.v (.one (.p (.int .u64 n)))], [] => (fun (n : Int) => (some (.one ⟨I.hid (n = 16), (.ret (.v (.one (.p (.int .i64 4))))), []⟩) : Option CT)) n
  | _, _ => none
theorem tz64__g : GoodC Tryd.prog 163 (tz64__c alg) := by
  intro args hp r h
  unfold tz64__c at h
  split at h
  · cases h; exact fun hn => tz64_ _ hn
  · cases h
def tz64__k : Know Tryd.prog := ⟨163, tz64__c, tz64__g⟩
def tz64__l : Know Tryd.prog := ⟨163, fun I => lendC I (tz64__c I), lendC_good tz64__g⟩
theorem tz_ (n : Int) (hneed : n = 16) : Spc Tryd.prog 155 [.v (.one (.p (.int .u64 n)))] [] (.ret (.v (.one (.p (.int .i64 4))))) [] := by
  refine spcG tab_ok mixed Tryd.func155 (by kernel_rfl) { keep := some [0, 2] } [tz64__k, tz64__l] (by kernel_rfl) ?_
  intro I X hI hX
  refine ev_rule (.need (I.hid (α := (Prop)) (Eq n (16 : Int))) (.fin (.ret (.v (.one (.p (.int .i64 4))))) [])) (by kernel_rfl) ?_
  simp only [inst_need, inst_br, inst_both, inst_fin, inst_qed, inst_stop, inst_code]
  subst hI
  simp only [alg_b2i, alg_i2b, alg_add, alg_sub, alg_mul, alg_quo, alg_rem, alg_wrap, alg_imin, alg_imax, alg_ilt, alg_ile, alg_ieq, alg_bnot, alg_beq, alg_ban, alg_seq, alg_len, alg_app, alg_cut, alg_get, alg_set, alg_rep, alg_inr, alg_inb, alg_cutb, alg_same, alg_few, alg_nne, alg_nng, alg_hid, alg_shl, alg_shr, alg_bits, decide_eq_true_eq, decide_eq_false_iff_not, beq_iff_eq, beq_eq_false_iff_ne, Bool.not_eq_true', Bool.not_eq_false', Bool.and_eq_true, Bool.and_true, Bool.true_and, and_true, true_and, ne_eq, Int.toNat_zero, Nat.sub_zero, List.drop_zero, i64_min, i64_max, u8_min, u8_max, ofNat_b2i, b2i_inj, Int.toNat_natCast, Int.ofNat_eq_natCast, UInt8.ofNat_toNat, AOut.ret.injEq, D.v.injEq, D.tup.injEq, V0.one.injEq, C.p.injEq, P.bool.injEq, P.int.injEq, P.str.injEq, Bool.false_eq_true, Bool.true_eq_false, imp_false, Decidable.not_not, not_true_eq_false, not_false_eq_true, List.cons.injEq, P.list.injEq, HO.row.injEq, heq_eq_eq, reduceCtorEq, false_and, and_false]
  subst hneed
  decide
def tz__c (I : Alg) (args : List D) (hp : List HO) : Option CT := match args, hp with
  | [.v (.one (.p (.int .u64 n)))], [] => (fun (n : Int) => (some (.one ⟨I.hid (n = 16), (.ret (.v (.one (.p (.int .i64 4))))), []⟩) : Option CT)) n
  | _, _ => none
theorem tz__g : GoodC Tryd.prog 155 (tz__c alg) := by
  intro args hp r h
  unfold tz__c at h
  split at h
  · cases h; exact fun hn => tz_ _ hn
  · cases h
def tz__k : Know Tryd.prog := ⟨155, tz__c, tz__g⟩
def tz__l : Know Tryd.prog := ⟨155, fun I => lendC I (tz__c I), lendC_good tz__g⟩
theorem pow2_ (n : Int) (hneed : n = 16) : Spc Tryd.prog 154 [.v (.one (.p (.int .i64 n)))] [] (.ret (.v (.one (.p (.bool ((decide (n = 16)))))))) [] := by
  have hd : decide (n = 16) = true := decide_eq_true hneed
  generalize decide (n = 16) = b at *
  refine spcG tab_ok mixed Tryd.func154 (by kernel_rfl) { keep := some [0, 2] } [] (by kernel_rfl) ?_
  intro I X hI hX
  refine ev_rule (.need (I.inr Go.IntKind.i64 (I.sub n 1)) (.fin (.ret (.v (.one (.p (.bool (I.ieq (I.bits Go.BinOp.and Go.IntKind.i64 n (I.sub n 1)) 0)))))) [])) (by kernel_rfl) ?_
  simp only [inst_need, inst_br, inst_both, inst_fin, inst_qed, inst_stop, inst_code]
  subst hI
  simp only [alg_b2i, alg_i2b, alg_add, alg_sub, alg_mul, alg_quo, alg_rem, alg_wrap, alg_imin, alg_imax, alg_ilt, alg_ile, alg_ieq, alg_bnot, alg_beq, alg_ban, alg_seq, alg_len, alg_app, alg_cut, alg_get, alg_set, alg_rep, alg_inr, alg_inb, alg_cutb, alg_same, alg_few, alg_nne, alg_nng, alg_hid, alg_shl, alg_shr, alg_bits, decide_eq_true_eq, decide_eq_false_iff_not, beq_iff_eq, beq_eq_false_iff_ne, Bool.not_eq_true', Bool.not_eq_false', Bool.and_eq_true, Bool.and_true, Bool.true_and, and_true, true_and, ne_eq, Int.toNat_zero, Nat.sub_zero, List.drop_zero, i64_min, i64_max, u8_min, u8_max, ofNat_b2i, b2i_inj, Int.toNat_natCast, Int.ofNat_eq_natCast, UInt8.ofNat_toNat, AOut.ret.injEq, D.v.injEq, D.tup.injEq, V0.one.injEq, C.p.injEq, P.bool.injEq, P.int.injEq, P.str.injEq, Bool.false_eq_true, Bool.true_eq_false, imp_false, Decidable.not_not, not_true_eq_false, not_false_eq_true, List.cons.injEq, P.list.injEq, HO.row.injEq, heq_eq_eq, reduceCtorEq, false_and, and_false]
  subst hneed
  subst hd
  exact ⟨by decide, by decide +kernel⟩
def pow2__c (I : Alg) (args : List D) (hp : List HO) : Option CT := match args, hp with
  | [.v (.one (.p (.int .i64 n)))], [] => (fun (n : Int) => (some (.one ⟨I.hid (n = 16), (.ret (.v (.one (.p (.bool (I.hid ((decide (n = 16))))))))), []⟩) : Option CT)) n
  | _, _ => none
theorem pow2__g : GoodC Tryd.prog 154 (pow2__c alg) := by
  intro args hp r h
  unfold pow2__c at h
  split at h
  · cases h; exact fun hn => pow2_ _ hn
  · cases h
def pow2__k : Know Tryd.prog := ⟨154, pow2__c, pow2__g⟩
def pow2__l : Know Tryd.prog := ⟨154, fun I => lendC I (pow2__c I), lendC_good pow2__g⟩

theorem share1 {R Q : Prop} (h1 : R → Q) (h2 : R) : Q := h1 h2
theorem and15 {u : Nat} (h : u < 18446744073709551616) : alg.bits .and .u64 (u : Int) 15 = ((u % 16 : Nat) : Int) := by
  have h1 : (BitVec.ofInt 64 (u : Int)).toNat = u := by
    rw [BitVec.ofInt_natCast, BitVec.toNat_ofNat]; exact Nat.mod_eq_of_lt (by omega)
  have h2 : (BitVec.ofInt 64 (15 : Int)).toNat = 15 := by decide
  have h3 : u &&& 15 = u % 16 := Nat.and_two_pow_sub_one_eq_mod u 4
  show IntKind.u64.wrap ((BitVec.ofInt 64 (u : Int) &&& BitVec.ofInt 64 (15 : Int)).toNat : Int) = _
  rw [BitVec.toNat_and, h1, h2, h3, IntKind.wrap_u64]
  omega
def dig36 : Str := [48, 49, 50, 51, 52, 53, 54, 55, 56, 57, 97, 98, 99, 100, 101, 102, 103, 104, 105, 106, 107, 108, 109, 110, 111, 112, 113, 114, 115, 116, 117, 118, 119, 120, 121, 122]
theorem dig36_get {d : Nat} (h : d < 16) : dig36.getD d 0 = dgN d := (by decide +kernel : ∀ d : Fin 16, dig36.getD d.1 0 = dgN d.1) ⟨d, h⟩

/-- A number below 65536 to the base 16. -/
def hexS (n : Int) : Str := txtN 16 4 n.toNat
set_option maxHeartbeats 4000000 in
theorem fmtBits_ (n : Int) (b : Bool) (hneed : (0 ≤ n ∧ n < 65536) ∧ b = false) : Spc Tryd.prog 138 [.v (.one (.p (.list .byte ([])))), .v (.one (.p (.int .u64 n))), .v (.one (.p (.int .i64 16))), .v (.one (.p (.bool b))), .v (.one (.p (.bool false)))] [] (.ret (.tup [(.one (.row 0)), (.one (.p (.str ((hexS n)))))])) [.row .byte 5 ([])] := by
  obtain ⟨⟨hn0, hn1⟩, rfl⟩ := hneed
  obtain ⟨n, rfl⟩ : ∃ m : Nat, n = m := ⟨n.toNat, by omega⟩
  generalize hr : hexS (n : Int) = r
  refine spcG tab_ok mixed Tryd.func138 (by kernel_rfl) { arr := [179], keep := some [0, 1, 2, 3, 4, 10, 11, 12, 13, 14, 15, 16, 17, 18] } [tz__k, tz__l, pow2__k, pow2__l] (by kernel_rfl) ?_
  intro I X hI hX
  refine ev_rule (let y0 := I.sub (I.wrap Go.IntKind.u64 16) 1; let y1 := I.hid (α := Bool) (Decidable.decide (Eq (16 : Int) (16 : Int))); let y2 := I.hid (α := (Prop)) (Eq (I.wrap Go.IntKind.u64 16) (16 : Int)); let y3 := I.hid (α := (Prop)) (Eq (16 : Int) (16 : Int)); .br (I.ilt 16 2) (.fin (.pan (.ifc 9 .false [(.str (Array.toList (List.toArray ([115, 116, 114, 99, 111, 110, 118, 58, 32, 105, 108, 108, 101, 103, 97, 108, 32, 65, 112, 112, 101, 110, 100, 73, 110, 116, 47, 70, 111, 114, 109, 97, 116, 73, 110, 116, 32, 98, 97, 115, 101] : List UInt8))))])) []) (.br (I.ieq 16 10) (.fin (.pan (.ifc 9 .false [(.str (Array.toList (List.toArray ([115, 116, 114, 99, 111, 110, 118, 58, 32, 105, 108, 108, 101, 103, 97, 108, 32, 65, 112, 112, 101, 110, 100, 73, 110, 116, 47, 70, 111, 114, 109, 97, 116, 73, 110, 116, 32, 98, 97, 115, 101] : List UInt8))))])) []) (.br (I.ilt 36 16) (.fin (.pan (.ifc 9 .false [(.str (Array.toList (List.toArray ([115, 116, 114, 99, 111, 110, 118, 58, 32, 105, 108, 108, 101, 103, 97, 108, 32, 65, 112, 112, 101, 110, 100, 73, 110, 116, 47, 70, 111, 114, 109, 97, 116, 73, 110, 116, 32, 98, 97, 115, 101] : List UInt8))))])) []) (.br Bool.false (.need (I.inr Go.IntKind.u64 (I.sub 0 (Nat.cast n))) (.need y3 (.br y1 (.need y2 (.need (I.inr Go.IntKind.u64 y0) (.code 0 [1, 1, 1, 1, 1, 0, 1, 0, 1, 1, 1, 0, 0] ⟨[(16, (.v (.one (.p (.int .u64 y0))))), (15, (.v (.one (.p (.int .u64 (I.wrap Go.IntKind.u64 16)))))), (14, (.v (.one (.p (.int .u64 (I.wrap Go.IntKind.u64 4)))))), (1, (.v (.one (.p (.int .u64 (I.sub 0 (Nat.cast n))))))), (13, (.v (.one (.p (.int .i64 65))))), (12, (.v (.one (.ept .byte 0 0 0)))), (11, (.v (.one (.p (.str (Array.toList (List.toArray ([] : List UInt8)))))))), (10, (.v (.one .nilS))), (0, (.v (.one (.p (.list .byte ([] : List UInt8)))))), (2, (.v (.one (.p (.int .i64 16))))), (3, (.v (.one (.p (.bool Bool.false))))), (4, (.v (.one (.p (.bool Bool.false)))))], [(.row .byte 179 (I.rep (α := UInt8) 65 (I.i2b 0)))], 102⟩))) (.code 0 [1, 1, 1, 1, 1, 0, 1, 1, 1, 0, 0] ⟨[(17, (.v (.one (.p (.int .u64 (I.wrap Go.IntKind.u64 16)))))), (1, (.v (.one (.p (.int .u64 (I.sub 0 (Nat.cast n))))))), (13, (.v (.one (.p (.int .i64 65))))), (12, (.v (.one (.ept .byte 0 0 0)))), (11, (.v (.one (.p (.str (Array.toList (List.toArray ([] : List UInt8)))))))), (10, (.v (.one .nilS))), (0, (.v (.one (.p (.list .byte ([] : List UInt8)))))), (2, (.v (.one (.p (.int .i64 16))))), (3, (.v (.one (.p (.bool Bool.false))))), (4, (.v (.one (.p (.bool Bool.false)))))], [(.row .byte 179 (I.rep (α := UInt8) 65 (I.i2b 0)))], 102⟩)))) (.need y3 (.br y1 (.need y2 (.need (I.inr Go.IntKind.u64 y0) (.code 0 [1, 1, 1, 1, 1, 0, 1, 0, 1, 1, 1, 0, 0] ⟨[(16, (.v (.one (.p (.int .u64 y0))))), (15, (.v (.one (.p (.int .u64 (I.wrap Go.IntKind.u64 16)))))), (14, (.v (.one (.p (.int .u64 (I.wrap Go.IntKind.u64 4)))))), (13, (.v (.one (.p (.int .i64 65))))), (12, (.v (.one (.ept .byte 0 0 0)))), (11, (.v (.one (.p (.str (Array.toList (List.toArray ([] : List UInt8)))))))), (10, (.v (.one .nilS))), (0, (.v (.one (.p (.list .byte ([] : List UInt8)))))), (1, (.v (.one (.p (.int .u64 (Nat.cast n)))))), (2, (.v (.one (.p (.int .i64 16))))), (3, (.v (.one (.p (.bool Bool.false))))), (4, (.v (.one (.p (.bool Bool.false)))))], [(.row .byte 179 (I.rep (α := UInt8) 65 (I.i2b 0)))], 102⟩))) (.code 0 [1, 1, 1, 1, 1, 0, 1, 1, 1, 0, 0] ⟨[(17, (.v (.one (.p (.int .u64 (I.wrap Go.IntKind.u64 16)))))), (13, (.v (.one (.p (.int .i64 65))))), (12, (.v (.one (.ept .byte 0 0 0)))), (11, (.v (.one (.p (.str (Array.toList (List.toArray ([] : List UInt8)))))))), (10, (.v (.one .nilS))), (0, (.v (.one (.p (.list .byte ([] : List UInt8)))))), (1, (.v (.one (.p (.int .u64 (Nat.cast n)))))), (2, (.v (.one (.p (.int .i64 16))))), (3, (.v (.one (.p (.bool Bool.false))))), (4, (.v (.one (.p (.bool Bool.false)))))], [(.row .byte 179 (I.rep (α := UInt8) 65 (I.i2b 0)))], 102⟩))))))) (by kernel_rfl) ?_
  simp only [inst_need, inst_br, inst_both, inst_fin, inst_qed, inst_stop, inst_code]
  have w16 : I.wrap .u64 16 = 16 := by subst hI; decide
  have w4 : I.wrap .u64 4 = 4 := by subst hI; decide
  have s15 : I.sub 16 1 = 15 := by subst hI; rfl
  have hrep : I.rep 65 (I.i2b 0) = List.replicate 65 0 := by subst hI; rfl
  simp only [w16, w4, s15]
  apply share1
  · intro key
    (repeat' (first | refine And.intro ?_ ?_ | intro _))
    all_goals first
      | (clear key; exact absurd ‹false = true› (by decide))
      | (rw [hrep]
         refine loop_inv hI tab_ok mixed [tz__k, tz__l, pow2__k, pow2__l] hX [1, 3, 4, 10, 12, 13, 14, 15, 16] (fun (g : Nat × Nat × Str) => match g with | (k, u, a) => k ≤ 3 ∧ u < 16 ^ (4 - k) ∧ a.length = 65 ∧ txtN 16 (4 - k) u ++ a.drop (65 - k) = r) (fun (g : Nat × Nat × Str) => match g with | (k, u, a) => ⟨[(1, .v (.one (.p (.int .u64 u)))), (3, .v (.one (.p (.bool false)))), (4, .v (.one (.p (.bool false)))), (10, .v (.one .nilS)), (12, .v (.one (.ept .byte 0 0 0))), (13, .v (.one (.p (.int .i64 ((65 - (k : Int))))))), (14, .v (.one (.p (.int .u64 4)))), (15, .v (.one (.p (.int .u64 16)))), (16, .v (.one (.p (.int .u64 15))))], [.row .byte 179 a], 102⟩) (fun (g : Nat × Nat × Str) => match g with | (k, u, a) => u) (0, n, List.replicate 65 0) (by kernel_rfl) (by kernel_rfl) ?_ ?_
         · clear key; exact ⟨by decide, by show n < 65536; omega, by simp, by rw [← hr]; simp [hexS]⟩
         exact key)
      | (exfalso; rename_i h; (try rw [hI] at h); revert h; decide)
      | (clear key hrep hr; subst hI; (simp only [alg_b2i, alg_i2b, alg_add, alg_sub, alg_mul, alg_quo, alg_rem, alg_wrap, alg_imin, alg_imax, alg_ilt, alg_ile, alg_ieq, alg_bnot, alg_beq, alg_ban, alg_seq, alg_len, alg_app, alg_cut, alg_get, alg_set, alg_rep, alg_inr, alg_inb, alg_cutb, alg_same, alg_few, alg_nne, alg_nng, alg_hid, alg_shl, alg_shr, alg_bits, decide_eq_true_eq, decide_eq_false_iff_not, beq_iff_eq, beq_eq_false_iff_ne, Bool.not_eq_true', Bool.not_eq_false', Bool.and_eq_true, Bool.and_true, Bool.true_and, and_true, true_and, ne_eq, Int.toNat_zero, Nat.sub_zero, List.drop_zero, i64_min, i64_max, u8_min, u8_max, ofNat_b2i, b2i_inj, Int.toNat_natCast, Int.ofNat_eq_natCast, UInt8.ofNat_toNat, AOut.ret.injEq, D.v.injEq, D.tup.injEq, V0.one.injEq, C.p.injEq, P.bool.injEq, P.int.injEq, P.str.injEq, Bool.false_eq_true, Bool.true_eq_false, imp_false, Decidable.not_not, not_true_eq_false, not_false_eq_true, List.cons.injEq, P.list.injEq, HO.row.injEq, heq_eq_eq, reduceCtorEq, false_and, and_false]); first | done | exact True.intro | omega | exact ⟨by decide, by decide⟩)
      | trace_state
  rintro ⟨k, u, a⟩ ⟨h1, h2, h3, h4⟩ A hA
  simp only at hA h1 h2 h3 h4
  refine ev_rule (let y1 := I.sub (HSub.hSub (65 : Int) (Nat.cast k)) 1; let y0 := I.set (α := UInt8) a y1 (I.i2b (I.b2i (I.get (α := UInt8) (Array.toList (List.toArray ([48, 49, 50, 51, 52, 53, 54, 55, 56, 57, 97, 98, 99, 100, 101, 102, 103, 104, 105, 106, 107, 108, 109, 110, 111, 112, 113, 114, 115, 116, 117, 118, 119, 120, 121, 122] : List UInt8))) 0 (Nat.cast u)))); let y2 := I.b2i (I.get (α := UInt8) (Array.toList (List.toArray ([48, 49, 50, 51, 52, 53, 54, 55, 56, 57, 97, 98, 99, 100, 101, 102, 103, 104, 105, 106, 107, 108, 109, 110, 111, 112, 113, 114, 115, 116, 117, 118, 119, 120, 121, 122] : List UInt8))) 0 (I.bits Go.BinOp.and Go.IntKind.u64 (Nat.cast u) 15)); let y3 := I.len (α := UInt8) (Array.toList (List.toArray ([48, 49, 50, 51, 52, 53, 54, 55, 56, 57, 97, 98, 99, 100, 101, 102, 103, 104, 105, 106, 107, 108, 109, 110, 111, 112, 113, 114, 115, 116, 117, 118, 119, 120, 121, 122] : List UInt8))); let y4 := I.set (α := UInt8) y0 (I.sub y1 1) (I.i2b 45); .br (I.ile 16 (Nat.cast u)) (.need (I.inr Go.IntKind.i64 y1) (.need (I.inb (I.bits Go.BinOp.and Go.IntKind.u64 (Nat.cast u) 15) y3) (.need (I.inb y1 65) (.need (I.inr Go.IntKind.u8 y2) (.need (I.inb y1 (I.len (α := UInt8) a)) (.need (I.nng 4) (.need (I.few 4 64) (.need (I.few 4 (Nat.cast (Go.IntKind.bits Go.IntKind.u64))) (.need (A ⟨[(1, (.v (.one (.p (.int .u64 (I.shr (Nat.cast u) 4)))))), (3, (.v (.one (.p (.bool Bool.false))))), (4, (.v (.one (.p (.bool Bool.false))))), (10, (.v (.one .nilS))), (12, (.v (.one (.ept .byte 0 0 0)))), (13, (.v (.one (.p (.int .i64 y1))))), (14, (.v (.one (.p (.int .u64 4))))), (15, (.v (.one (.p (.int .u64 16))))), (16, (.v (.one (.p (.int .u64 15)))))], [(.row .byte 179 (I.set (α := UInt8) a y1 (I.i2b y2)))], 102⟩) .qed))))))))) (.need (I.inr Go.IntKind.i64 y1) (.need (I.inb (Nat.cast u) y3) (.need (I.inb y1 65) (.need (I.inr Go.IntKind.u8 (I.b2i (I.get (α := UInt8) (Array.toList (List.toArray ([48, 49, 50, 51, 52, 53, 54, 55, 56, 57, 97, 98, 99, 100, 101, 102, 103, 104, 105, 106, 107, 108, 109, 110, 111, 112, 113, 114, 115, 116, 117, 118, 119, 120, 121, 122] : List UInt8))) 0 (Nat.cast u)))) (.need (I.inb y1 (I.len (α := UInt8) a)) (.br Bool.false (.need (I.inr Go.IntKind.i64 (I.sub y1 1)) (.need (I.inb (I.sub y1 1) 65) (.need (I.inr Go.IntKind.u8 45) (.need (I.inb (I.sub y1 1) (I.len (α := UInt8) y0)) (.br Bool.false (.stop 0) (.need (I.cutb (I.sub y1 1) 65 65) (.need (I.same (α := Int) (I.len (α := UInt8) y4) 65) (.fin (.ret (.tup [(.one (.row 0)), (.one (.p (.str (I.cut (α := UInt8) y4 (I.sub y1 1) 65))))])) [(.row .byte 5 ([] : List UInt8))])))))))) (.br Bool.false (.stop 0) (.need (I.cutb y1 65 65) (.need (I.same (α := Int) (I.len (α := UInt8) y0) 65) (.fin (.ret (.tup [(.one (.row 0)), (.one (.p (.str (I.cut (α := UInt8) y0 y1 65))))])) [(.row .byte 5 ([] : List UInt8))]))))))))))) (by kernel_rfl) ?_
  simp only [inst_need, inst_br, inst_both, inst_fin, inst_qed, inst_stop, inst_code]
  subst hI
  have hu : u < 65536 := Nat.lt_of_lt_of_le h2 (Nat.pow_le_pow_right (by decide) (by omega) : 16 ^ (4 - k) ≤ 16 ^ 4)
  simp only [and15 (show u < 18446744073709551616 by omega)]
  obtain ⟨f, hf⟩ : ∃ f, 4 - k = f + 1 := ⟨3 - k, by omega⟩
  rw [hf] at h2 h4
  have hm : u % 16 < 16 := Nat.mod_lt _ (by decide)
  have hge : 16 ≤ u → 0 < f ∧ u / 16 < 16 ^ f ∧ txtN 16 f (u / 16) ++ [dgN (u % 16)] ++ a.drop (65 - k) = r := fun h => by
    rw [txtN_more (by omega)] at h4
    refine ⟨?_, Nat.div_lt_of_lt_mul (by rw [Nat.pow_succ, Nat.mul_comm] at h2; exact h2), h4⟩
    rcases Nat.eq_zero_or_pos f with h0 | h0
    · subst h0; simp at h2; omega
    · exact h0
  have hlt : ¬ 16 ≤ u → dgN u :: a.drop (65 - k) = r := fun h => by
    rw [txtN_one (by omega)] at h4; exact h4
  have hset : ∀ d : UInt8, (a.set (64 - k) d).drop (64 - k) = d :: a.drop (65 - k) := fun d => by
    rw [List.drop_set, if_neg (by omega), Nat.sub_self, List.drop_eq_getElem_cons (by omega), List.set_cons_zero]
    congr 2
    omega
  have hdg : ([48, 49, 50, 51, 52, 53, 54, 55, 56, 57, 97, 98, 99, 100, 101, 102, 103, 104, 105, 106, 107, 108, 109, 110, 111, 112, 113, 114, 115, 116, 117, 118, 119, 120, 121, 122] : Str) = dig36 := rfl
  have hdl : dig36.length = 36 := rfl
  have hfd : (u : Int).fdiv (2 ^ 4) = ((u / 16 : Nat) : Int) := by rw [Int.fdiv_eq_ediv_of_nonneg _ (by decide)]; rfl
  have h64 : (65 - (k : Int) - 1).toNat = 64 - k := by omega
  have hB := fun (h : 16 ≤ u) => hA (k + 1, u / 16, a.set (64 - k) (dgN (u % 16))) ⟨by simp only; have := (hge h).1; omega, by simp only; rw [show 4 - (k + 1) = f by omega]; exact (hge h).2.1, by simp only; rw [List.length_set]; exact h3, by simp only; rw [show 4 - (k + 1) = f by omega, show 65 - (k + 1) = 64 - k by omega, hset, ← (hge h).2.2, List.append_assoc]; rfl⟩ (by simp only; omega)
  clear hA
  simp only [alg_b2i, alg_i2b, alg_add, alg_sub, alg_mul, alg_quo, alg_rem, alg_wrap, alg_imin, alg_imax, alg_ilt, alg_ile, alg_ieq, alg_bnot, alg_beq, alg_ban, alg_seq, alg_len, alg_app, alg_cut, alg_get, alg_set, alg_rep, alg_inr, alg_inb, alg_cutb, alg_same, alg_few, alg_nne, alg_nng, alg_hid, alg_shl, alg_shr, alg_bits, decide_eq_true_eq, decide_eq_false_iff_not, beq_iff_eq, beq_eq_false_iff_ne, Bool.not_eq_true', Bool.not_eq_false', Bool.and_eq_true, Bool.and_true, Bool.true_and, and_true, true_and, ne_eq, Int.toNat_zero, Nat.sub_zero, List.drop_zero, i64_min, i64_max, u8_min, u8_max, ofNat_b2i, b2i_inj, Int.toNat_natCast, Int.ofNat_eq_natCast, UInt8.ofNat_toNat, AOut.ret.injEq, D.v.injEq, D.tup.injEq, V0.one.injEq, C.p.injEq, P.bool.injEq, P.int.injEq, P.str.injEq, Bool.false_eq_true, Bool.true_eq_false, imp_false, Decidable.not_not, not_true_eq_false, not_false_eq_true, List.cons.injEq, P.list.injEq, HO.row.injEq, heq_eq_eq, reduceCtorEq, false_and, and_false]
  simp only [hdg, hdl, Int.toNat_natCast, UInt8.ofNat_toNat]
  have hg1 := dig36_get hm
  have hg2 := fun h : ¬ 16 ≤ u => dig36_get (d := u) (by omega)
  have hbits : IntKind.u64.bits = 64 := rfl
  have hmin : min (Int.toNat 4) 64 = 4 := rfl
  rw [hg1, h64, hbits, hmin, hfd]
  have hd0 := (dgN (u % 16)).toNat_lt
  have hd1 := (dgN u).toNat_lt
  have e1 : (65 - (k : Int) - 1) = 65 - ((k + 1 : Nat) : Int) := by omega
  refine ⟨fun h => ⟨by omega, by omega, by omega, by omega, by omega, by omega, by omega, by omega, ?_⟩, fun h => ?_⟩
  · rw [e1]
    exact hB (by omega)
  · rw [hg2 (by omega)]
    have hlt := hlt (by omega)
    have hset := hset (dgN u)
    simp only [List.length_set, h3]
    refine ⟨by omega, by omega, by omega, by omega, by omega, fun h => h.elim, fun _ _ => ⟨by omega, by omega, ?_⟩⟩
    rw [hset, hlt]
    refine List.take_of_length_le ?_
    rw [← hlt, List.length_cons, List.length_drop]
    have : Int.toNat 65 = 65 := rfl
    omega
def fmtBits__c (I : Alg) (args : List D) (hp : List HO) : Option CT := match args, hp with
  | [.v (.one (.p (.list .byte ([])))), .v (.one (.p (.int .u64 n))), .v (.one (.p (.int .i64 16))), .v (.one (.p (.bool b))), .v (.one (.p (.bool false)))], [] => (fun (n : Int) (b : Bool) => (some (.one ⟨I.hid ((0 ≤ n ∧ n < 65536) ∧ b = false), (.ret (.tup [(.one (.row 0)), (.one (.p (.str (I.hid ((hexS n))))))])), [.row .byte 5 (I.hid ([]))]⟩) : Option CT)) n b
  | _, _ => none
theorem fmtBits__g : GoodC Tryd.prog 138 (fmtBits__c alg) := by
  intro args hp r h
  unfold fmtBits__c at h
  split at h
  · cases h; exact fun hn => fmtBits_ _ _ hn
  · cases h
def fmtBits__k : Know Tryd.prog := ⟨138, fmtBits__c, fmtBits__g⟩
def fmtBits__l : Know Tryd.prog := ⟨138, fun I => lendC I (fmtBits__c I), lendC_good fmtBits__g⟩
theorem hexS_len (n : Int) : (hexS n).length ≤ 4 := txtN_len 16 4 _
/-- What is never called here. -/
def never_c (I : Alg) (_ : List D) (hp : List HO) : Option CT := some (.one ⟨I.hid False, .pan (.p (.bool true)), hp⟩)
theorem never_g {f : Nat} : GoodC Tryd.prog f (never_c alg) := by
  intro args hp r h
  cases h
  exact fun hn => (hn : False).elim
def small_n : Know Tryd.prog := ⟨135, never_c, never_g⟩
def digits_n : Know Tryd.prog := ⟨136, never_c, never_g⟩
theorem fmtI_ (n : Int) (hneed : 0 ≤ n ∧ n < 65536) : Spc Tryd.prog 116 [.v (.one (.p (.int .i64 n))), .v (.one (.p (.int .i64 16)))] [] (.ret (.v (.one (.p (.str ((hexS n))))))) [] := by
  generalize hr : hexS n = r
  refine spcG tab_ok mixed Tryd.func116 (by kernel_rfl) { keep := some [0, 1, 4, 5, 6, 7, 9] } [small_n, digits_n, fmtBits__k, fmtBits__l] (by kernel_rfl) ?_
  intro I X hI hX
  refine ev_rule (let y0 := I.inr Go.IntKind.u64 (I.sub 0 (I.wrap Go.IntKind.u64 n)); .br (I.ieq 16 10) (.br (I.ile 0 n) (.br (I.ilt n 100) (.need (I.hid (α := (Prop)) False) (.fin (.pan (.p (.bool Bool.true))) [])) (.br (I.ilt n 0) (.need y0 (.need (I.hid (α := (Prop)) False) (.fin (.pan (.p (.bool Bool.true))) []))) (.need (I.hid (α := (Prop)) False) (.fin (.pan (.p (.bool Bool.true))) [])))) (.br (I.ilt n 0) (.need y0 (.need (I.hid (α := (Prop)) False) (.fin (.pan (.p (.bool Bool.true))) []))) (.need (I.hid (α := (Prop)) False) (.fin (.pan (.p (.bool Bool.true))) [])))) (.need (I.hid (α := (Prop)) (And (And (LE.le (0 : Int) (I.wrap Go.IntKind.u64 n)) (LT.lt (I.wrap Go.IntKind.u64 n) (65536 : Int))) (Eq (I.ilt n 0) Bool.false))) (.fin (.ret (.v (.one (.p (.str (I.hid (α := (List UInt8)) (hexS (I.wrap Go.IntKind.u64 n)))))))) []))) (by kernel_rfl) ?_
  simp only [inst_need, inst_br, inst_both, inst_fin, inst_qed, inst_stop, inst_code]
  subst hI
  have hw : IntKind.u64.wrap n = n := wrap_id (k := .u64) (by rw [alg_inr]; exact ⟨by show (0 : Int) ≤ n; omega, by show n ≤ 18446744073709551615; omega⟩)
  simp only [alg_b2i, alg_i2b, alg_add, alg_sub, alg_mul, alg_quo, alg_rem, alg_wrap, alg_imin, alg_imax, alg_ilt, alg_ile, alg_ieq, alg_bnot, alg_beq, alg_ban, alg_seq, alg_len, alg_app, alg_cut, alg_get, alg_set, alg_rep, alg_inr, alg_inb, alg_cutb, alg_same, alg_few, alg_nne, alg_nng, alg_hid, alg_shl, alg_shr, alg_bits, decide_eq_true_eq, decide_eq_false_iff_not, beq_iff_eq, beq_eq_false_iff_ne, Bool.not_eq_true', Bool.not_eq_false', Bool.and_eq_true, Bool.and_true, Bool.true_and, and_true, true_and, ne_eq, Int.toNat_zero, Nat.sub_zero, List.drop_zero, i64_min, i64_max, u8_min, u8_max, ofNat_b2i, b2i_inj, Int.toNat_natCast, Int.ofNat_eq_natCast, UInt8.ofNat_toNat, AOut.ret.injEq, D.v.injEq, D.tup.injEq, V0.one.injEq, C.p.injEq, P.bool.injEq, P.int.injEq, P.str.injEq, Bool.false_eq_true, Bool.true_eq_false, imp_false, Decidable.not_not, not_true_eq_false, not_false_eq_true, List.cons.injEq, P.list.injEq, HO.row.injEq, heq_eq_eq, reduceCtorEq, false_and, and_false]
  rw [hw]
  (repeat' (first | refine And.intro ?_ ?_ | intro _)) <;> first | omega | exact True.intro | exact False.elim ‹False› | skip
  all_goals first
    | exact hr
    | trace_state
def fmtI__c (I : Alg) (args : List D) (hp : List HO) : Option CT := match args, hp with
  | [.v (.one (.p (.int .i64 n))), .v (.one (.p (.int .i64 16)))], [] => (fun (n : Int) => (some (.one ⟨I.hid (0 ≤ n ∧ n < 65536), (.ret (.v (.one (.p (.str (I.hid ((hexS n)))))))), []⟩) : Option CT)) n
  | _, _ => none
theorem fmtI__g : GoodC Tryd.prog 116 (fmtI__c alg) := by
  intro args hp r h
  unfold fmtI__c at h
  split at h
  · cases h; exact fun hn => fmtI_ _ hn
  · cases h
def fmtI__k : Know Tryd.prog := ⟨116, fmtI__c, fmtI__g⟩
def fmtI__l : Know Tryd.prog := ⟨116, fun I => lendC I (fmtI__c I), lendC_good fmtI__g⟩
theorem fmtInt_ (n : Int) (hneed : 0 ≤ n ∧ n < 65536) : Spc Tryd.prog 95 [.v (.one (.p (.int .i64 n))), .v (.one (.p (.int .i64 16)))] [] (.ret (.v (.one (.p (.str ((hexS n))))))) [] := by
  generalize hr : hexS n = r
  refine spcG tab_ok mixed Tryd.func95 (by kernel_rfl) { keep := some [0, 1, 4] } [fmtI__k, fmtI__l] (by kernel_rfl) ?_
  intro I X hI hX
  refine ev_rule (.need (I.hid (α := (Prop)) (And (LE.le (0 : Int) n) (LT.lt n (65536 : Int)))) (.fin (.ret (.v (.one (.p (.str (I.hid (α := (List UInt8)) (hexS n))))))) [])) (by kernel_rfl) ?_
  simp only [inst_need, inst_br, inst_both, inst_fin, inst_qed, inst_stop, inst_code]
  subst hI
  simp only [alg_b2i, alg_i2b, alg_add, alg_sub, alg_mul, alg_quo, alg_rem, alg_wrap, alg_imin, alg_imax, alg_ilt, alg_ile, alg_ieq, alg_bnot, alg_beq, alg_ban, alg_seq, alg_len, alg_app, alg_cut, alg_get, alg_set, alg_rep, alg_inr, alg_inb, alg_cutb, alg_same, alg_few, alg_nne, alg_nng, alg_hid, alg_shl, alg_shr, alg_bits, decide_eq_true_eq, decide_eq_false_iff_not, beq_iff_eq, beq_eq_false_iff_ne, Bool.not_eq_true', Bool.not_eq_false', Bool.and_eq_true, Bool.and_true, Bool.true_and, and_true, true_and, ne_eq, Int.toNat_zero, Nat.sub_zero, List.drop_zero, i64_min, i64_max, u8_min, u8_max, ofNat_b2i, b2i_inj, Int.toNat_natCast, Int.ofNat_eq_natCast, UInt8.ofNat_toNat, AOut.ret.injEq, D.v.injEq, D.tup.injEq, V0.one.injEq, C.p.injEq, P.bool.injEq, P.int.injEq, P.str.injEq, Bool.false_eq_true, Bool.true_eq_false, imp_false, Decidable.not_not, not_true_eq_false, not_false_eq_true, List.cons.injEq, P.list.injEq, HO.row.injEq, heq_eq_eq, reduceCtorEq, false_and, and_false]
  (repeat' (first | refine And.intro ?_ ?_ | intro _)) <;> first | omega | exact True.intro | exact False.elim ‹False› | skip
  all_goals first
    | exact hr
    | trace_state
def fmtInt__c (I : Alg) (args : List D) (hp : List HO) : Option CT := match args, hp with
  | [.v (.one (.p (.int .i64 n))), .v (.one (.p (.int .i64 16)))], [] => (fun (n : Int) => (some (.one ⟨I.hid (0 ≤ n ∧ n < 65536), (.ret (.v (.one (.p (.str (I.hid ((hexS n)))))))), []⟩) : Option CT)) n
  | _, _ => none
theorem fmtInt__g : GoodC Tryd.prog 95 (fmtInt__c alg) := by
  intro args hp r h
  unfold fmtInt__c at h
  split at h
  · cases h; exact fun hn => fmtInt_ _ hn
  · cases h
def fmtInt__k : Know Tryd.prog := ⟨95, fmtInt__c, fmtInt__g⟩
def fmtInt__l : Know Tryd.prog := ⟨95, fun I => lendC I (fmtInt__c I), lendC_good fmtInt__g⟩
end Go.Proofs.YtjapkdcomcgamaaDoor
