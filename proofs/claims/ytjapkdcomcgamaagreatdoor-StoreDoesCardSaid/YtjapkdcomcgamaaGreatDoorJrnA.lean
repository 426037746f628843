/- A log's entries: the walks. -/
import Derived.Test.YtjapkdcomcgamaaGreatDoorBase
import Derived.Test.YtjapkdcomcgamaaGreatDoorJrnL
set_option linter.all false
namespace Go.Proofs.YtjapkdcomcgamaaGreatDoor
open Go Go.Sep Go.Ab Go.Jrn
set_option maxRecDepth 100000

theorem or_u8 : ∀ u : Nat, u < 256 → IntKind.u8.wrap ((BitVec.ofInt IntKind.u8.bits (u : Int) ||| BitVec.ofInt IntKind.u8.bits 128).toNat : Int) = ((u % 128 + 128 : Nat) : Int) := by decide +kernel
theorem and_u8 : ∀ u : Nat, u < 256 → IntKind.u8.wrap ((BitVec.ofInt IntKind.u8.bits (u : Int) &&& BitVec.ofInt IntKind.u8.bits 127).toNat : Int) = ((u % 128 : Nat) : Int) := by decide +kernel
theorem wrap_u8 (u : Nat) : IntKind.u8.wrap (u : Int) = ((u % 256 : Nat) : Int) := by
  unfold IntKind.wrap
  simp only [show IntKind.u8.signed = false by decide, show IntKind.u8.bits = 8 by decide, Bool.false_and, Bool.false_eq_true, if_false]
  show (u : Int) % 256 = _
  omega
theorem wrap_i64 (u : Int) (h : -9223372036854775808 ≤ u ∧ u ≤ 9223372036854775807) : IntKind.i64.wrap u = u := wrap_id (k := .i64) (by rw [alg_inr, i64_min, i64_max]; exact h)
theorem wrap_u64 (u : Int) (h : 0 ≤ u ∧ u ≤ 9223372036854775807) : IntKind.u64.wrap u = u := wrap_id (k := .u64) (by
  rw [alg_inr, show IntKind.u64.min = 0 by decide, show IntKind.u64.max = 18446744073709551615 by decide]; omega)
theorem or_i64 (u x i : Nat) (hu : u < 2 ^ (7 * i)) (hx : x < 128) (hi : i ≤ 4) :
    IntKind.i64.wrap ((BitVec.ofInt IntKind.i64.bits (u : Int) ||| BitVec.ofInt IntKind.i64.bits ((x * 2 ^ (7 * i) : Nat) : Int)).toNat : Int) = ((u + x * 2 ^ (7 * i) : Nat) : Int) := by
  have h2 : 2 ^ (7 * i) ≤ 2 ^ 28 := Nat.pow_le_pow_right (by omega) (by omega)
  have h3 : x * 2 ^ (7 * i) ≤ 127 * 2 ^ 28 := Nat.mul_le_mul (by omega) h2
  have e : (BitVec.ofInt IntKind.i64.bits (u : Int) ||| BitVec.ofInt IntKind.i64.bits ((x * 2 ^ (7 * i) : Nat) : Int)).toNat = u + x * 2 ^ (7 * i) := by
    rw [BitVec.toNat_or, BitVec.ofInt_natCast, BitVec.ofInt_natCast, BitVec.toNat_ofNat, BitVec.toNat_ofNat, show IntKind.i64.bits = 64 by decide,
      Nat.mod_eq_of_lt (show u < 2 ^ 64 by omega), Nat.mod_eq_of_lt (show x * 2 ^ (7 * i) < 2 ^ 64 by omega), Nat.or_comm, ← Nat.shiftLeft_eq, ← Nat.shiftLeft_add_eq_or_of_lt hu, Nat.add_comm]
  rw [e, wrap_i64]
  omega

theorem shr7 (u : Nat) : (u : Int).fdiv (2 ^ min (Int.toNat 7) 64) = ((u / 128 : Nat) : Int) := by
  show (u : Int).fdiv 128 = _
  rw [Int.fdiv_eq_ediv_of_nonneg _ (by decide)]
  omega

theorem put_ (l : Str) (n : Int) (hneed : -1 ≤ n ∧ n < 34359738368 ∧ l.length ≤ 50000000) : Spc Tryz.prog 126 [.v (.one (.row 0)), .v (.one (.p (.int .i64 n)))] [.row .byte 5 l] (.ret (.v (.one (.row 1)))) [.gone, .row .byte 5 ((l ++ sev (n + 1).toNat))] := by
  refine spcG tab_ok mixed Tryz.func126 (by kernel_rfl) { mv := [0], keep := some [0, 1, 4, 5] } [] (by kernel_rfl) ?_
  intro I X hI hX
  refine ev_rule (.need (I.inr Go.IntKind.i64 (I.add n 1)) (.code 0 [1, 1, 0, 0] ⟨[(5, (.v (.one (.p (.int .u64 (I.wrap Go.IntKind.u64 (I.add n 1))))))), (4, (.v (.one .nilS))), (0, (.v (.one (.row 0)))), (1, (.v (.one (.p (.int .i64 n)))))], [(.row .byte 5 l)], 24, none⟩)) (by kernel_rfl) ?_
  simp only [instL]
  refine ⟨(by rw [hI]; simp only [nrmA, decide_eq_true_eq, decide_eq_false_iff_not, beq_iff_eq, beq_eq_false_iff_ne, Bool.not_eq_true', Bool.not_eq_false', Bool.and_eq_true, Bool.and_true, Bool.true_and, and_true, true_and, ne_eq, Int.toNat_zero, Nat.sub_zero, List.drop_zero, i64_min, i64_max, u8_min, u8_max, ofNat_b2i, b2i_inj, Int.toNat_natCast, Int.ofNat_eq_natCast, UInt8.ofNat_toNat, AOut.ret.injEq, D.v.injEq, D.tup.injEq, V0.one.injEq, C.p.injEq, P.bool.injEq, P.int.injEq, P.str.injEq, Bool.false_eq_true, Bool.true_eq_false, imp_false, Decidable.not_not, not_true_eq_false, not_false_eq_true]; omega), ?_⟩
  refine loop_inv hI tab_ok mixed [] hX [0, 5] (fun (g : Str × Int) => match g with | (m, u) => 0 ≤ u ∧ u < 68719476736 ∧ m ++ sev u.toNat = l ++ sev (n + 1).toNat) (fun (g : Str × Int) => match g with | (m, u) => ⟨[(0, .v (.one (.row 1))), (5, .v (.one (.p (.int .u64 u))))], [.gone, .row .byte 5 m], 24, none⟩) (fun (g : Str × Int) => match g with | (m, u) => u.toNat) (l, I.wrap .u64 (I.add n 1)) (by kernel_rfl) (by kernel_rfl) ?_ ?_
  · subst hI
    simp only
    simp only [nrmA, decide_eq_true_eq, decide_eq_false_iff_not, beq_iff_eq, beq_eq_false_iff_ne, Bool.not_eq_true', Bool.not_eq_false', Bool.and_eq_true, Bool.and_true, Bool.true_and, and_true, true_and, ne_eq, Int.toNat_zero, Nat.sub_zero, List.drop_zero, i64_min, i64_max, u8_min, u8_max, ofNat_b2i, b2i_inj, Int.toNat_natCast, Int.ofNat_eq_natCast, UInt8.ofNat_toNat, AOut.ret.injEq, D.v.injEq, D.tup.injEq, V0.one.injEq, C.p.injEq, P.bool.injEq, P.int.injEq, P.str.injEq, Bool.false_eq_true, Bool.true_eq_false, imp_false, Decidable.not_not, not_true_eq_false, not_false_eq_true]
    rw [wrap_u64 _ (by omega)]
    exact ⟨by omega, by omega, rfl⟩
  rintro ⟨m, u⟩ ⟨h0, h1, h2⟩ A hA
  obtain ⟨u, rfl⟩ := Int.eq_ofNat_of_zero_le h0
  simp only [Int.toNat_natCast] at h2
  simp only at hA
  generalize hu' : (u : Int) = u' at *
  refine ev_rule (let y0 := I.bits Go.BinOp.or Go.IntKind.u8 (I.wrap Go.IntKind.u8 u') 128; .br (I.ile 128 u') (.need (I.inr Go.IntKind.u8 y0) (.need (I.few (I.add (I.len (α := UInt8) m) (I.len (α := UInt8) ([(I.i2b y0)] : List UInt8))) 140737488355328) (.need (I.nng 7) (.need (I.few 7 64) (.need (I.few 7 (Nat.cast (Go.IntKind.bits Go.IntKind.u64))) (.need (A ⟨[(0, (.v (.one (.row 1)))), (5, (.v (.one (.p (.int .u64 (I.shr u' 7))))))], [.gone, (.row .byte 5 (I.app (α := UInt8) m ([(I.i2b y0)] : List UInt8)))], 24, none⟩) .qed)))))) (.need (I.inr Go.IntKind.u8 (I.wrap Go.IntKind.u8 u')) (.need (I.few (I.add (I.len (α := UInt8) m) (I.len (α := UInt8) ([(I.i2b (I.wrap Go.IntKind.u8 u'))] : List UInt8))) 140737488355328) (.fin (.ret (.v (.one (.row 1)))) [.gone, (.row .byte 5 (I.app (α := UInt8) m ([(I.i2b (I.wrap Go.IntKind.u8 u'))] : List UInt8)))])))) (by kernel_rfl) ?_
  simp only [instL]
  subst hI hu'
  simp only [nrmA, decide_eq_true_eq, decide_eq_false_iff_not, beq_iff_eq, beq_eq_false_iff_ne, Bool.not_eq_true', Bool.not_eq_false', Bool.and_eq_true, Bool.and_true, Bool.true_and, and_true, true_and, ne_eq, Int.toNat_zero, Nat.sub_zero, List.drop_zero, i64_min, i64_max, u8_min, u8_max, ofNat_b2i, b2i_inj, Int.toNat_natCast, Int.ofNat_eq_natCast, UInt8.ofNat_toNat, AOut.ret.injEq, D.v.injEq, D.tup.injEq, V0.one.injEq, C.p.injEq, P.bool.injEq, P.int.injEq, P.str.injEq, Bool.false_eq_true, Bool.true_eq_false, imp_false, Decidable.not_not, not_true_eq_false, not_false_eq_true]
  have hml := congrArg List.length h2
  have hs1 := sev_len u
  have hs2 := sev_len (n + 1).toNat
  simp only [List.length_append] at hml
  have hu8 : u % 256 % 128 = u % 128 := by omega
  rw [wrap_u8 u, or_u8 _ (by omega), shr7, hu8, Int.toNat_natCast, Int.toNat_natCast]
  have h64 : ((IntKind.u64.bits : Nat) : Int) = 64 := by decide
  simp only [List.length_cons, List.length_nil, h64]
  (repeat' (first | refine And.intro ?_ ?_ | intro _)) <;> first | omega | exact True.intro | exact False.elim ‹False› | skip
  · have hb := sev_big (u := u) (by omega) (by omega)
    refine hA (m ++ [UInt8.ofNat (u % 128 + 128)], (u / 128 : Nat)) ⟨by omega, by omega, ?_⟩ (by simp only; omega)
    rw [Int.toNat_natCast, ← h2, hb, List.append_assoc]; rfl
  · rw [← h2, sev_small (by omega), show u % 256 = u by omega]
def put__c (I : Alg) (args : List D) (hp : List HO) : Option CT := match args, hp with
  | [.v (.one (.row 0)), .v (.one (.p (.int .i64 n)))], [.row .byte 5 l] => (fun (l : Str) (n : Int) => (some (.one ⟨I.hid (-1 ≤ n ∧ n < 34359738368 ∧ l.length ≤ 50000000), (.ret (.v (.one (.row 1)))), [.gone, .row .byte 5 (I.hid ((l ++ sev (n + 1).toNat)))]⟩) : Option CT)) l n
  | _, _ => none
theorem put__g : GoodC Tryz.prog 126 (put__c alg) := by
  intro args hp r h
  unfold put__c at h
  split at h
  · cases h; exact fun hn => put_ _ _ hn
  · cases h
def put__k : Know Tryz.prog := ⟨126, put__c, put__g⟩
def put__l : Know Tryz.prog := ⟨126, fun I => lendC I (put__c I), lendC_good put__g⟩

theorem seven_ (n : Int) (hneed : -1 ≤ n ∧ n < 34359738368) : Spc Tryz.prog 134 [.v (.one (.p (.int .i64 n)))] [] (.ret (.v (.one (.row 0)))) [.row .byte 5 ((sev (n + 1).toNat))] := by
  refine spcG tab_ok mixed Tryz.func134 (by kernel_rfl) { nr := [3], keep := some [0, 2, 3] } [] (by kernel_rfl) ?_
  intro I X hI hX
  refine ev_rule (.need (I.inr Go.IntKind.i64 (I.add n 1)) (.code 0 [1, 1, 1, 0, 0] ⟨[(0, (.v (.one (.p (.int .i64 (I.add n 1)))))), (3, (.v (.one (.row 0)))), (2, (.v (.one .nilS)))], [(.row .byte 5 ([] : List UInt8))], 22, none⟩)) (by kernel_rfl) ?_
  simp only [instL]
  refine ⟨(by rw [hI]; simp only [nrmA, decide_eq_true_eq, decide_eq_false_iff_not, beq_iff_eq, beq_eq_false_iff_ne, Bool.not_eq_true', Bool.not_eq_false', Bool.and_eq_true, Bool.and_true, Bool.true_and, and_true, true_and, ne_eq, Int.toNat_zero, Nat.sub_zero, List.drop_zero, i64_min, i64_max, u8_min, u8_max, ofNat_b2i, b2i_inj, Int.toNat_natCast, Int.ofNat_eq_natCast, UInt8.ofNat_toNat, AOut.ret.injEq, D.v.injEq, D.tup.injEq, V0.one.injEq, C.p.injEq, P.bool.injEq, P.int.injEq, P.str.injEq, Bool.false_eq_true, Bool.true_eq_false, imp_false, Decidable.not_not, not_true_eq_false, not_false_eq_true]; omega), ?_⟩
  refine loop_inv hI tab_ok mixed [] hX [0, 3] (fun (g : Str × Int) => match g with | (m, u) => 0 ≤ u ∧ u < 68719476736 ∧ m ++ sev u.toNat = sev (n + 1).toNat) (fun (g : Str × Int) => match g with | (m, u) => ⟨[(0, .v (.one (.p (.int .i64 u)))), (3, .v (.one (.row 0)))], [.row .byte 5 m], 22, none⟩) (fun (g : Str × Int) => match g with | (m, u) => u.toNat) ([], I.add n 1) (by kernel_rfl) (by kernel_rfl) ?_ ?_
  · subst hI
    simp only
    simp only [nrmA, decide_eq_true_eq, decide_eq_false_iff_not, beq_iff_eq, beq_eq_false_iff_ne, Bool.not_eq_true', Bool.not_eq_false', Bool.and_eq_true, Bool.and_true, Bool.true_and, and_true, true_and, ne_eq, Int.toNat_zero, Nat.sub_zero, List.drop_zero, i64_min, i64_max, u8_min, u8_max, ofNat_b2i, b2i_inj, Int.toNat_natCast, Int.ofNat_eq_natCast, UInt8.ofNat_toNat, AOut.ret.injEq, D.v.injEq, D.tup.injEq, V0.one.injEq, C.p.injEq, P.bool.injEq, P.int.injEq, P.str.injEq, Bool.false_eq_true, Bool.true_eq_false, imp_false, Decidable.not_not, not_true_eq_false, not_false_eq_true]
    exact ⟨by omega, by omega, rfl⟩
  rintro ⟨m, u⟩ ⟨h0, h1, h2⟩ A hA
  obtain ⟨u, rfl⟩ := Int.eq_ofNat_of_zero_le h0
  simp only [Int.toNat_natCast] at h2
  simp only at hA
  generalize hu' : (u : Int) = u' at *
  refine ev_rule (let y0 := I.wrap Go.IntKind.u8 (I.add (I.rem u' 128) 128); .br (I.ile 128 u') (.need (I.nne 128) (.need (I.inr Go.IntKind.i64 (I.add (I.rem u' 128) 128)) (.need (I.inr Go.IntKind.u8 y0) (.need (I.few (I.add (I.len (α := UInt8) m) (I.len (α := UInt8) ([(I.i2b y0)] : List UInt8))) 140737488355328) (.need (I.nne 128) (.need (I.inr Go.IntKind.i64 (I.quo u' 128)) (.need (A ⟨[(0, (.v (.one (.p (.int .i64 (I.quo u' 128)))))), (3, (.v (.one (.row 0))))], [(.row .byte 5 (I.app (α := UInt8) m ([(I.i2b y0)] : List UInt8)))], 22, none⟩) .qed))))))) (.need (I.inr Go.IntKind.u8 (I.wrap Go.IntKind.u8 u')) (.need (I.few (I.add (I.len (α := UInt8) m) (I.len (α := UInt8) ([(I.i2b (I.wrap Go.IntKind.u8 u'))] : List UInt8))) 140737488355328) (.fin (.ret (.v (.one (.row 0)))) [(.row .byte 5 (I.app (α := UInt8) m ([(I.i2b (I.wrap Go.IntKind.u8 u'))] : List UInt8)))])))) (by kernel_rfl) ?_
  simp only [instL]
  subst hI hu'
  simp only [nrmA, decide_eq_true_eq, decide_eq_false_iff_not, beq_iff_eq, beq_eq_false_iff_ne, Bool.not_eq_true', Bool.not_eq_false', Bool.and_eq_true, Bool.and_true, Bool.true_and, and_true, true_and, ne_eq, Int.toNat_zero, Nat.sub_zero, List.drop_zero, i64_min, i64_max, u8_min, u8_max, ofNat_b2i, b2i_inj, Int.toNat_natCast, Int.ofNat_eq_natCast, UInt8.ofNat_toNat, AOut.ret.injEq, D.v.injEq, D.tup.injEq, V0.one.injEq, C.p.injEq, P.bool.injEq, P.int.injEq, P.str.injEq, Bool.false_eq_true, Bool.true_eq_false, imp_false, Decidable.not_not, not_true_eq_false, not_false_eq_true]
  have hml := congrArg List.length h2
  have hs1 := sev_len u
  have hs2 := sev_len (n + 1).toNat
  simp only [List.length_append] at hml
  have e1 : (u : Int).tmod 128 + 128 = ((u % 128 + 128 : Nat) : Int) := by rw [Int.tmod_eq_emod_of_nonneg (by omega)]; omega
  have e2 : (u : Int).tdiv 128 = ((u / 128 : Nat) : Int) := by rw [Int.tdiv_eq_ediv_of_nonneg (by omega)]; omega
  rw [e1, e2, wrap_u8, wrap_u8, Int.toNat_natCast, Int.toNat_natCast, show (u % 128 + 128) % 256 = u % 128 + 128 by omega]
  simp only [List.length_cons, List.length_nil]
  (repeat' (first | refine And.intro ?_ ?_ | intro _)) <;> first | omega | exact True.intro | exact False.elim ‹False› | skip
  · have hb := sev_big (u := u) (by omega) (by omega)
    refine hA (m ++ [UInt8.ofNat (u % 128 + 128)], (u / 128 : Nat)) ⟨by omega, by omega, ?_⟩ (by simp only; omega)
    rw [Int.toNat_natCast, ← h2, hb, List.append_assoc]; rfl
  · rw [← h2, sev_small (by omega), show u % 256 = u by omega]
def seven__c (I : Alg) (args : List D) (hp : List HO) : Option CT := match args, hp with
  | [.v (.one (.p (.int .i64 n)))], [] => (fun (n : Int) => (some (.one ⟨I.hid (-1 ≤ n ∧ n < 34359738368), (.ret (.v (.one (.row 0)))), [.row .byte 5 (I.hid ((sev (n + 1).toNat)))]⟩) : Option CT)) n
  | _, _ => none
theorem seven__g : GoodC Tryz.prog 134 (seven__c alg) := by
  intro args hp r h
  unfold seven__c at h
  split at h
  · cases h; exact fun hn => seven_ _ hn
  · cases h
def seven__k : Know Tryz.prog := ⟨134, seven__c, seven__g⟩
def seven__l : Know Tryz.prog := ⟨134, fun I => lendC I (seven__c I), lendC_good seven__g⟩

theorem few_ (n : Int) : Spc Tryz.prog 145 [.v (.one (.p (.int .i64 n)))] [] (.ret (.v (.one (.p (.bool (few n)))))) [] := by
  refine spcG tab_ok mixed Tryz.func145 (by kernel_rfl) { keep := some [0, 2] } [] (by kernel_rfl) ?_
  intro I X hI hX
  refine ev_rule (.br (I.ile (Neg.neg (1 : Int)) n) (.fin (.ret (.v (.one (.p (.bool (I.ilt n 1073741824)))))) []) (.fin (.ret (.v (.one (.p (.bool Bool.false))))) [])) (by kernel_rfl) ?_
  simp only [instL]
  subst hI
  simp only [nrmA, decide_eq_true_eq, decide_eq_false_iff_not, beq_iff_eq, beq_eq_false_iff_ne, Bool.not_eq_true', Bool.not_eq_false', Bool.and_eq_true, Bool.and_true, Bool.true_and, and_true, true_and, ne_eq, Int.toNat_zero, Nat.sub_zero, List.drop_zero, i64_min, i64_max, u8_min, u8_max, ofNat_b2i, b2i_inj, Int.toNat_natCast, Int.ofNat_eq_natCast, UInt8.ofNat_toNat, AOut.ret.injEq, D.v.injEq, D.tup.injEq, V0.one.injEq, C.p.injEq, P.bool.injEq, P.int.injEq, P.str.injEq, Bool.false_eq_true, Bool.true_eq_false, imp_false, Decidable.not_not, not_true_eq_false, not_false_eq_true]
  unfold few
  (repeat' (first | refine And.intro ?_ ?_ | intro _)) <;> first | omega | exact True.intro | exact False.elim ‹False› | skip
  · simp [*]
  · simp [*]
def few__c (I : Alg) (args : List D) (hp : List HO) : Option CT := match args, hp with
  | [.v (.one (.p (.int .i64 n)))], [] => (fun (n : Int) => (some (.one ⟨I.hid (True), (.ret (.v (.one (.p (.bool (I.hid (few n))))))), []⟩) : Option CT)) n
  | _, _ => none
theorem few__g : GoodC Tryz.prog 145 (few__c alg) := by
  intro args hp r h
  unfold few__c at h
  split at h
  · cases h; exact fun hn => few_ _
  · cases h
def few__k : Know Tryz.prog := ⟨145, few__c, few__g⟩
def few__l : Know Tryz.prog := ⟨145, fun I => lendC I (few__c I), lendC_good few__g⟩

theorem may_ (k i n : Int) (t : Str) : Spc Tryz.prog 125 [.v (.agg [(.p (.int .i64 k)), (.p (.int .i64 i)), (.p (.int .i64 n)), (.p (.list .byte t))])] [] (.ret (.v (.one (.p (.bool (mayM ⟨k, i, n, t⟩)))))) [] := by
  refine spcG tab_ok mixed Tryz.func125 (by kernel_rfl) { keep := some [0, 1, 2, 3] } [few__k, few__l] (by kernel_rfl) ?_
  intro I X hI hX
  refine ev_rule (.br (I.ile 1 k) (.br (I.ile k 6) (.need (I.hid (α := (Prop)) True) (.br (I.hid (α := Bool) (Go.Jrn.few i)) (.need (I.hid (α := (Prop)) True) (.br (I.hid (α := Bool) (Go.Jrn.few n)) (.fin (.ret (.v (.one (.p (.bool (I.ilt (I.len (α := UInt8) t) 1048576)))))) []) (.fin (.ret (.v (.one (.p (.bool Bool.false))))) []))) (.fin (.ret (.v (.one (.p (.bool Bool.false))))) []))) (.fin (.ret (.v (.one (.p (.bool Bool.false))))) [])) (.fin (.ret (.v (.one (.p (.bool Bool.false))))) [])) (by kernel_rfl) ?_
  simp only [instL]
  subst hI
  simp only [nrmA, decide_eq_true_eq, decide_eq_false_iff_not, beq_iff_eq, beq_eq_false_iff_ne, Bool.not_eq_true', Bool.not_eq_false', Bool.and_eq_true, Bool.and_true, Bool.true_and, and_true, true_and, ne_eq, Int.toNat_zero, Nat.sub_zero, List.drop_zero, i64_min, i64_max, u8_min, u8_max, ofNat_b2i, b2i_inj, Int.toNat_natCast, Int.ofNat_eq_natCast, UInt8.ofNat_toNat, AOut.ret.injEq, D.v.injEq, D.tup.injEq, V0.one.injEq, C.p.injEq, P.bool.injEq, P.int.injEq, P.str.injEq, Bool.false_eq_true, Bool.true_eq_false, imp_false, Decidable.not_not, not_true_eq_false, not_false_eq_true]
  unfold mayM
  (repeat' (first | refine And.intro ?_ ?_ | intro _)) <;> first | omega | exact True.intro | exact False.elim ‹False› | skip
  all_goals simp [*] <;> omega
def may__c (I : Alg) (args : List D) (hp : List HO) : Option CT := match args, hp with
  | [.v (.agg [(.p (.int .i64 k)), (.p (.int .i64 i)), (.p (.int .i64 n)), (.p (.list .byte t))])], [] => (fun (k i n : Int) (t : Str) => (some (.one ⟨I.hid (True), (.ret (.v (.one (.p (.bool (I.hid (mayM ⟨k, i, n, t⟩))))))), []⟩) : Option CT)) k i n t
  | _, _ => none
theorem may__g : GoodC Tryz.prog 125 (may__c alg) := by
  intro args hp r h
  unfold may__c at h
  split at h
  · cases h; exact fun hn => may_ _ _ _ _
  · cases h
def may__k : Know Tryz.prog := ⟨125, may__c, may__g⟩
def may__l : Know Tryz.prog := ⟨125, fun I => lendC I (may__c I), lendC_good may__g⟩

def numAt (b : Str) : Int × Int := if (num b).2.2 then ((num b).1, (numK 0 b : Nat)) else (0, 0)
theorem numberAt_ (b : Str) : Spc Tryz.prog 110 [.v (.one (.p (.list .byte b)))] [] (.ret (.tup [(.one (.p (.int .i64 ((numAt b).1)))), (.one (.p (.int .i64 ((numAt b).2))))])) [] := by
  refine spcG tab_ok mixed Tryz.func110 (by kernel_rfl) { keep := some [0, 2, 3, 4, 5, 6] } [] (by kernel_rfl) ?_
  intro I X hI hX
  refine ev_rule (.code 0 [1, 1, 0, 1, 0] ⟨[(6, (.v (.one (.p (.int .i64 0))))), (5, (.v (.one (.p (.int .i64 1))))), (4, (.v (.one (.p (.int .i64 0))))), (3, (.v (.one (.p (.int .i64 0))))), (2, (.v (.one (.p (.int .i64 0))))), (0, (.v (.one (.p (.list .byte b)))))], [], 47, none⟩) (by kernel_rfl) ?_
  simp only [instL]
  generalize hr : numAt b = r
  obtain ⟨r1, r2⟩ := r
  refine loop_inv hI tab_ok mixed [] hX [0, 4, 5, 6] (fun (g : Nat × Int × Int) => match g with | (i, u, q) => i ≤ b.length ∧ i ≤ 5 ∧ 0 ≤ u ∧ u < q ∧ q = (128 ^ i : Nat) ∧ numF i u.toNat (b.drop i) = num b ∧ numK i (b.drop i) = numK 0 b) (fun (g : Nat × Int × Int) => match g with | (i, u, q) => ⟨[(0, .v (.one (.p (.list .byte b)))), (4, .v (.one (.p (.int .i64 u)))), (5, .v (.one (.p (.int .i64 q)))), (6, .v (.one (.p (.int .i64 i))))], [], 47, none⟩) (fun (g : Nat × Int × Int) => match g with | (i, u, q) => b.length - i) (0, 0, 1) (by kernel_rfl) (by kernel_rfl) ?_ ?_
  · exact ⟨Nat.zero_le _, by omega, Int.le_refl _, by omega, rfl, rfl, rfl⟩
  rintro ⟨i, u, q⟩ ⟨h1, h2, h3, h4, h5, h6, h7⟩ A hA
  simp only at hA
  refine ev_rule (let y3 := I.b2i (I.get (α := UInt8) b 0 (Nat.cast i)); let y0 := I.mul (I.wrap Go.IntKind.i64 (I.rem y3 128)) q; let y1 := I.inb (Nat.cast i) (I.len (α := UInt8) b); let y2 := I.inr Go.IntKind.i64 (I.add (Nat.cast i) 1); let y4 := I.inr Go.IntKind.i64 (I.sub (I.add u y0) 1); .br (I.ilt (Nat.cast i) (I.len (α := UInt8) b)) (.br (I.ilt (Nat.cast i) 5) (.need y1 (.need y1 (.need (I.nne 128) (.need (I.inr Go.IntKind.i64 y0) (.need (I.inr Go.IntKind.i64 (I.add u y0)) (.need (I.inr Go.IntKind.i64 (I.mul q 128)) (.need y1 (.need y1 (.br (I.ilt y3 128) (.br (I.ilt 0 (Nat.cast i)) (.need y1 (.need y1 (.br (I.ieq y3 0) (.fin (.ret (.tup [(.one (.p (.int .i64 0))), (.one (.p (.int .i64 0)))])) []) (.need y4 (.need y2 (.fin (.ret (.tup [(.one (.p (.int .i64 (I.sub (I.add u y0) 1)))), (.one (.p (.int .i64 (I.add (Nat.cast i) 1))))])) [])))))) (.need y4 (.need y2 (.fin (.ret (.tup [(.one (.p (.int .i64 (I.sub (I.add u y0) 1)))), (.one (.p (.int .i64 (I.add (Nat.cast i) 1))))])) [])))) (.need y2 (.need (A ⟨[(0, (.v (.one (.p (.list .byte b))))), (4, (.v (.one (.p (.int .i64 (I.add u y0)))))), (5, (.v (.one (.p (.int .i64 (I.mul q 128)))))), (6, (.v (.one (.p (.int .i64 (I.add (Nat.cast i) 1))))))], [], 47, none⟩) .qed))))))))))) (.fin (.ret (.tup [(.one (.p (.int .i64 0))), (.one (.p (.int .i64 0)))])) [])) (.fin (.ret (.tup [(.one (.p (.int .i64 0))), (.one (.p (.int .i64 0)))])) [])) (by kernel_rfl) ?_
  simp only [instL]
  subst hI
  simp only [nrmA, decide_eq_true_eq, decide_eq_false_iff_not, beq_iff_eq, beq_eq_false_iff_ne, Bool.not_eq_true', Bool.not_eq_false', Bool.and_eq_true, Bool.and_true, Bool.true_and, and_true, true_and, ne_eq, Int.toNat_zero, Nat.sub_zero, List.drop_zero, i64_min, i64_max, u8_min, u8_max, ofNat_b2i, b2i_inj, Int.toNat_natCast, Int.ofNat_eq_natCast, UInt8.ofNat_toNat, AOut.ret.injEq, D.v.injEq, D.tup.injEq, V0.one.injEq, C.p.injEq, P.bool.injEq, P.int.injEq, P.str.injEq, Bool.false_eq_true, Bool.true_eq_false, imp_false, Decidable.not_not, not_true_eq_false, not_false_eq_true, List.cons.injEq, P.list.injEq, HO.row.injEq, heq_eq_eq, reduceCtorEq, false_and, and_false]
  obtain ⟨u, rfl⟩ := Int.eq_ofNat_of_zero_le h3
  rw [Int.toNat_natCast] at h6
  have hs1 := fun (h : i < b.length) (h' : i < 5) => numF_step u h h'
  have hs2 := fun (h : i < b.length) (h' : i < 5) => numK_step (b := b) h h'
  generalize hc : (b.getD i 0).toNat = c at hs1 hs2 ⊢
  have hc256 : c < 256 := by rw [← hc]; exact UInt8.toNat_lt _
  have e1 : IntKind.i64.wrap ((c : Int).tmod 128) = ((c % 128 : Nat) : Int) := by
    rw [Int.tmod_eq_emod_of_nonneg (by omega), wrap_i64]
    · omega
    · omega
  have hq : i < 5 → 128 ^ i ≤ 128 ^ 4 := fun h => Nat.pow_le_pow_right (by omega) (by omega)
  have hp : 128 ^ (i + 1) = 128 ^ i * 128 := Nat.pow_succ ..
  have hr' := hr
  simp only [numAt, ← h6, ← h7] at hr'
  have hend := numF_end (b := b) (i := i) u
  generalize hQ : 128 ^ i = Q at *
  have e2 : ((c % 128 : Nat) : Int) * q = ((c % 128 * Q : Nat) : Int) := by rw [h5]; exact (Int.natCast_mul _ _).symm
  have hm : c % 128 * Q ≤ 127 * Q := Nat.mul_le_mul_right _ (by omega)
  rw [e1, e2]
  have hcm : c < 128 → c * Q = c % 128 * Q := fun h => by rw [Nat.mod_eq_of_lt h]
  generalize hX : c % 128 * Q = X at *
  have hfin : (b.length ≤ i ∨ 5 ≤ i) → 0 = r1 ∧ 0 = r2 := by
    intro h
    rw [hend h] at hr'
    simpa using hr'
  have hret : i < b.length → i < 5 → c < 128 → (i = 0 ∨ 0 < c) → (u : Int) + (X : Int) - 1 = r1 ∧ (i : Int) + 1 = r2 := by
    intro h1 h2 h3 h4
    rw [hs1 h1 h2, hs2 h1 h2] at hr'
    simp only [if_pos h3, hcm h3] at hr'
    simp only [decide_eq_true_eq, if_pos h4, Prod.mk.injEq] at hr'
    omega
  have hzero : i < b.length → i < 5 → c = 0 → 0 < i → 0 = r1 ∧ 0 = r2 := by
    intro h1 h2 h3 h4
    have h5 : c < 128 := by omega
    rw [hs1 h1 h2, hs2 h1 h2] at hr'
    simp only [if_pos h5] at hr'
    rw [if_neg (by simp only [decide_eq_true_eq]; omega)] at hr'
    simpa using hr'
  have hback : i < b.length → i < 5 → ¬ c < 128 → A ⟨[(0, .v (.one (.p (.list .byte b)))), (4, .v (.one (.p (.int .i64 (((u : Int) + (X : Int))))))), (5, .v (.one (.p (.int .i64 ((q * 128)))))), (6, .v (.one (.p (.int .i64 (((i : Int) + 1))))))], [], 47, none⟩ := by
    intro h1 h2 h3
    have g1 : (0 : Int) ≤ (u : Int) + (X : Int) := by omega
    have g2 : (u : Int) + (X : Int) < q * 128 := by omega
    have g3 : q * 128 = ((128 ^ (i + 1) : Nat) : Int) := by rw [h5, hp]; exact (Int.natCast_mul _ _).symm
    refine hA (i + 1, (u : Int) + (X : Int), q * 128) ⟨h1, h2, g1, g2, g3, ?_, ?_⟩ (by simp only; omega)
    · rw [← h6, hs1 h1 h2, if_neg h3, ← Int.natCast_add, Int.toNat_natCast]
    · rw [← h7, hs2 h1 h2, if_neg h3]
  (repeat' (first | refine And.intro ?_ ?_ | intro _)) <;> first | omega | exact True.intro | exact False.elim ‹False› | skip
  all_goals first
    | exact hback (by omega) (by omega) (by omega)
    | exact (hret (by omega) (by omega) (by omega) (by omega)).1
    | exact (hret (by omega) (by omega) (by omega) (by omega)).2
    | exact (hzero (by omega) (by omega) (by omega) (by omega)).1
    | exact (hzero (by omega) (by omega) (by omega) (by omega)).2
    | exact (hfin (by omega)).1
    | exact (hfin (by omega)).2
    | skip
  all_goals trace_state
def numberAt__c (I : Alg) (args : List D) (hp : List HO) : Option CT := match args, hp with
  | [.v (.one (.p (.list .byte b)))], [] => (fun (b : Str) => (some (.one ⟨I.hid (True), (.ret (.tup [(.one (.p (.int .i64 (I.hid ((numAt b).1))))), (.one (.p (.int .i64 (I.hid ((numAt b).2)))))])), []⟩) : Option CT)) b
  | _, _ => none
theorem numberAt__g : GoodC Tryz.prog 110 (numberAt__c alg) := by
  intro args hp r h
  unfold numberAt__c at h
  split at h
  · cases h; exact fun hn => numberAt_ _
  · cases h
def numberAt__k : Know Tryz.prog := ⟨110, numberAt__c, numberAt__g⟩
def numberAt__l : Know Tryz.prog := ⟨110, fun I => lendC I (numberAt__c I), lendC_good numberAt__g⟩

theorem get_ (b : Str) : Spc Tryz.prog 127 [.v (.one (.p (.list .byte b)))] [] (.ret (.tup [(.one (.p (.int .i64 ((num b).1)))), (.one (.p (.list .byte ((num b).2.1)))), (.one (.p (.bool ((num b).2.2))))])) [] := by
  refine spcG tab_ok mixed Tryz.func127 (by kernel_rfl) { rl := [1], keep := some [0, 2, 3, 4, 5, 6, 9, 10] } [] (by kernel_rfl) ?_
  intro I X hI hX
  refine ev_rule (.code 0 [1, 1, 0, 1, 0] ⟨[(10, (.v (.one (.p (.int .i64 0))))), (9, (.v (.one (.p (.int .i64 (I.imin (I.len (α := UInt8) b) 5)))))), (5, (.v (.one (.p (.int .i64 0))))), (4, (.v (.one (.p (.val (.bool .false)))))), (3, (.v (.one .nilS))), (2, (.v (.one (.p (.int .i64 0))))), (0, (.v (.one (.p (.list .byte b)))))], [], 45, none⟩) (by kernel_rfl) ?_
  simp only [instL]
  generalize hr : num b = r
  obtain ⟨r1, r2, r3⟩ := r
  refine loop_inv hI tab_ok mixed [] hX [0, 5, 9, 10] (fun (g : Nat × Int) => match g with | (i, u) => i ≤ b.length ∧ i ≤ 5 ∧ 0 ≤ u ∧ u < (128 ^ i : Nat) ∧ numF i u.toNat (b.drop i) = num b) (fun (g : Nat × Int) => match g with | (i, u) => ⟨[(0, .v (.one (.p (.list .byte b)))), (5, .v (.one (.p (.int .i64 u)))), (9, .v (.one (.p (.int .i64 ((I.imin (I.len (α := UInt8) b) 5)))))), (10, .v (.one (.p (.int .i64 i))))], [], 45, none⟩) (fun (g : Nat × Int) => match g with | (i, u) => b.length - i) (0, 0) (by kernel_rfl) (by kernel_rfl) ?_ ?_
  · exact ⟨Nat.zero_le _, by omega, Int.le_refl _, by simp, rfl⟩
  rintro ⟨i, u⟩ ⟨h1, h2, h3, h4, h6⟩ A hA
  simp only at hA
  refine ev_rule (let y3 := I.b2i (I.get (α := UInt8) b 0 (Nat.cast i)); let y0 := I.bits Go.BinOp.or Go.IntKind.i64 u (I.shl Go.IntKind.i64 (I.wrap Go.IntKind.i64 (I.bits Go.BinOp.and Go.IntKind.u8 y3 127)) (I.mul 7 (Nat.cast i))); let y1 := I.inb (Nat.cast i) (I.len (α := UInt8) b); let y2 := I.cut (α := UInt8) b (I.add (Nat.cast i) 1) (I.len (α := UInt8) b); let y4 := I.inr Go.IntKind.i64 (I.add (Nat.cast i) 1); .br (I.ilt (Nat.cast i) (I.imin (I.len (α := UInt8) b) 5)) (.need y1 (.need y1 (.need (I.inr Go.IntKind.i64 (I.mul 7 (Nat.cast i))) (.need (I.nng (I.mul 7 (Nat.cast i))) (.need y1 (.need y1 (.br (I.ilt y3 128) (.need (I.inr Go.IntKind.i64 (I.sub y0 1)) (.need y4 (.need (I.cutb (I.add (Nat.cast i) 1) (I.len (α := UInt8) b) (I.len (α := UInt8) b)) (.br (I.ieq (Nat.cast i) 0) (.fin (.ret (.tup [(.one (.p (.int .i64 (I.sub y0 1)))), (.one (.p (.list .byte y2))), (.one (.p (.bool Bool.true)))])) []) (.need y1 (.need y1 (.fin (.ret (.tup [(.one (.p (.int .i64 (I.sub y0 1)))), (.one (.p (.list .byte y2))), (.one (.p (.bool (I.ilt 0 y3))))])) []))))))) (.need y4 (.need (A ⟨[(0, (.v (.one (.p (.list .byte b))))), (5, (.v (.one (.p (.int .i64 y0))))), (9, (.v (.one (.p (.int .i64 (I.imin (I.len (α := UInt8) b) 5)))))), (10, (.v (.one (.p (.int .i64 (I.add (Nat.cast i) 1))))))], [], 45, none⟩) .qed))))))))) (.fin (.ret (.tup [(.one (.p (.int .i64 0))), (.one (.p (.list .byte ([] : List UInt8)))), (.one (.p (.bool Bool.false)))])) [])) (by kernel_rfl) ?_
  simp only [instL]
  subst hI
  simp only [nrmA, decide_eq_true_eq, decide_eq_false_iff_not, beq_iff_eq, beq_eq_false_iff_ne, Bool.not_eq_true', Bool.not_eq_false', Bool.and_eq_true, Bool.and_true, Bool.true_and, and_true, true_and, ne_eq, Int.toNat_zero, Nat.sub_zero, List.drop_zero, i64_min, i64_max, u8_min, u8_max, ofNat_b2i, b2i_inj, Int.toNat_natCast, Int.ofNat_eq_natCast, UInt8.ofNat_toNat, AOut.ret.injEq, D.v.injEq, D.tup.injEq, V0.one.injEq, C.p.injEq, P.bool.injEq, P.int.injEq, P.str.injEq, Bool.false_eq_true, Bool.true_eq_false, imp_false, Decidable.not_not, not_true_eq_false, not_false_eq_true, List.cons.injEq, P.list.injEq, HO.row.injEq, heq_eq_eq, reduceCtorEq, false_and, and_false]
  obtain ⟨u, rfl⟩ := Int.eq_ofNat_of_zero_le h3
  rw [Int.toNat_natCast] at h6
  have hs1 := fun (h : i < b.length) (h' : i < 5) => numF_step u h h'
  generalize hc : (b.getD i 0).toNat = c at hs1 ⊢
  have hc256 : c < 256 := by rw [← hc]; exact UInt8.toNat_lt _
  have hlim : ((i : Int) < if ((b.length : Nat) : Int) ≤ 5 then ((b.length : Nat) : Int) else 5) ↔ (i < b.length ∧ i < 5) := by split <;> omega
  have hbits : IntKind.i64.bits = 64 := by decide
  have hpw : 2 ^ (7 * i) = 128 ^ i := by rw [Nat.pow_mul]
  have hq : i < 5 → 128 ^ i ≤ 128 ^ 4 := fun h => Nat.pow_le_pow_right (by omega) (by omega)
  have e1 : i < 5 → IntKind.i64.wrap (IntKind.u8.wrap ((BitVec.ofInt IntKind.u8.bits (c : Int) &&& BitVec.ofInt IntKind.u8.bits 127).toNat : Int)) * 2 ^ min (7 * (i : Int)).toNat IntKind.i64.bits = ((c % 128 * 2 ^ (7 * i) : Nat) : Int) := by
    intro h5
    rw [and_u8 c hc256, wrap_i64 _ (by omega), hbits, show min (7 * (i : Int)).toNat 64 = 7 * i by omega]
    exact (Int.natCast_mul _ _).symm
  rw [hlim]
  have hW : i < 5 → ∀ W, IntKind.i64.wrap ((BitVec.ofInt IntKind.i64.bits (u : Int) ||| BitVec.ofInt IntKind.i64.bits (IntKind.i64.wrap (IntKind.i64.wrap (IntKind.u8.wrap ((BitVec.ofInt IntKind.u8.bits (c : Int) &&& BitVec.ofInt IntKind.u8.bits 127).toNat : Int)) * 2 ^ min (7 * (i : Int)).toNat IntKind.i64.bits))).toNat : Int) = W → W = ((u + c % 128 * 128 ^ i : Nat) : Int) := by
    intro h5 W h
    have hm : c % 128 * 2 ^ (7 * i) ≤ 127 * 2 ^ (7 * i) := Nat.mul_le_mul_right _ (by omega)
    have h2 : 2 ^ (7 * i) ≤ 2 ^ 28 := Nat.pow_le_pow_right (by omega) (by omega)
    rw [e1 h5, wrap_i64 ((c % 128 * 2 ^ (7 * i) : Nat) : Int) (by omega), or_i64 u (c % 128) i (by rw [hpw]; omega) (by omega) (by omega), hpw] at h
    exact h.symm
  generalize hWd : IntKind.i64.wrap ((BitVec.ofInt IntKind.i64.bits (u : Int) ||| BitVec.ofInt IntKind.i64.bits (IntKind.i64.wrap (IntKind.i64.wrap (IntKind.u8.wrap ((BitVec.ofInt IntKind.u8.bits (c : Int) &&& BitVec.ofInt IntKind.u8.bits 127).toNat : Int)) * 2 ^ min (7 * (i : Int)).toNat IntKind.i64.bits))).toNat : Int) = W at hW ⊢
  have hW := fun h => hW h W rfl
  have hp : 128 ^ (i + 1) = 128 ^ i * 128 := Nat.pow_succ ..
  have hend := numF_end (b := b) (i := i) u
  have hr' := hr
  rw [← h6] at hr'
  generalize hQ : 128 ^ i = Q at *
  have hm : c % 128 * Q ≤ 127 * Q := Nat.mul_le_mul_right _ (by omega)
  have hcm : c < 128 → c * Q = c % 128 * Q := fun h => by rw [Nat.mod_eq_of_lt h]
  generalize hX : c % 128 * Q = X at *
  have hcut : List.take (List.length b - ((i : Int) + 1).toNat) (List.drop ((i : Int) + 1).toNat b) = b.drop (i + 1) := by
    rw [show ((i : Int) + 1).toNat = i + 1 by omega, List.take_of_length_le (by simp)]
  rw [hcut]
  have hfin : ¬ (i < b.length ∧ i < 5) → 0 = r1 ∧ ([] : Str) = r2 ∧ false = r3 := by
    intro h
    rw [hend (by omega)] at hr'
    simpa using hr'
  have hret : i < b.length ∧ i < 5 → c < 128 → W - 1 = r1 ∧ b.drop (i + 1) = r2 ∧ decide (i = 0 ∨ 0 < c) = r3 := by
    intro h1 h3
    rw [hs1 h1.1 h1.2] at hr'
    simp only [if_pos h3, hcm h3, Prod.mk.injEq] at hr'
    rw [hW h1.2]
    exact hr'
  have hback : i < b.length ∧ i < 5 → ¬ c < 128 → A ⟨[(0, .v (.one (.p (.list .byte b)))), (5, .v (.one (.p (.int .i64 W)))), (9, .v (.one (.p (.int .i64 ((if ((b.length : Nat) : Int) ≤ 5 then ((b.length : Nat) : Int) else 5)))))), (10, .v (.one (.p (.int .i64 (((i : Int) + 1))))))], [], 45, none⟩ := by
    intro h1 h3
    have g0 := hW h1.2
    have g1 : 0 ≤ W := by omega
    have g2 : W < ((128 ^ (i + 1) : Nat) : Int) := by rw [hp]; omega
    refine hA (i + 1, W) ⟨h1.1, h1.2, g1, g2, ?_⟩ (by simp only; omega)
    rw [← h6, hs1 h1.1 h1.2, if_neg h3, g0, Int.toNat_natCast]
  (repeat' (first | refine And.intro ?_ ?_ | intro _)) <;> first | omega | exact True.intro | exact False.elim ‹False› | skip
  all_goals first
    | exact (hfin (by omega)).1
    | exact (hfin (by omega)).2.1
    | exact (hfin (by omega)).2.2
    | exact (hret (by omega) (by omega)).1
    | exact (hret (by omega) (by omega)).2.1
    | exact hback (by omega) (by omega)
    | (rw [← (hret (by omega) (by omega)).2.2]; simp; omega)
    | skip
  all_goals trace_state
def get__c (I : Alg) (args : List D) (hp : List HO) : Option CT := match args, hp with
  | [.v (.one (.p (.list .byte b)))], [] => (fun (b : Str) => (some (.one ⟨I.hid (True), (.ret (.tup [(.one (.p (.int .i64 (I.hid ((num b).1))))), (.one (.p (.list .byte (I.hid ((num b).2.1))))), (.one (.p (.bool (I.hid ((num b).2.2)))))])), []⟩) : Option CT)) b
  | _, _ => none
theorem get__g : GoodC Tryz.prog 127 (get__c alg) := by
  intro args hp r h
  unfold get__c at h
  split at h
  · cases h; exact fun hn => get_ _
  · cases h
def get__k : Know Tryz.prog := ⟨127, get__c, get__g⟩
def get__l : Know Tryz.prog := ⟨127, fun I => lendC I (get__c I), lendC_good get__g⟩
end Go.Proofs.YtjapkdcomcgamaaGreatDoor
