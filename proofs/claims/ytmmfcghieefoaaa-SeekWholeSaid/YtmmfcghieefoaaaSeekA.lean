/- A mark in a stream: the walks. -/
import Derived.Test.YtmmfcghieefoaaaBase
import Derived.Test.YtmmfcghieefoaaaSeekL
set_option linter.all false
namespace Go.Proofs.Ytmmfcghieefoaaa
open Go Go.Sep Go.Ab
set_option maxRecDepth 100000
set_option linter.unusedSimpArgs false
set_option linter.unusedVariables false

def cfgS : Cfg := { sl := [⟨76, 0, .byte, some 5⟩, ⟨76, 1, .int, some 3⟩], nr := [6] }
def bords (m : Str) : List Int := (List.range (m.length + 1)).map fun i => ((P.border m i : Nat) : Int)
theorem bords_get (m : Str) (i : Int) (h0 : 0 ≤ i) (h : i ≤ m.length) : (bords m).getD i.toNat 0 = (P.border m i.toNat : Nat) := by
  unfold bords
  rw [List.getD_eq_getElem?_getD, List.getElem?_map, List.getElem?_range (by omega)]; rfl
theorem bords_len (m : Str) : (bords m).length = m.length + 1 := by simp [bords]
def feedA (m : Str) (n : Nat) (c : UInt8) : Str × Nat × Bool := if m = [] then ([c], n, false) else P.feed m n c


theorem fits_ (m : Str) (n : Int) (bs : List Int) : Spc Try.prog 21 [.v (.one (.ptr 0 0))] [.pack [.obj 76 [(.row 1), (.row 2), (.p (.int .i64 n))], .row .byte 5 m, .row .int 3 bs]] (.ret (.v (.one (.p (.int .i64 n))))) [.pack [.obj 76 [(.row 1), (.row 2), (.p (.int .i64 n))], .row .byte 5 m, .row .int 3 bs]] := by
  refine spcG tab_ok mixed Try.func21 (by kernel_rfl) { cfgS with keep := some [0, 2] } [] (by kernel_rfl) ?_
  intro I X hI hX
  refine ev_rule (.fin (.ret (.v (.one (.p (.int .i64 n))))) [(.pack [(.obj 76 [(.row 1), (.row 2), (.p (.int .i64 n))]), (.row .byte 5 m), (.row .int 3 bs)])]) (by kernel_rfl) ?_
  simp only [inst_need, inst_br, inst_both, inst_fin, inst_qed, inst_code]
  trivial
def fits__c (I : Alg) (args : List D) (hp : List HO) : Option CR := match args, hp with
  | [.v (.one (.ptr 0 0))], [.pack [.obj 76 [(.row 1), (.row 2), (.p (.int .i64 n))], .row .byte 5 m, .row .int 3 bs]] => (fun (m : Str) (n : Int) (bs : List Int) => (some ⟨I.hid (True), (.ret (.v (.one (.p (.int .i64 n))))), [.pack [.obj 76 [(.row 1), (.row 2), (.p (.int .i64 n))], .row .byte 5 m, .row .int 3 bs]]⟩ : Option CR)) m n bs
  | _, _ => none
theorem fits__g : GoodC Try.prog 21 (fits__c alg) := by
  intro args hp r h hn
  unfold fits__c at h
  split at h
  · cases h; exact fits_ _ _ _
  · cases h
def fits__k : Know Try.prog := ⟨21, fits__c, fits__g⟩
def fits__l : Know Try.prog := ⟨21, fun I => lendC I (fits__c I), lendC_good fits__g⟩

theorem rest_ (m : Str) (n : Int) (bs : List Int) (hneed : 0 ≤ n ∧ n ≤ m.length ∧ m.length ≤ 100000000) : Spc Try.prog 20 [.v (.one (.ptr 0 0))] [.pack [.obj 76 [(.row 1), (.row 2), (.p (.int .i64 n))], .row .byte 5 m, .row .int 3 bs]] (.ret (.v (.one (.row 1)))) [.pack [.obj 76 [(.row 1), (.row 2), (.p (.int .i64 0))], .row .byte 5 m, .row .int 3 bs], .row .byte 5 ((m.take n.toNat))] := by
  refine spcG tab_ok mixed Try.func20 (by kernel_rfl) { cfgS with keep := some [0, 2, 3] } [clone__k, clone__l] (by kernel_rfl) ?_
  intro I X hI hX
  refine ev_rule (.need (I.cutb 0 n (I.len (α := UInt8) m)) (.need (I.hid (α := (Prop)) (LE.le (List.length (I.cut (α := UInt8) m 0 n)) 100000000)) (.fin (.ret (.v (.one (.row 1)))) [(.pack [(.obj 76 [(.row 1), (.row 2), (.p (.int .i64 0))]), (.row .byte 5 m), (.row .int 3 bs)]), (.row .byte 5 (I.cut (α := UInt8) m 0 n))]))) (by kernel_rfl) ?_
  simp only [inst_need, inst_br, inst_both, inst_fin, inst_qed, inst_code]
  subst hI
  simp only [alg_b2i, alg_i2b, alg_add, alg_sub, alg_mul, alg_quo, alg_rem, alg_wrap, alg_imin, alg_imax, alg_ilt, alg_ile, alg_ieq, alg_bnot, alg_beq, alg_ban, alg_seq, alg_len, alg_app, alg_cut, alg_get, alg_set, alg_rep, alg_inr, alg_inb, alg_cutb, alg_same, alg_few, alg_nne, alg_nng, alg_hid, alg_shl, alg_shr, alg_bits, decide_eq_true_eq, decide_eq_false_iff_not, beq_iff_eq, beq_eq_false_iff_ne, Bool.not_eq_true', Bool.not_eq_false', and_true, true_and, ne_eq, Int.toNat_zero, Nat.sub_zero, List.drop_zero, i64_min, i64_max, u8_min, u8_max, ofNat_b2i, b2i_inj, Int.toNat_natCast, Int.ofNat_eq_natCast, UInt8.ofNat_toNat, AOut.ret.injEq, D.v.injEq, D.tup.injEq, V0.one.injEq, C.p.injEq, P.bool.injEq, P.int.injEq, P.str.injEq, Bool.false_eq_true, Bool.true_eq_false, imp_false, Decidable.not_not, not_true_eq_false, not_false_eq_true]
  refine ⟨⟨Int.le_refl _, hneed.1, hneed.2.1⟩, ?_⟩
  simp only [List.length_take]; omega
def rest__c (I : Alg) (args : List D) (hp : List HO) : Option CR := match args, hp with
  | [.v (.one (.ptr 0 0))], [.pack [.obj 76 [(.row 1), (.row 2), (.p (.int .i64 n))], .row .byte 5 m, .row .int 3 bs]] => (fun (m : Str) (n : Int) (bs : List Int) => (some ⟨I.hid (0 ≤ n ∧ n ≤ m.length ∧ m.length ≤ 100000000), (.ret (.v (.one (.row 1)))), [.pack [.obj 76 [(.row 1), (.row 2), (.p (.int .i64 0))], .row .byte 5 m, .row .int 3 bs], .row .byte 5 (I.hid ((m.take n.toNat)))]⟩ : Option CR)) m n bs
  | _, _ => none
theorem rest__g : GoodC Try.prog 20 (rest__c alg) := by
  intro args hp r h hn
  unfold rest__c at h
  split at h
  · cases h; exact rest_ _ _ _ hn
  · cases h
def rest__k : Know Try.prog := ⟨20, rest__c, rest__g⟩
def rest__l : Know Try.prog := ⟨20, fun I => lendC I (rest__c I), lendC_good rest__g⟩

theorem feed_ (m : Str) (n : Int) (bs : List Int) (k : Int) (hneed : bs = bords m ∧ m.length ≤ 1000000 ∧ 0 ≤ n ∧ (m = [] ∨ n < m.length) ∧ 0 ≤ k ∧ k ≤ 255) : Spc Try.prog 22 [.v (.one (.ptr 0 0)), .v (.one (.p (.int .u8 k)))] [.pack [.obj 76 [(.row 1), (.row 2), (.p (.int .i64 n))], .row .byte 5 m, .row .int 3 bs]] (.ret (.tup [(.one (.row 1)), (.one (.p (.bool ((feedA m n.toNat (UInt8.ofNat k.toNat)).2.2))))])) [.pack [.obj 76 [(.row 1), (.row 2), (.p (.int .i64 (((feedA m n.toNat (UInt8.ofNat k.toNat)).2.1 : Int))))], .row .byte 5 m, .row .int 3 bs], .row .byte 5 ((feedA m n.toNat (UInt8.ofNat k.toNat)).1)] := by
  obtain ⟨hbs, hl, hn0, hn, hk0, hk1⟩ := hneed
  generalize hr : feedA m n.toNat (UInt8.ofNat k.toNat) = r
  obtain ⟨out, n', fd⟩ := r
  refine spcG tab_ok mixed Try.func22 (by kernel_rfl) { cfgS with keep := some [0, 1, 4, 5, 6, 7] } [] (by kernel_rfl) ?_
  intro I X hI hX
  refine ev_rule (.br (I.ieq (I.len (α := UInt8) m) 0) (.need (I.inr Go.IntKind.u8 k) (.fin (.ret (.tup [(.one (.row 1)), (.one (.p (.bool Bool.false)))])) [(.pack [(.obj 76 [(.row 1), (.row 2), (.p (.int .i64 n))]), (.row .byte 5 m), (.row .int 3 bs)]), (.row .byte 5 [(I.i2b k)])])) (.code 0 [1, 1, 1, 0, 0] ⟨[(6, (.v (.one (.row 3)))), (5, (.v (.one (.p (.val (.bool .false)))))), (4, (.v (.one .nilS))), (0, (.v (.one (.ptr 0 0)))), (1, (.v (.one (.p (.int .u8 k)))))], [(.obj 76 [(.row 1), (.row 2), (.p (.int .i64 n))]), (.row .byte 5 m), (.row .int 3 bs), (.row .byte 5 [])], 100⟩)) (by kernel_rfl) ?_
  simp only [inst_need, inst_br, inst_both, inst_fin, inst_qed, inst_code]
  refine ⟨fun h => ?_, fun h => ?_⟩
  · subst hI
    simp only [alg_b2i, alg_i2b, alg_add, alg_sub, alg_mul, alg_quo, alg_rem, alg_wrap, alg_imin, alg_imax, alg_ilt, alg_ile, alg_ieq, alg_bnot, alg_beq, alg_ban, alg_seq, alg_len, alg_app, alg_cut, alg_get, alg_set, alg_rep, alg_inr, alg_inb, alg_cutb, alg_same, alg_few, alg_nne, alg_nng, alg_hid, alg_shl, alg_shr, alg_bits, decide_eq_true_eq, decide_eq_false_iff_not, beq_iff_eq, beq_eq_false_iff_ne, Bool.not_eq_true', Bool.not_eq_false', and_true, true_and, ne_eq, Int.toNat_zero, Nat.sub_zero, List.drop_zero, i64_min, i64_max, u8_min, u8_max, ofNat_b2i, b2i_inj, Int.toNat_natCast, Int.ofNat_eq_natCast, UInt8.ofNat_toNat, AOut.ret.injEq, D.v.injEq, D.tup.injEq, V0.one.injEq, C.p.injEq, P.bool.injEq, P.int.injEq, P.str.injEq, Bool.false_eq_true, Bool.true_eq_false, imp_false, Decidable.not_not, not_true_eq_false, not_false_eq_true] at h
    have : m = [] := List.eq_nil_of_length_eq_zero (by omega)
    subst this
    simp only [feedA, if_true, Prod.mk.injEq] at hr
    obtain ⟨rfl, rfl, rfl⟩ := hr
    simp only [alg_b2i, alg_i2b, alg_add, alg_sub, alg_mul, alg_quo, alg_rem, alg_wrap, alg_imin, alg_imax, alg_ilt, alg_ile, alg_ieq, alg_bnot, alg_beq, alg_ban, alg_seq, alg_len, alg_app, alg_cut, alg_get, alg_set, alg_rep, alg_inr, alg_inb, alg_cutb, alg_same, alg_few, alg_nne, alg_nng, alg_hid, alg_shl, alg_shr, alg_bits, decide_eq_true_eq, decide_eq_false_iff_not, beq_iff_eq, beq_eq_false_iff_ne, Bool.not_eq_true', Bool.not_eq_false', and_true, true_and, ne_eq, Int.toNat_zero, Nat.sub_zero, List.drop_zero, i64_min, i64_max, u8_min, u8_max, ofNat_b2i, b2i_inj, Int.toNat_natCast, Int.ofNat_eq_natCast, UInt8.ofNat_toNat, AOut.ret.injEq, D.v.injEq, D.tup.injEq, V0.one.injEq, C.p.injEq, P.bool.injEq, P.int.injEq, P.str.injEq, Bool.false_eq_true, Bool.true_eq_false, imp_false, Decidable.not_not, not_true_eq_false, not_false_eq_true]
    refine ⟨⟨hk0, hk1⟩, ?_⟩
    rw [Int.toNat_of_nonneg hn0]
  have hm : m ≠ [] := by
    subst hI
    simp only [alg_b2i, alg_i2b, alg_add, alg_sub, alg_mul, alg_quo, alg_rem, alg_wrap, alg_imin, alg_imax, alg_ilt, alg_ile, alg_ieq, alg_bnot, alg_beq, alg_ban, alg_seq, alg_len, alg_app, alg_cut, alg_get, alg_set, alg_rep, alg_inr, alg_inb, alg_cutb, alg_same, alg_few, alg_nne, alg_nng, alg_hid, alg_shl, alg_shr, alg_bits, decide_eq_true_eq, decide_eq_false_iff_not, beq_iff_eq, beq_eq_false_iff_ne, Bool.not_eq_true', Bool.not_eq_false', and_true, true_and, ne_eq, Int.toNat_zero, Nat.sub_zero, List.drop_zero, i64_min, i64_max, u8_min, u8_max, ofNat_b2i, b2i_inj, Int.toNat_natCast, Int.ofNat_eq_natCast, UInt8.ofNat_toNat, AOut.ret.injEq, D.v.injEq, D.tup.injEq, V0.one.injEq, C.p.injEq, P.bool.injEq, P.int.injEq, P.str.injEq, Bool.false_eq_true, Bool.true_eq_false, imp_false, Decidable.not_not, not_true_eq_false, not_false_eq_true] at h
    rintro rfl; simp at h
  have hm0 : 0 < m.length := by cases m <;> simp_all
  have hn : n < m.length := hn.resolve_left hm
  simp only [feedA, if_neg hm] at hr
  refine loop_inv hI tab_ok mixed [clone__l] hX [0, 1, 6] (fun (p : Nat × Str) => p.1 ≤ n.toNat ∧ p.2.length + p.1 = n.toNat ∧ P.fall m (UInt8.ofNat k.toNat) p.1 p.1 = P.fall m (UInt8.ofNat k.toNat) n.toNat n.toNat ∧ p.2 ++ m.take p.1 = m.take n.toNat ∧ p.2 = m.take p.2.length)
    (fun p => ⟨[(0, .v (.one (.ptr 0 0))), (1, .v (.one (.p (.int .u8 k)))), (6, .v (.one (.row 1)))], [.pack [.obj 76 [.row 1, .row 2, .p (.int .i64 p.1)], .row .byte 5 m, .row .int 3 bs], .row .byte 5 p.2], 100⟩) (fun p => p.1) (n.toNat, [])
    (by kernel_rfl) ?_ ⟨Nat.le_refl _, by simp, rfl, by simp, by simp⟩ ?_
  · simp only [Int.toNat_of_nonneg hn0]; kernel_rfl
  rintro ⟨j, o⟩ ⟨hjn, hoj, hfall, hcat, hpre⟩ A hA
  simp only at hjn hoj hfall hcat hpre
  refine ev_rule (.br (I.ilt 0 (Nat.cast j)) (.need (I.inb (Nat.cast j) (I.len (α := UInt8) m)) (.need (I.inb (Nat.cast j) (I.len (α := UInt8) m)) (.br (I.bnot (I.ieq (I.b2i (I.get (α := UInt8) m 0 (Nat.cast j))) k)) (.need (I.inb (Nat.cast j) (I.len (α := Int) bs)) (.need (I.inb (Nat.cast j) (I.len (α := Int) bs)) (.need (I.inr Go.IntKind.i64 (I.sub (Nat.cast j) (I.get (α := Int) bs 0 (Nat.cast j)))) (.need (I.cutb 0 (I.sub (Nat.cast j) (I.get (α := Int) bs 0 (Nat.cast j))) (I.len (α := UInt8) m)) (.need (I.few (I.add (I.len (α := UInt8) o) (I.len (α := UInt8) (I.cut (α := UInt8) m 0 (I.sub (Nat.cast j) (I.get (α := Int) bs 0 (Nat.cast j)))))) 100000000) (.need (A ⟨[(0, (.v (.one (.ptr 0 0)))), (1, (.v (.one (.p (.int .u8 k))))), (6, (.v (.one (.row 1))))], [(.pack [(.obj 76 [(.row 1), (.row 2), (.p (.int .i64 (I.get (α := Int) bs 0 (Nat.cast j))))]), (.row .byte 5 m), (.row .int 3 bs)]), (.row .byte 5 (I.app (α := UInt8) o (I.cut (α := UInt8) m 0 (I.sub (Nat.cast j) (I.get (α := Int) bs 0 (Nat.cast j))))))], 100⟩) .qed)))))) (.need (I.inb (Nat.cast j) (I.len (α := UInt8) m)) (.need (I.inb (Nat.cast j) (I.len (α := UInt8) m)) (.br (I.bnot (I.ieq (I.b2i (I.get (α := UInt8) m 0 (Nat.cast j))) k)) (.need (I.inr Go.IntKind.u8 k) (.need (I.few (I.add (I.len (α := UInt8) o) (I.len (α := UInt8) [(I.i2b k)])) 100000000) (.fin (.ret (.tup [(.one (.row 1)), (.one (.p (.bool Bool.false)))])) [(.pack [(.obj 76 [(.row 1), (.row 2), (.p (.int .i64 (Nat.cast j)))]), (.row .byte 5 m), (.row .int 3 bs)]), (.row .byte 5 (I.app (α := UInt8) o [(I.i2b k)]))]))) (.need (I.inr Go.IntKind.i64 (I.add (Nat.cast j) 1)) (.br (I.ilt (I.add (Nat.cast j) 1) (I.len (α := UInt8) m)) (.fin (.ret (.tup [(.one (.row 1)), (.one (.p (.bool Bool.false)))])) [(.pack [(.obj 76 [(.row 1), (.row 2), (.p (.int .i64 (I.add (Nat.cast j) 1)))]), (.row .byte 5 m), (.row .int 3 bs)]), (.row .byte 5 o)]) (.fin (.ret (.tup [(.one (.row 1)), (.one (.p (.bool Bool.true)))])) [(.pack [(.obj 76 [(.row 1), (.row 2), (.p (.int .i64 0))]), (.row .byte 5 m), (.row .int 3 bs)]), (.row .byte 5 o)]))))))))) (.need (I.inb (Nat.cast j) (I.len (α := UInt8) m)) (.need (I.inb (Nat.cast j) (I.len (α := UInt8) m)) (.br (I.bnot (I.ieq (I.b2i (I.get (α := UInt8) m 0 (Nat.cast j))) k)) (.need (I.inr Go.IntKind.u8 k) (.need (I.few (I.add (I.len (α := UInt8) o) (I.len (α := UInt8) [(I.i2b k)])) 100000000) (.fin (.ret (.tup [(.one (.row 1)), (.one (.p (.bool Bool.false)))])) [(.pack [(.obj 76 [(.row 1), (.row 2), (.p (.int .i64 (Nat.cast j)))]), (.row .byte 5 m), (.row .int 3 bs)]), (.row .byte 5 (I.app (α := UInt8) o [(I.i2b k)]))]))) (.need (I.inr Go.IntKind.i64 (I.add (Nat.cast j) 1)) (.br (I.ilt (I.add (Nat.cast j) 1) (I.len (α := UInt8) m)) (.fin (.ret (.tup [(.one (.row 1)), (.one (.p (.bool Bool.false)))])) [(.pack [(.obj 76 [(.row 1), (.row 2), (.p (.int .i64 (I.add (Nat.cast j) 1)))]), (.row .byte 5 m), (.row .int 3 bs)]), (.row .byte 5 o)]) (.fin (.ret (.tup [(.one (.row 1)), (.one (.p (.bool Bool.true)))])) [(.pack [(.obj 76 [(.row 1), (.row 2), (.p (.int .i64 0))]), (.row .byte 5 m), (.row .int 3 bs)]), (.row .byte 5 o)]))))))) (by kernel_rfl) ?_
  simp only [inst_need, inst_br, inst_both, inst_fin, inst_qed, inst_code]
  subst hI hbs
  simp only [alg_b2i, alg_i2b, alg_add, alg_sub, alg_mul, alg_quo, alg_rem, alg_wrap, alg_imin, alg_imax, alg_ilt, alg_ile, alg_ieq, alg_bnot, alg_beq, alg_ban, alg_seq, alg_len, alg_app, alg_cut, alg_get, alg_set, alg_rep, alg_inr, alg_inb, alg_cutb, alg_same, alg_few, alg_nne, alg_nng, alg_hid, alg_shl, alg_shr, alg_bits, decide_eq_true_eq, decide_eq_false_iff_not, beq_iff_eq, beq_eq_false_iff_ne, Bool.not_eq_true', Bool.not_eq_false', and_true, true_and, ne_eq, Int.toNat_zero, Nat.sub_zero, List.drop_zero, i64_min, i64_max, u8_min, u8_max, ofNat_b2i, b2i_inj, Int.toNat_natCast, Int.ofNat_eq_natCast, UInt8.ofNat_toNat, AOut.ret.injEq, D.v.injEq, D.tup.injEq, V0.one.injEq, C.p.injEq, P.bool.injEq, P.int.injEq, P.str.injEq, Bool.false_eq_true, Bool.true_eq_false, imp_false, Decidable.not_not, not_true_eq_false, not_false_eq_true]
  have hb := bords_get m j (by omega) (by omega)
  simp only [Int.toNat_natCast] at hb
  have hbl : 0 < j → P.border m j < j := P.border_lt
  have hj : j < m.length := by omega
  have hge : m.getD j 0 = m[j] := by simp [hj]
  rw [hb, bords_len, hge]
  have hcc : (m[j].toNat : Int) = k ↔ m[j]? = some (UInt8.ofNat k.toNat) := by
    rw [List.getElem?_eq_getElem hj, Option.some.injEq, ← UInt8.toNat_inj, UInt8.toNat_ofNat']
    omega
  simp only [hcc]
  have hfeed := hr
  simp only [P.feed] at hfeed
  rw [← hfall] at hfeed
  refine ⟨fun h0 => ⟨by omega, by omega, fun hne => ⟨by omega, by omega, by omega, by omega, by simp only [List.length_take]; omega, ?_⟩, fun heq => ⟨by omega, by omega, fun hne => (hne heq).elim, fun _ => ⟨by omega, fun hlt => ?_, fun hlt => ?_⟩⟩⟩, fun h0 => ⟨by omega, by omega, fun hne => ?_, fun heq => ⟨by omega, fun hlt => ?_, fun hlt => ?_⟩⟩⟩
  · obtain ⟨h1, h2⟩ := P.fall_take (m := m) (n := n.toNat) (k := o.length) (j := j) (by omega) (by omega) (by omega) (by rw [← hpre]; exact hcat)
    have hx : (↑j - ↑(P.border m j) : Int).toNat = j - P.border m j := by omega
    have hbj := hbl (by omega)
    rw [hx]
    refine hA (P.border m j, o ++ m.take (j - P.border m j)) ⟨by simp only; omega, ?_, ?_, ?_, ?_⟩ hbj
    · simp only [List.length_append, List.length_take]; omega
    · rw [← hfall]; exact (P.fall_next (by omega) hne).symm
    · simp only; rw [← h2, ← h1, ← hpre]
    · have : (o ++ m.take (j - P.border m j)).length = o.length + (j - P.border m j) := by simp only [List.length_append, List.length_take]; omega
      simp only; rw [this, ← h1, ← hpre]
  · have hstop := P.fall_stop (c := UInt8.ofNat k.toNat) (.inr heq)
    rw [hstop, if_pos heq, if_pos (by omega)] at hfeed
    simp only [Prod.mk.injEq] at hfeed
    obtain ⟨rfl, rfl, rfl⟩ := hfeed
    rw [show n.toNat - j = o.length by omega, ← hpre]
    exact ⟨rfl, rfl⟩
  · have hstop := P.fall_stop (c := UInt8.ofNat k.toNat) (.inr heq)
    rw [hstop, if_pos heq, if_neg (by omega)] at hfeed
    simp only [Prod.mk.injEq] at hfeed
    obtain ⟨rfl, rfl, rfl⟩ := hfeed
    rw [show n.toNat - j = o.length by omega, ← hpre]
    exact ⟨rfl, rfl⟩
  all_goals
    have hj0 : j = 0 := by omega
    subst hj0
    have hstop := P.fall_stop (m := m) (c := UInt8.ofNat k.toNat) (j := 0) (.inl rfl)
    rw [hstop] at hfeed
    rw [show n.toNat = o.length by omega, Nat.sub_zero, ← hpre] at hfeed
  · rw [if_neg hne] at hfeed
    simp only [Prod.mk.injEq] at hfeed
    obtain ⟨rfl, rfl, rfl⟩ := hfeed
    exact ⟨⟨hk0, hk1⟩, by simp only [List.length_cons, List.length_nil]; omega, rfl, rfl⟩
  · rw [if_pos heq, if_pos (by omega)] at hfeed
    simp only [Prod.mk.injEq] at hfeed
    obtain ⟨rfl, rfl, rfl⟩ := hfeed
    exact ⟨rfl, rfl⟩
  · rw [if_pos heq, if_neg (by omega)] at hfeed
    simp only [Prod.mk.injEq] at hfeed
    obtain ⟨rfl, rfl, rfl⟩ := hfeed
    exact ⟨rfl, rfl⟩
def feed__c (I : Alg) (args : List D) (hp : List HO) : Option CR := match args, hp with
  | [.v (.one (.ptr 0 0)), .v (.one (.p (.int .u8 k)))], [.pack [.obj 76 [(.row 1), (.row 2), (.p (.int .i64 n))], .row .byte 5 m, .row .int 3 bs]] => (fun (m : Str) (n : Int) (bs : List Int) (k : Int) => (some ⟨I.hid (bs = bords m ∧ m.length ≤ 1000000 ∧ 0 ≤ n ∧ (m = [] ∨ n < m.length) ∧ 0 ≤ k ∧ k ≤ 255), (.ret (.tup [(.one (.row 1)), (.one (.p (.bool (I.hid ((feedA m n.toNat (UInt8.ofNat k.toNat)).2.2)))))])), [.pack [.obj 76 [(.row 1), (.row 2), (.p (.int .i64 (I.hid (((feedA m n.toNat (UInt8.ofNat k.toNat)).2.1 : Int)))))], .row .byte 5 m, .row .int 3 bs], .row .byte 5 (I.hid ((feedA m n.toNat (UInt8.ofNat k.toNat)).1))]⟩ : Option CR)) m n bs k
  | _, _ => none
theorem feed__g : GoodC Try.prog 22 (feed__c alg) := by
  intro args hp r h hn
  unfold feed__c at h
  split at h
  · cases h; exact feed_ _ _ _ _ hn
  · cases h
def feed__k : Know Try.prog := ⟨22, feed__c, feed__g⟩
def feed__l : Know Try.prog := ⟨22, fun I => lendC I (feed__c I), lendC_good feed__g⟩

def bordsTo (m : Str) (i : Nat) : List Int := (List.range (m.length + 1)).map fun q => if q < i then ((P.border m q : Nat) : Int) else 0
theorem bordsTo_all (m : Str) (i : Nat) (h : m.length < i) : bordsTo m i = bords m := by
  unfold bordsTo bords
  refine List.map_congr_left fun q hq => ?_
  rw [if_pos (by have := List.mem_range.1 hq; omega)]
theorem bordsTo_two (m : Str) : bordsTo m 2 = List.replicate (m.length + 1) 0 := by
  unfold bordsTo
  refine List.ext_getElem (by simp) fun q h1 h2 => ?_
  simp only [List.getElem_map, List.getElem_range, List.getElem_replicate]
  split
  · have : q = 0 ∨ q = 1 := by omega
    rcases this with rfl | rfl
    · simp [P.border, P.heldFrom]
    · simp [P.border, P.heldFrom]
  · rfl
theorem bordsTo_len (m : Str) (i : Nat) : (bordsTo m i).length = m.length + 1 := by simp [bordsTo]
theorem bordsTo_get (m : Str) (i q : Nat) (h : q < i) (hm : q ≤ m.length) : (bordsTo m i).getD q 0 = (P.border m q : Nat) := by
  unfold bordsTo
  rw [List.getD_eq_getElem?_getD, List.getElem?_map, List.getElem?_range (by omega)]
  simp [h]
theorem bordsTo_set (m : Str) (i : Nat) : (bordsTo m i).set i ((P.border m i : Nat) : Int) = bordsTo m (i + 1) := by
  unfold bordsTo
  refine List.ext_getElem (by simp) fun q h1 h2 => ?_
  simp only [List.getElem_set, List.getElem_map, List.getElem_range]
  by_cases h : i = q
  · subst h; simp
  · rw [if_neg h]
    by_cases hq : q < i
    · rw [if_pos hq, if_pos (by omega)]
    · rw [if_neg hq, if_neg (by omega)]

theorem new_ (m : Str) (hneed : m.length ≤ 999999) : Spc Try.prog 18 [.v (.one (.p (.list .byte m)))] [] (.ret (.v (.one (.ptr 0 0)))) [.pack [.obj 76 [(.row 1), (.row 2), (.p (.int .i64 0))], .row .byte 5 m, .row .int 3 ((bords m))]] := by
  refine spcG tab_ok mixed Try.func18 (by kernel_rfl) { cfgS with seam := [2], keep := some [0, 2, 3, 4, 5] } [clone__k, clone__l] (by kernel_rfl) ?_
  intro I X hI hX
  refine ev_rule (.need (I.inr Go.IntKind.i64 (I.add (I.len (α := UInt8) m) 1)) (.both (.need (I.hid (α := (Prop)) (LE.le (List.length m) 100000000)) (.need (I.same (α := Int) (I.add (I.len (α := UInt8) m) 1) (I.add (I.len (α := UInt8) m) 1)) (.need (I.nng (I.add (I.len (α := UInt8) m) 1)) (.need (I.few (I.add (I.len (α := UInt8) m) 1) 1000000) (.code 0 [1, 1, 0] ⟨[(3, (.v (.one (.ptr 2 0)))), (2, (.v (.one (.p (.val (.pointer .none)))))), (0, (.v (.one (.p (.list .byte m)))))], [(.row .byte 5 m), (.row .int 3 (I.rep (α := Int) (I.add (I.len (α := UInt8) m) 1) 0)), (.obj 76 [(.row 0), (.row 1), (.p (.int .i64 0))])], 60⟩))))) (.need (I.same (α := Int) (I.add (I.len (α := UInt8) m) 1) (I.add (I.len (α := UInt8) m) 1)) (.need (I.nng (I.add (I.len (α := UInt8) m) 1)) (.need (I.few (I.add (I.len (α := UInt8) m) 1) 1000000) (.need (I.hid (α := (Prop)) (LE.le (List.length m) 100000000)) (.code 0 [1, 1, 0] ⟨[(3, (.v (.one (.ptr 2 0)))), (2, (.v (.one (.p (.val (.pointer .none)))))), (0, (.v (.one (.p (.list .byte m)))))], [(.row .int 3 (I.rep (α := Int) (I.add (I.len (α := UInt8) m) 1) 0)), (.row .byte 5 m), (.obj 76 [(.row 1), (.row 0), (.p (.int .i64 0))])], 60⟩))))))) (by kernel_rfl) ?_
  simp only [inst_need, inst_br, inst_both, inst_fin, inst_qed, inst_code]
  refine ⟨?n1, ⟨?n2, ?n3, ?n4, ?n5, seam hI tab_ok mixed [] hX [0, 3] ⟨[(0, .v (.one (.p (.list .byte m)))), (3, .v (.one (.ptr 0 0)))], [.pack [.obj 76 [(.row 1), (.row 2), (.p (.int .i64 0))], .row .byte 5 m, .row .int 3 ((I.rep (α := Int) (I.add (I.len (α := UInt8) m) 1) (0 : Int)))]], 60⟩ (by kernel_rfl) ?on⟩, ?n3, ?n4, ?n5, ?n2, seam hI tab_ok mixed [] hX [0, 3] _ (by kernel_rfl) ?on⟩
  case on =>
    have hrep : (I.rep (α := Int) (I.add (I.len (α := UInt8) m) 1) (0 : Int)) = bordsTo m 2 := by
      subst hI
      simp only [alg_b2i, alg_i2b, alg_add, alg_sub, alg_mul, alg_quo, alg_rem, alg_wrap, alg_imin, alg_imax, alg_ilt, alg_ile, alg_ieq, alg_bnot, alg_beq, alg_ban, alg_seq, alg_len, alg_app, alg_cut, alg_get, alg_set, alg_rep, alg_inr, alg_inb, alg_cutb, alg_same, alg_few, alg_nne, alg_nng, alg_hid, alg_shl, alg_shr, alg_bits, decide_eq_true_eq, decide_eq_false_iff_not, beq_iff_eq, beq_eq_false_iff_ne, Bool.not_eq_true', Bool.not_eq_false', and_true, true_and, ne_eq, Int.toNat_zero, Nat.sub_zero, List.drop_zero, i64_min, i64_max, u8_min, u8_max, ofNat_b2i, b2i_inj, Int.toNat_natCast, Int.ofNat_eq_natCast, UInt8.ofNat_toNat, AOut.ret.injEq, D.v.injEq, D.tup.injEq, V0.one.injEq, C.p.injEq, P.bool.injEq, P.int.injEq, P.str.injEq, Bool.false_eq_true, Bool.true_eq_false, imp_false, Decidable.not_not, not_true_eq_false, not_false_eq_true]
      rw [bordsTo_two]; rfl
    rw [hrep]
    generalize hb2 : bordsTo m 2 = b2
    refine ev_rule (.code 0 [1, 1, 1, 0, 1, 0] ⟨[(5, (.v (.one (.p (.int .i64 1))))), (4, (.v (.one (.p (.int .i64 0))))), (0, (.v (.one (.p (.list .byte m))))), (3, (.v (.one (.ptr 0 0))))], [(.pack [(.obj 76 [(.row 1), (.row 2), (.p (.int .i64 0))]), (.row .byte 5 m), (.row .int 3 b2)])], 60⟩) (by kernel_rfl) ?_
    simp only [inst_need, inst_br, inst_both, inst_fin, inst_qed, inst_code]
    refine loop_inv hI tab_ok mixed [clone__k, clone__l] hX [0, 3, 5, 4] (fun (g : Nat × Nat × List Int) => match g with | (i, k, bs) => 1 ≤ i ∧ (i ≤ m.length ∨ i = 1) ∧ k = P.border m i ∧ bs = bordsTo m (i + 1)) (fun (g : Nat × Nat × List Int) => match g with | (i, k, bs) => ⟨[(0, .v (.one (.p (.list .byte m)))), (3, .v (.one (.ptr 0 0))), (5, .v (.one (.p (.int .i64 i)))), (4, .v (.one (.p (.int .i64 k))))], [.pack [.obj 76 [(.row 1), (.row 2), (.p (.int .i64 0))], .row .byte 5 m, .row .int 3 bs]], 60⟩) (fun (g : Nat × Nat × List Int) => match g with | (i, k, bs) => m.length - i) (1, 0, b2) (by kernel_rfl) (by kernel_rfl) ?_ ?_
    · exact ⟨Nat.le_refl _, .inr rfl, by simp [P.border, P.heldFrom], hb2.symm⟩
    rintro ⟨i, k, bs⟩ ⟨hi, him, rfl, hbs⟩ A hA
    simp only at hA
    generalize hk : P.border m i = k at hA
    refine ev_rule (.br (I.ilt (Nat.cast i) (I.len (α := UInt8) m)) (.code 0 [1, 0, 0, 0, 0] ⟨[(0, (.v (.one (.p (.list .byte m))))), (3, (.v (.one (.ptr 0 0)))), (5, (.v (.one (.p (.int .i64 (Nat.cast i)))))), (4, (.v (.one (.p (.int .i64 (Nat.cast k))))))], [(.pack [(.obj 76 [(.row 1), (.row 2), (.p (.int .i64 0))]), (.row .byte 5 m), (.row .int 3 bs)])], 60⟩) (.fin (.ret (.v (.one (.ptr 0 0)))) [(.pack [(.obj 76 [(.row 1), (.row 2), (.p (.int .i64 0))]), (.row .byte 5 m), (.row .int 3 bs)])])) (by kernel_rfl) ?_
    simp only [inst_need, inst_br, inst_both, inst_fin, inst_qed, inst_code]
    refine ⟨fun hlt => ?_, fun hlt => ?_⟩
    · refine loop_inv hI tab_ok mixed [clone__k, clone__l] hX [0, 3, 5, 4] (fun (q : Nat) => q ≤ k ∧ P.fall m (m.getD i 0) q q = P.fall m (m.getD i 0) k k) (fun (q : Nat) => ⟨[(0, .v (.one (.p (.list .byte m)))), (3, .v (.one (.ptr 0 0))), (5, .v (.one (.p (.int .i64 i)))), (4, .v (.one (.p (.int .i64 q))))], [.pack [.obj 76 [(.row 1), (.row 2), (.p (.int .i64 0))], .row .byte 5 m, .row .int 3 bs]], 60⟩) (fun (q : Nat) => q) k (by kernel_rfl) (by kernel_rfl) ?_ ?_
      · exact ⟨Nat.le_refl _, rfl⟩
      rintro q ⟨hq, hfall⟩ B hB
      refine ev_rule (.br (I.ilt 0 (Nat.cast q)) (.need (I.inb (Nat.cast i) (I.len (α := UInt8) m)) (.need (I.inb (Nat.cast i) (I.len (α := UInt8) m)) (.need (I.inb (Nat.cast q) (I.len (α := UInt8) m)) (.need (I.inb (Nat.cast q) (I.len (α := UInt8) m)) (.br (I.bnot (I.ieq (I.b2i (I.get (α := UInt8) m 0 (Nat.cast i))) (I.b2i (I.get (α := UInt8) m 0 (Nat.cast q))))) (.need (I.inb (Nat.cast q) (I.len (α := Int) bs)) (.need (I.inb (Nat.cast q) (I.len (α := Int) bs)) (.need (B ⟨[(0, (.v (.one (.p (.list .byte m))))), (3, (.v (.one (.ptr 0 0)))), (5, (.v (.one (.p (.int .i64 (Nat.cast i)))))), (4, (.v (.one (.p (.int .i64 (I.get (α := Int) bs 0 (Nat.cast q)))))))], [(.pack [(.obj 76 [(.row 1), (.row 2), (.p (.int .i64 0))]), (.row .byte 5 m), (.row .int 3 bs)])], 60⟩) .qed))) (.need (I.inb (Nat.cast i) (I.len (α := UInt8) m)) (.need (I.inb (Nat.cast i) (I.len (α := UInt8) m)) (.need (I.inb (Nat.cast q) (I.len (α := UInt8) m)) (.need (I.inb (Nat.cast q) (I.len (α := UInt8) m)) (.br (I.ieq (I.b2i (I.get (α := UInt8) m 0 (Nat.cast i))) (I.b2i (I.get (α := UInt8) m 0 (Nat.cast q)))) (.need (I.inr Go.IntKind.i64 (I.add (Nat.cast q) 1)) (.need (I.inr Go.IntKind.i64 (I.add (Nat.cast i) 1)) (.need (I.inb (I.add (Nat.cast i) 1) (I.len (α := Int) bs)) (.need (I.inb (I.add (Nat.cast i) 1) (I.len (α := Int) bs)) (.need (I.inr Go.IntKind.i64 (I.add (Nat.cast i) 1)) (.need (A ⟨[(0, (.v (.one (.p (.list .byte m))))), (3, (.v (.one (.ptr 0 0)))), (5, (.v (.one (.p (.int .i64 (I.add (Nat.cast i) 1)))))), (4, (.v (.one (.p (.int .i64 (I.add (Nat.cast q) 1))))))], [(.pack [(.obj 76 [(.row 1), (.row 2), (.p (.int .i64 0))]), (.row .byte 5 m), (.row .int 3 (I.set (α := Int) bs (I.add (Nat.cast i) 1) (I.add (Nat.cast q) 1)))])], 60⟩) .qed)))))) (.need (I.inr Go.IntKind.i64 (I.add (Nat.cast i) 1)) (.need (I.inb (I.add (Nat.cast i) 1) (I.len (α := Int) bs)) (.need (I.inb (I.add (Nat.cast i) 1) (I.len (α := Int) bs)) (.need (I.inr Go.IntKind.i64 (I.add (Nat.cast i) 1)) (.need (A ⟨[(0, (.v (.one (.p (.list .byte m))))), (3, (.v (.one (.ptr 0 0)))), (5, (.v (.one (.p (.int .i64 (I.add (Nat.cast i) 1)))))), (4, (.v (.one (.p (.int .i64 (Nat.cast q))))))], [(.pack [(.obj 76 [(.row 1), (.row 2), (.p (.int .i64 0))]), (.row .byte 5 m), (.row .int 3 (I.set (α := Int) bs (I.add (Nat.cast i) 1) (Nat.cast q)))])], 60⟩) .qed))))))))))))))) (.need (I.inb (Nat.cast i) (I.len (α := UInt8) m)) (.need (I.inb (Nat.cast i) (I.len (α := UInt8) m)) (.need (I.inb (Nat.cast q) (I.len (α := UInt8) m)) (.need (I.inb (Nat.cast q) (I.len (α := UInt8) m)) (.br (I.ieq (I.b2i (I.get (α := UInt8) m 0 (Nat.cast i))) (I.b2i (I.get (α := UInt8) m 0 (Nat.cast q)))) (.need (I.inr Go.IntKind.i64 (I.add (Nat.cast q) 1)) (.need (I.inr Go.IntKind.i64 (I.add (Nat.cast i) 1)) (.need (I.inb (I.add (Nat.cast i) 1) (I.len (α := Int) bs)) (.need (I.inb (I.add (Nat.cast i) 1) (I.len (α := Int) bs)) (.need (I.inr Go.IntKind.i64 (I.add (Nat.cast i) 1)) (.need (A ⟨[(0, (.v (.one (.p (.list .byte m))))), (3, (.v (.one (.ptr 0 0)))), (5, (.v (.one (.p (.int .i64 (I.add (Nat.cast i) 1)))))), (4, (.v (.one (.p (.int .i64 (I.add (Nat.cast q) 1))))))], [(.pack [(.obj 76 [(.row 1), (.row 2), (.p (.int .i64 0))]), (.row .byte 5 m), (.row .int 3 (I.set (α := Int) bs (I.add (Nat.cast i) 1) (I.add (Nat.cast q) 1)))])], 60⟩) .qed)))))) (.need (I.inr Go.IntKind.i64 (I.add (Nat.cast i) 1)) (.need (I.inb (I.add (Nat.cast i) 1) (I.len (α := Int) bs)) (.need (I.inb (I.add (Nat.cast i) 1) (I.len (α := Int) bs)) (.need (I.inr Go.IntKind.i64 (I.add (Nat.cast i) 1)) (.need (A ⟨[(0, (.v (.one (.p (.list .byte m))))), (3, (.v (.one (.ptr 0 0)))), (5, (.v (.one (.p (.int .i64 (I.add (Nat.cast i) 1)))))), (4, (.v (.one (.p (.int .i64 (Nat.cast q))))))], [(.pack [(.obj 76 [(.row 1), (.row 2), (.p (.int .i64 0))]), (.row .byte 5 m), (.row .int 3 (I.set (α := Int) bs (I.add (Nat.cast i) 1) (Nat.cast q)))])], 60⟩) .qed))))))))))) (by kernel_rfl) ?_
      simp only [inst_need, inst_br, inst_both, inst_fin, inst_qed, inst_code]
      subst hI hbs
      simp only [alg_b2i, alg_i2b, alg_add, alg_sub, alg_mul, alg_quo, alg_rem, alg_wrap, alg_imin, alg_imax, alg_ilt, alg_ile, alg_ieq, alg_bnot, alg_beq, alg_ban, alg_seq, alg_len, alg_app, alg_cut, alg_get, alg_set, alg_rep, alg_inr, alg_inb, alg_cutb, alg_same, alg_few, alg_nne, alg_nng, alg_hid, alg_shl, alg_shr, alg_bits, decide_eq_true_eq, decide_eq_false_iff_not, beq_iff_eq, beq_eq_false_iff_ne, Bool.not_eq_true', Bool.not_eq_false', and_true, true_and, ne_eq, Int.toNat_zero, Nat.sub_zero, List.drop_zero, i64_min, i64_max, u8_min, u8_max, ofNat_b2i, b2i_inj, Int.toNat_natCast, Int.ofNat_eq_natCast, UInt8.ofNat_toNat, AOut.ret.injEq, D.v.injEq, D.tup.injEq, V0.one.injEq, C.p.injEq, P.bool.injEq, P.int.injEq, P.str.injEq, Bool.false_eq_true, Bool.true_eq_false, imp_false, Decidable.not_not, not_true_eq_false, not_false_eq_true] at hlt
      have hil : i < m.length := by omega
      have hkl : k < i := by rw [← hk]; exact P.border_lt (by omega)
      have hql : q < m.length := by omega
      have hst := P.border_step hil (by omega)
      have hgi : m.getD i 0 = m[i] := by simp [hil]
      have hgq : m.getD q 0 = m[q] := by simp [hql]
      have hg0 := bordsTo_get m (i + 1) q (by omega) (by omega)
      have hbl : 0 < q → P.border m q < q := P.border_lt
      rw [hk] at hst
      rw [hgi] at hfall
      rw [← hfall] at hst
      simp only [alg_b2i, alg_i2b, alg_add, alg_sub, alg_mul, alg_quo, alg_rem, alg_wrap, alg_imin, alg_imax, alg_ilt, alg_ile, alg_ieq, alg_bnot, alg_beq, alg_ban, alg_seq, alg_len, alg_app, alg_cut, alg_get, alg_set, alg_rep, alg_inr, alg_inb, alg_cutb, alg_same, alg_few, alg_nne, alg_nng, alg_hid, alg_shl, alg_shr, alg_bits, decide_eq_true_eq, decide_eq_false_iff_not, beq_iff_eq, beq_eq_false_iff_ne, Bool.not_eq_true', Bool.not_eq_false', and_true, true_and, ne_eq, Int.toNat_zero, Nat.sub_zero, List.drop_zero, i64_min, i64_max, u8_min, u8_max, ofNat_b2i, b2i_inj, Int.toNat_natCast, Int.ofNat_eq_natCast, UInt8.ofNat_toNat, AOut.ret.injEq, D.v.injEq, D.tup.injEq, V0.one.injEq, C.p.injEq, P.bool.injEq, P.int.injEq, P.str.injEq, Bool.false_eq_true, Bool.true_eq_false, imp_false, Decidable.not_not, not_true_eq_false, not_false_eq_true]
      rw [hgi, hgq, bordsTo_len, hg0, show ((i : Int) + 1).toNat = i + 1 by omega]
      have hset := bordsTo_set m (i + 1)
      have hcc : m[i] = m[q] ↔ m[q]? = some m[i] := by rw [List.getElem?_eq_getElem hql]; simp [eq_comm]
      -- the ends of the inner loop
      have hA1 : (q = 0 ∨ m[i] = m[q]) → m[i] = m[q] → A ⟨[(0, .v (.one (.p (.list .byte m)))), (3, .v (.one (.ptr 0 0))), (5, .v (.one (.p (.int .i64 ((i : Int) + 1))))), (4, .v (.one (.p (.int .i64 ((q : Int) + 1)))))], [.pack [.obj 76 [(.row 1), (.row 2), (.p (.int .i64 0))], .row .byte 5 m, .row .int 3 (((bordsTo m (i + 1)).set (i + 1) ((q : Int) + 1)))]], 60⟩ := by
        intro h1 h2
        rw [P.fall_stop (by rw [← hcc]; exact h1), if_pos (hcc.1 h2)] at hst
        have := hA (i + 1, q + 1, bordsTo m (i + 2)) ⟨by omega, by omega, hst.symm, rfl⟩ (by simp only; omega)
        rw [hst] at hset
        rw [← hset] at this
        exact this
      have hA2 : (q = 0 ∨ m[i] = m[q]) → ¬m[i] = m[q] → A ⟨[(0, .v (.one (.p (.list .byte m)))), (3, .v (.one (.ptr 0 0))), (5, .v (.one (.p (.int .i64 ((i : Int) + 1))))), (4, .v (.one (.p (.int .i64 q))))], [.pack [.obj 76 [(.row 1), (.row 2), (.p (.int .i64 0))], .row .byte 5 m, .row .int 3 (((bordsTo m (i + 1)).set (i + 1) (q : Int)))]], 60⟩ := by
        intro h1 h2
        obtain rfl : q = 0 := h1.resolve_right h2
        rw [P.fall_stop (.inl rfl), if_neg (fun h => h2 (hcc.2 h))] at hst
        have := hA (i + 1, 0, bordsTo m (i + 2)) ⟨by omega, by omega, hst.symm, rfl⟩ (by simp only; omega)
        rw [hst] at hset
        rw [← hset] at this
        exact this
      (repeat' (first | refine And.intro ?_ ?_ | intro _)) <;> try omega
      · refine hB (P.border m q) ⟨by have := hbl (by omega); omega, ?_⟩ (hbl (by omega))
        rw [hgi, ← P.fall_next (by omega) (fun h => ‹¬m[i] = m[q]› (hcc.2 h)), hfall]
      · exact hA1 (.inr ‹_›) ‹_›
      · exact hA2 (.inr ‹_›) ‹_›
      · exact hA1 (.inl (by omega)) ‹_›
      · exact hA2 (.inl (by omega)) ‹_›
    · subst hI hbs
      simp only [alg_b2i, alg_i2b, alg_add, alg_sub, alg_mul, alg_quo, alg_rem, alg_wrap, alg_imin, alg_imax, alg_ilt, alg_ile, alg_ieq, alg_bnot, alg_beq, alg_ban, alg_seq, alg_len, alg_app, alg_cut, alg_get, alg_set, alg_rep, alg_inr, alg_inb, alg_cutb, alg_same, alg_few, alg_nne, alg_nng, alg_hid, alg_shl, alg_shr, alg_bits, decide_eq_true_eq, decide_eq_false_iff_not, beq_iff_eq, beq_eq_false_iff_ne, Bool.not_eq_true', Bool.not_eq_false', and_true, true_and, ne_eq, Int.toNat_zero, Nat.sub_zero, List.drop_zero, i64_min, i64_max, u8_min, u8_max, ofNat_b2i, b2i_inj, Int.toNat_natCast, Int.ofNat_eq_natCast, UInt8.ofNat_toNat, AOut.ret.injEq, D.v.injEq, D.tup.injEq, V0.one.injEq, C.p.injEq, P.bool.injEq, P.int.injEq, P.str.injEq, Bool.false_eq_true, Bool.true_eq_false, imp_false, Decidable.not_not, not_true_eq_false, not_false_eq_true] at hlt
      rw [bordsTo_all m _ (by omega)]
      exact ⟨trivial, rfl⟩
  all_goals subst hI; simp only [alg_b2i, alg_i2b, alg_add, alg_sub, alg_mul, alg_quo, alg_rem, alg_wrap, alg_imin, alg_imax, alg_ilt, alg_ile, alg_ieq, alg_bnot, alg_beq, alg_ban, alg_seq, alg_len, alg_app, alg_cut, alg_get, alg_set, alg_rep, alg_inr, alg_inb, alg_cutb, alg_same, alg_few, alg_nne, alg_nng, alg_hid, alg_shl, alg_shr, alg_bits, decide_eq_true_eq, decide_eq_false_iff_not, beq_iff_eq, beq_eq_false_iff_ne, Bool.not_eq_true', Bool.not_eq_false', and_true, true_and, ne_eq, Int.toNat_zero, Nat.sub_zero, List.drop_zero, i64_min, i64_max, u8_min, u8_max, ofNat_b2i, b2i_inj, Int.toNat_natCast, Int.ofNat_eq_natCast, UInt8.ofNat_toNat, AOut.ret.injEq, D.v.injEq, D.tup.injEq, V0.one.injEq, C.p.injEq, P.bool.injEq, P.int.injEq, P.str.injEq, Bool.false_eq_true, Bool.true_eq_false, imp_false, Decidable.not_not, not_true_eq_false, not_false_eq_true]; try omega
def new__c (I : Alg) (args : List D) (hp : List HO) : Option CR := match args, hp with
  | [.v (.one (.p (.list .byte m)))], [] => (fun (m : Str) => (some ⟨I.hid (m.length ≤ 999999), (.ret (.v (.one (.ptr 0 0)))), [.pack [.obj 76 [(.row 1), (.row 2), (.p (.int .i64 0))], .row .byte 5 m, .row .int 3 (I.hid ((bords m)))]]⟩ : Option CR)) m
  | _, _ => none
theorem new__g : GoodC Try.prog 18 (new__c alg) := by
  intro args hp r h hn
  unfold new__c at h
  split at h
  · cases h; exact new_ _ hn
  · cases h
def new__k : Know Try.prog := ⟨18, new__c, new__g⟩
def new__l : Know Try.prog := ⟨18, fun I => lendC I (new__c I), lendC_good new__g⟩

theorem heldOf_ (b m : Str) (hneed : b.length ≤ 1000000 ∧ m.length ≤ 1000000) : Spc Try.prog 23 [.v (.one (.p (.list .byte b))), .v (.one (.p (.str m)))] [] (.ret (.v (.one (.p (.int .i64 (((P.held m b : Nat) : Int))))))) [] := by
  refine spcG tab_ok mixed Try.func23 (by kernel_rfl) { keep := some [0, 1, 4, 5] } [] (by kernel_rfl) ?_
  intro I X hI hX
  refine ev_rule (.need (I.inr Go.IntKind.i64 (I.sub (I.len (α := UInt8) m) 1)) (.code 0 [1, 0, 1, 0] ⟨[(5, (.v (.one (.p (.int .i64 (I.sub (I.len (α := UInt8) m) 1)))))), (4, (.v (.one (.p (.int .i64 0))))), (0, (.v (.one (.p (.list .byte b))))), (1, (.v (.one (.p (.str m)))))], [], 31⟩)) (by kernel_rfl) ?_
  simp only [inst_need, inst_br, inst_both, inst_fin, inst_qed, inst_code]
  refine ⟨by subst hI; simp only [alg_b2i, alg_i2b, alg_add, alg_sub, alg_mul, alg_quo, alg_rem, alg_wrap, alg_imin, alg_imax, alg_ilt, alg_ile, alg_ieq, alg_bnot, alg_beq, alg_ban, alg_seq, alg_len, alg_app, alg_cut, alg_get, alg_set, alg_rep, alg_inr, alg_inb, alg_cutb, alg_same, alg_few, alg_nne, alg_nng, alg_hid, alg_shl, alg_shr, alg_bits, decide_eq_true_eq, decide_eq_false_iff_not, beq_iff_eq, beq_eq_false_iff_ne, Bool.not_eq_true', Bool.not_eq_false', and_true, true_and, ne_eq, Int.toNat_zero, Nat.sub_zero, List.drop_zero, i64_min, i64_max, u8_min, u8_max, ofNat_b2i, b2i_inj, Int.toNat_natCast, Int.ofNat_eq_natCast, UInt8.ofNat_toNat, AOut.ret.injEq, D.v.injEq, D.tup.injEq, V0.one.injEq, C.p.injEq, P.bool.injEq, P.int.injEq, P.str.injEq, Bool.false_eq_true, Bool.true_eq_false, imp_false, Decidable.not_not, not_true_eq_false, not_false_eq_true]; omega, ?_⟩
  refine loop_inv hI tab_ok mixed [] hX [0, 1, 5] (fun (n : Int) => n < m.length ∧ -1 ≤ n ∧ P.held m b = P.heldFrom m b n.toNat) (fun (n : Int) => ⟨[(0, .v (.one (.p (.list .byte b)))), (1, .v (.one (.p (.str m)))), (5, .v (.one (.p (.int .i64 n))))], [], 31⟩) (fun (n : Int) => n.toNat) (I.sub (I.len m) 1) (by kernel_rfl) (by kernel_rfl) ?_ ?_
  · subst hI
    simp only [alg_b2i, alg_i2b, alg_add, alg_sub, alg_mul, alg_quo, alg_rem, alg_wrap, alg_imin, alg_imax, alg_ilt, alg_ile, alg_ieq, alg_bnot, alg_beq, alg_ban, alg_seq, alg_len, alg_app, alg_cut, alg_get, alg_set, alg_rep, alg_inr, alg_inb, alg_cutb, alg_same, alg_few, alg_nne, alg_nng, alg_hid, alg_shl, alg_shr, alg_bits, decide_eq_true_eq, decide_eq_false_iff_not, beq_iff_eq, beq_eq_false_iff_ne, Bool.not_eq_true', Bool.not_eq_false', and_true, true_and, ne_eq, Int.toNat_zero, Nat.sub_zero, List.drop_zero, i64_min, i64_max, u8_min, u8_max, ofNat_b2i, b2i_inj, Int.toNat_natCast, Int.ofNat_eq_natCast, UInt8.ofNat_toNat, AOut.ret.injEq, D.v.injEq, D.tup.injEq, V0.one.injEq, C.p.injEq, P.bool.injEq, P.int.injEq, P.str.injEq, Bool.false_eq_true, Bool.true_eq_false, imp_false, Decidable.not_not, not_true_eq_false, not_false_eq_true]
    refine ⟨by omega, by omega, ?_⟩
    rw [P.held, show ((m.length : Int) - 1).toNat = m.length - 1 by omega]
  rintro n ⟨hn, hn1, hh⟩ A hA
  refine ev_rule (.br (I.ilt 0 n) (.br (I.ile n (I.len (α := UInt8) b)) (.need (I.inr Go.IntKind.i64 (I.sub (I.len (α := UInt8) b) n)) (.need (I.cutb (I.sub (I.len (α := UInt8) b) n) (I.len (α := UInt8) b) (I.len (α := UInt8) b)) (.need (I.cutb 0 n (I.len (α := UInt8) m)) (.br (I.seq (I.cut (α := UInt8) b (I.sub (I.len (α := UInt8) b) n) (I.len (α := UInt8) b)) (I.cut (α := UInt8) m 0 n)) (.fin (.ret (.v (.one (.p (.int .i64 n))))) []) (.need (I.inr Go.IntKind.i64 (I.sub n 1)) (.need (A ⟨[(0, (.v (.one (.p (.list .byte b))))), (1, (.v (.one (.p (.str m))))), (5, (.v (.one (.p (.int .i64 (I.sub n 1))))))], [], 31⟩) .qed)))))) (.need (I.inr Go.IntKind.i64 (I.sub n 1)) (.need (A ⟨[(0, (.v (.one (.p (.list .byte b))))), (1, (.v (.one (.p (.str m))))), (5, (.v (.one (.p (.int .i64 (I.sub n 1))))))], [], 31⟩) .qed))) (.fin (.ret (.v (.one (.p (.int .i64 0))))) [])) (by kernel_rfl) ?_
  simp only [inst_need, inst_br, inst_both, inst_fin, inst_qed, inst_code]
  subst hI
  simp only [alg_b2i, alg_i2b, alg_add, alg_sub, alg_mul, alg_quo, alg_rem, alg_wrap, alg_imin, alg_imax, alg_ilt, alg_ile, alg_ieq, alg_bnot, alg_beq, alg_ban, alg_seq, alg_len, alg_app, alg_cut, alg_get, alg_set, alg_rep, alg_inr, alg_inb, alg_cutb, alg_same, alg_few, alg_nne, alg_nng, alg_hid, alg_shl, alg_shr, alg_bits, decide_eq_true_eq, decide_eq_false_iff_not, beq_iff_eq, beq_eq_false_iff_ne, Bool.not_eq_true', Bool.not_eq_false', and_true, true_and, ne_eq, Int.toNat_zero, Nat.sub_zero, List.drop_zero, i64_min, i64_max, u8_min, u8_max, ofNat_b2i, b2i_inj, Int.toNat_natCast, Int.ofNat_eq_natCast, UInt8.ofNat_toNat, AOut.ret.injEq, D.v.injEq, D.tup.injEq, V0.one.injEq, C.p.injEq, P.bool.injEq, P.int.injEq, P.str.injEq, Bool.false_eq_true, Bool.true_eq_false, imp_false, Decidable.not_not, not_true_eq_false, not_false_eq_true]
  have hs : 0 < n → P.heldFrom m b n.toNat = if m.take n.toNat <:+ b then n.toNat else P.heldFrom m b (n - 1).toNat := by
    intro h
    obtain ⟨k, rfl⟩ : ∃ k : Nat, n = (k : Int) + 1 := ⟨(n - 1).toNat, by omega⟩
    rw [show ((k : Int) + 1).toNat = k + 1 by omega, show ((k : Int) + 1 - 1).toNat = k by omega]
    rfl
  have hsuf : 0 < n → n ≤ b.length → (b.drop ((b.length : Int) - n).toNat = m.take n.toNat ↔ m.take n.toNat <:+ b) := by
    intro h0 hn
    rw [List.suffix_iff_eq_drop, List.length_take, show b.length - min n.toNat m.length = ((b.length : Int) - n).toNat by omega]
    exact eq_comm
  have hcut : 0 < n → n ≤ b.length → List.take ((b.length : Int).toNat - ((b.length : Int) - n).toNat) (b.drop ((b.length : Int) - n).toNat) = b.drop ((b.length : Int) - n).toNat := by
    intro h0 hn
    exact List.take_of_length_le (by simp)
  have hno : ¬ n ≤ b.length → ¬ m.take n.toNat <:+ b := fun h hp => by
    have := hp.length_le
    rw [List.length_take] at this; omega
  (repeat' (first | refine And.intro ?_ ?_ | intro _)) <;> try omega
  · rename_i h0 hle heq
    rw [hh, hs (by omega), if_pos ((hsuf h0 hle).1 (by rw [← heq]; exact (hcut h0 hle).symm)), Int.toNat_of_nonneg (by omega)]
  · rename_i h0 hle hne
    refine hA (n - 1) ⟨by omega, by omega, ?_⟩ (by omega)
    rw [hh, hs (by omega), if_neg (fun h => hne ((hcut h0 hle).trans ((hsuf h0 hle).2 h)))]
  · rename_i h0 hle
    refine hA (n - 1) ⟨by omega, by omega, ?_⟩ (by omega)
    rw [hh, hs (by omega), if_neg (hno (by omega))]
  · rename_i h0
    rw [hh, show n.toNat = 0 by omega]; rfl
def heldOf__c (I : Alg) (args : List D) (hp : List HO) : Option CR := match args, hp with
  | [.v (.one (.p (.list .byte b))), .v (.one (.p (.str m)))], [] => (fun (b m : Str) => (some ⟨I.hid (b.length ≤ 1000000 ∧ m.length ≤ 1000000), (.ret (.v (.one (.p (.int .i64 (I.hid (((P.held m b : Nat) : Int)))))))), []⟩ : Option CR)) b m
  | _, _ => none
theorem heldOf__g : GoodC Try.prog 23 (heldOf__c alg) := by
  intro args hp r h hn
  unfold heldOf__c at h
  split at h
  · cases h; exact heldOf_ _ _ hn
  · cases h
def heldOf__k : Know Try.prog := ⟨23, heldOf__c, heldOf__g⟩
def heldOf__l : Know Try.prog := ⟨23, fun I => lendC I (heldOf__c I), lendC_good heldOf__g⟩

theorem begun_  : Spc Try.prog 17 [] [] (.ret (.v (.one (.p (.bool true))))) [] := by
  refine spcG tab_ok mixed Try.func17 (by kernel_rfl) { cfgS with keep := some [0, 1, 2, 3, 4, 5, 6, 7, 8, 9] } [fits__k, fits__l, feed__k, feed__l, new__k, new__l] (by kernel_rfl) ?_
  intro I X hI hX
  refine ev_rule (.need (I.inr Go.IntKind.u8 97) (.need (I.inr Go.IntKind.u8 97) (.need (I.inr Go.IntKind.u8 98) (.need (I.inb 0 (I.len (α := UInt8) [(I.i2b 97), (I.i2b 97), (I.i2b 98)])) (.need (I.hid (α := (Prop)) (LE.le (List.length [(I.i2b 97), (I.i2b 97), (I.i2b 98)]) 999999)) (.need (I.hid (α := (Prop)) (And (Eq (I.hid (α := (List Int)) (Go.Proofs.Ytmmfcghieefoaaa.bords [(I.i2b 97), (I.i2b 97), (I.i2b 98)])) (Go.Proofs.Ytmmfcghieefoaaa.bords [(I.i2b 97), (I.i2b 97), (I.i2b 98)])) (And (LE.le (List.length [(I.i2b 97), (I.i2b 97), (I.i2b 98)]) 1000000) (And (LE.le (0 : Int) (0 : Int)) (And (Or (Eq [(I.i2b 97), (I.i2b 97), (I.i2b 98)] []) (LT.lt (0 : Int) (Nat.cast (List.length [(I.i2b 97), (I.i2b 97), (I.i2b 98)])))) (And (LE.le (0 : Int) (97 : Int)) (LE.le (97 : Int) (255 : Int)))))))) (.need (I.hid (α := (Prop)) (And (Eq (I.hid (α := (List Int)) (Go.Proofs.Ytmmfcghieefoaaa.bords [(I.i2b 97), (I.i2b 97), (I.i2b 98)])) (Go.Proofs.Ytmmfcghieefoaaa.bords [(I.i2b 97), (I.i2b 97), (I.i2b 98)])) (And (LE.le (List.length [(I.i2b 97), (I.i2b 97), (I.i2b 98)]) 1000000) (And (LE.le (0 : Int) (I.hid (α := Int) (Nat.cast (Prod.fst (Prod.snd (Go.Proofs.Ytmmfcghieefoaaa.feedA [(I.i2b 97), (I.i2b 97), (I.i2b 98)] (Int.toNat (0 : Int)) (UInt8.ofNat (Int.toNat (97 : Int))))))))) (And (Or (Eq [(I.i2b 97), (I.i2b 97), (I.i2b 98)] []) (LT.lt (I.hid (α := Int) (Nat.cast (Prod.fst (Prod.snd (Go.Proofs.Ytmmfcghieefoaaa.feedA [(I.i2b 97), (I.i2b 97), (I.i2b 98)] (Int.toNat (0 : Int)) (UInt8.ofNat (Int.toNat (97 : Int)))))))) (Nat.cast (List.length [(I.i2b 97), (I.i2b 97), (I.i2b 98)])))) (And (LE.le (0 : Int) (97 : Int)) (LE.le (97 : Int) (255 : Int)))))))) (.need (I.hid (α := (Prop)) (And (Eq (I.hid (α := (List Int)) (Go.Proofs.Ytmmfcghieefoaaa.bords [(I.i2b 97), (I.i2b 97), (I.i2b 98)])) (Go.Proofs.Ytmmfcghieefoaaa.bords [(I.i2b 97), (I.i2b 97), (I.i2b 98)])) (And (LE.le (List.length [(I.i2b 97), (I.i2b 97), (I.i2b 98)]) 1000000) (And (LE.le (0 : Int) (I.hid (α := Int) (Nat.cast (Prod.fst (Prod.snd (Go.Proofs.Ytmmfcghieefoaaa.feedA [(I.i2b 97), (I.i2b 97), (I.i2b 98)] (Int.toNat (I.hid (α := Int) (Nat.cast (Prod.fst (Prod.snd (Go.Proofs.Ytmmfcghieefoaaa.feedA [(I.i2b 97), (I.i2b 97), (I.i2b 98)] (Int.toNat (0 : Int)) (UInt8.ofNat (Int.toNat (97 : Int))))))))) (UInt8.ofNat (Int.toNat (97 : Int))))))))) (And (Or (Eq [(I.i2b 97), (I.i2b 97), (I.i2b 98)] []) (LT.lt (I.hid (α := Int) (Nat.cast (Prod.fst (Prod.snd (Go.Proofs.Ytmmfcghieefoaaa.feedA [(I.i2b 97), (I.i2b 97), (I.i2b 98)] (Int.toNat (I.hid (α := Int) (Nat.cast (Prod.fst (Prod.snd (Go.Proofs.Ytmmfcghieefoaaa.feedA [(I.i2b 97), (I.i2b 97), (I.i2b 98)] (Int.toNat (0 : Int)) (UInt8.ofNat (Int.toNat (97 : Int))))))))) (UInt8.ofNat (Int.toNat (97 : Int)))))))) (Nat.cast (List.length [(I.i2b 97), (I.i2b 97), (I.i2b 98)])))) (And (LE.le (0 : Int) (97 : Int)) (LE.le (97 : Int) (255 : Int)))))))) (.need (I.hid (α := (Prop)) (And (Eq (I.hid (α := (List Int)) (Go.Proofs.Ytmmfcghieefoaaa.bords [(I.i2b 97), (I.i2b 97), (I.i2b 98)])) (Go.Proofs.Ytmmfcghieefoaaa.bords [(I.i2b 97), (I.i2b 97), (I.i2b 98)])) (And (LE.le (List.length [(I.i2b 97), (I.i2b 97), (I.i2b 98)]) 1000000) (And (LE.le (0 : Int) (I.hid (α := Int) (Nat.cast (Prod.fst (Prod.snd (Go.Proofs.Ytmmfcghieefoaaa.feedA [(I.i2b 97), (I.i2b 97), (I.i2b 98)] (Int.toNat (I.hid (α := Int) (Nat.cast (Prod.fst (Prod.snd (Go.Proofs.Ytmmfcghieefoaaa.feedA [(I.i2b 97), (I.i2b 97), (I.i2b 98)] (Int.toNat (I.hid (α := Int) (Nat.cast (Prod.fst (Prod.snd (Go.Proofs.Ytmmfcghieefoaaa.feedA [(I.i2b 97), (I.i2b 97), (I.i2b 98)] (Int.toNat (0 : Int)) (UInt8.ofNat (Int.toNat (97 : Int))))))))) (UInt8.ofNat (Int.toNat (97 : Int))))))))) (UInt8.ofNat (Int.toNat (97 : Int))))))))) (And (Or (Eq [(I.i2b 97), (I.i2b 97), (I.i2b 98)] []) (LT.lt (I.hid (α := Int) (Nat.cast (Prod.fst (Prod.snd (Go.Proofs.Ytmmfcghieefoaaa.feedA [(I.i2b 97), (I.i2b 97), (I.i2b 98)] (Int.toNat (I.hid (α := Int) (Nat.cast (Prod.fst (Prod.snd (Go.Proofs.Ytmmfcghieefoaaa.feedA [(I.i2b 97), (I.i2b 97), (I.i2b 98)] (Int.toNat (I.hid (α := Int) (Nat.cast (Prod.fst (Prod.snd (Go.Proofs.Ytmmfcghieefoaaa.feedA [(I.i2b 97), (I.i2b 97), (I.i2b 98)] (Int.toNat (0 : Int)) (UInt8.ofNat (Int.toNat (97 : Int))))))))) (UInt8.ofNat (Int.toNat (97 : Int))))))))) (UInt8.ofNat (Int.toNat (97 : Int)))))))) (Nat.cast (List.length [(I.i2b 97), (I.i2b 97), (I.i2b 98)])))) (And (LE.le (0 : Int) (98 : Int)) (LE.le (98 : Int) (255 : Int)))))))) (.need (I.inr Go.IntKind.i64 (I.add (I.len (α := UInt8) (I.hid (α := (List UInt8)) (Prod.fst (Go.Proofs.Ytmmfcghieefoaaa.feedA [(I.i2b 97), (I.i2b 97), (I.i2b 98)] (Int.toNat (0 : Int)) (UInt8.ofNat (Int.toNat (97 : Int))))))) (I.len (α := UInt8) (I.hid (α := (List UInt8)) (Prod.fst (Go.Proofs.Ytmmfcghieefoaaa.feedA [(I.i2b 97), (I.i2b 97), (I.i2b 98)] (Int.toNat (I.hid (α := Int) (Nat.cast (Prod.fst (Prod.snd (Go.Proofs.Ytmmfcghieefoaaa.feedA [(I.i2b 97), (I.i2b 97), (I.i2b 98)] (Int.toNat (0 : Int)) (UInt8.ofNat (Int.toNat (97 : Int))))))))) (UInt8.ofNat (Int.toNat (97 : Int))))))))) (.need (I.inr Go.IntKind.i64 (I.add (I.add (I.len (α := UInt8) (I.hid (α := (List UInt8)) (Prod.fst (Go.Proofs.Ytmmfcghieefoaaa.feedA [(I.i2b 97), (I.i2b 97), (I.i2b 98)] (Int.toNat (0 : Int)) (UInt8.ofNat (Int.toNat (97 : Int))))))) (I.len (α := UInt8) (I.hid (α := (List UInt8)) (Prod.fst (Go.Proofs.Ytmmfcghieefoaaa.feedA [(I.i2b 97), (I.i2b 97), (I.i2b 98)] (Int.toNat (I.hid (α := Int) (Nat.cast (Prod.fst (Prod.snd (Go.Proofs.Ytmmfcghieefoaaa.feedA [(I.i2b 97), (I.i2b 97), (I.i2b 98)] (Int.toNat (0 : Int)) (UInt8.ofNat (Int.toNat (97 : Int))))))))) (UInt8.ofNat (Int.toNat (97 : Int)))))))) (I.len (α := UInt8) (I.hid (α := (List UInt8)) (Prod.fst (Go.Proofs.Ytmmfcghieefoaaa.feedA [(I.i2b 97), (I.i2b 97), (I.i2b 98)] (Int.toNat (I.hid (α := Int) (Nat.cast (Prod.fst (Prod.snd (Go.Proofs.Ytmmfcghieefoaaa.feedA [(I.i2b 97), (I.i2b 97), (I.i2b 98)] (Int.toNat (I.hid (α := Int) (Nat.cast (Prod.fst (Prod.snd (Go.Proofs.Ytmmfcghieefoaaa.feedA [(I.i2b 97), (I.i2b 97), (I.i2b 98)] (Int.toNat (I.hid (α := Int) (Nat.cast (Prod.fst (Prod.snd (Go.Proofs.Ytmmfcghieefoaaa.feedA [(I.i2b 97), (I.i2b 97), (I.i2b 98)] (Int.toNat (0 : Int)) (UInt8.ofNat (Int.toNat (97 : Int))))))))) (UInt8.ofNat (Int.toNat (97 : Int))))))))) (UInt8.ofNat (Int.toNat (97 : Int))))))))) (UInt8.ofNat (Int.toNat (98 : Int))))))))) (.br (I.ieq (I.add (I.add (I.len (α := UInt8) (I.hid (α := (List UInt8)) (Prod.fst (Go.Proofs.Ytmmfcghieefoaaa.feedA [(I.i2b 97), (I.i2b 97), (I.i2b 98)] (Int.toNat (0 : Int)) (UInt8.ofNat (Int.toNat (97 : Int))))))) (I.len (α := UInt8) (I.hid (α := (List UInt8)) (Prod.fst (Go.Proofs.Ytmmfcghieefoaaa.feedA [(I.i2b 97), (I.i2b 97), (I.i2b 98)] (Int.toNat (I.hid (α := Int) (Nat.cast (Prod.fst (Prod.snd (Go.Proofs.Ytmmfcghieefoaaa.feedA [(I.i2b 97), (I.i2b 97), (I.i2b 98)] (Int.toNat (0 : Int)) (UInt8.ofNat (Int.toNat (97 : Int))))))))) (UInt8.ofNat (Int.toNat (97 : Int)))))))) (I.len (α := UInt8) (I.hid (α := (List UInt8)) (Prod.fst (Go.Proofs.Ytmmfcghieefoaaa.feedA [(I.i2b 97), (I.i2b 97), (I.i2b 98)] (Int.toNat (I.hid (α := Int) (Nat.cast (Prod.fst (Prod.snd (Go.Proofs.Ytmmfcghieefoaaa.feedA [(I.i2b 97), (I.i2b 97), (I.i2b 98)] (Int.toNat (I.hid (α := Int) (Nat.cast (Prod.fst (Prod.snd (Go.Proofs.Ytmmfcghieefoaaa.feedA [(I.i2b 97), (I.i2b 97), (I.i2b 98)] (Int.toNat (I.hid (α := Int) (Nat.cast (Prod.fst (Prod.snd (Go.Proofs.Ytmmfcghieefoaaa.feedA [(I.i2b 97), (I.i2b 97), (I.i2b 98)] (Int.toNat (0 : Int)) (UInt8.ofNat (Int.toNat (97 : Int))))))))) (UInt8.ofNat (Int.toNat (97 : Int))))))))) (UInt8.ofNat (Int.toNat (97 : Int))))))))) (UInt8.ofNat (Int.toNat (98 : Int)))))))) 0) (.br (I.bnot (I.hid (α := Bool) (Prod.snd (Prod.snd (Go.Proofs.Ytmmfcghieefoaaa.feedA [(I.i2b 97), (I.i2b 97), (I.i2b 98)] (Int.toNat (0 : Int)) (UInt8.ofNat (Int.toNat (97 : Int)))))))) (.br (I.bnot (I.hid (α := Bool) (Prod.snd (Prod.snd (Go.Proofs.Ytmmfcghieefoaaa.feedA [(I.i2b 97), (I.i2b 97), (I.i2b 98)] (Int.toNat (I.hid (α := Int) (Nat.cast (Prod.fst (Prod.snd (Go.Proofs.Ytmmfcghieefoaaa.feedA [(I.i2b 97), (I.i2b 97), (I.i2b 98)] (Int.toNat (0 : Int)) (UInt8.ofNat (Int.toNat (97 : Int))))))))) (UInt8.ofNat (Int.toNat (97 : Int)))))))) (.br (I.bnot (I.hid (α := Bool) (Prod.snd (Prod.snd (Go.Proofs.Ytmmfcghieefoaaa.feedA [(I.i2b 97), (I.i2b 97), (I.i2b 98)] (Int.toNat (I.hid (α := Int) (Nat.cast (Prod.fst (Prod.snd (Go.Proofs.Ytmmfcghieefoaaa.feedA [(I.i2b 97), (I.i2b 97), (I.i2b 98)] (Int.toNat (I.hid (α := Int) (Nat.cast (Prod.fst (Prod.snd (Go.Proofs.Ytmmfcghieefoaaa.feedA [(I.i2b 97), (I.i2b 97), (I.i2b 98)] (Int.toNat (0 : Int)) (UInt8.ofNat (Int.toNat (97 : Int))))))))) (UInt8.ofNat (Int.toNat (97 : Int))))))))) (UInt8.ofNat (Int.toNat (97 : Int)))))))) (.br (I.hid (α := Bool) (Prod.snd (Prod.snd (Go.Proofs.Ytmmfcghieefoaaa.feedA [(I.i2b 97), (I.i2b 97), (I.i2b 98)] (Int.toNat (I.hid (α := Int) (Nat.cast (Prod.fst (Prod.snd (Go.Proofs.Ytmmfcghieefoaaa.feedA [(I.i2b 97), (I.i2b 97), (I.i2b 98)] (Int.toNat (I.hid (α := Int) (Nat.cast (Prod.fst (Prod.snd (Go.Proofs.Ytmmfcghieefoaaa.feedA [(I.i2b 97), (I.i2b 97), (I.i2b 98)] (Int.toNat (I.hid (α := Int) (Nat.cast (Prod.fst (Prod.snd (Go.Proofs.Ytmmfcghieefoaaa.feedA [(I.i2b 97), (I.i2b 97), (I.i2b 98)] (Int.toNat (0 : Int)) (UInt8.ofNat (Int.toNat (97 : Int))))))))) (UInt8.ofNat (Int.toNat (97 : Int))))))))) (UInt8.ofNat (Int.toNat (97 : Int))))))))) (UInt8.ofNat (Int.toNat (98 : Int))))))) (.br (I.seq (I.hid (α := (List UInt8)) (Prod.fst (Go.Proofs.Ytmmfcghieefoaaa.feedA [(I.i2b 97), (I.i2b 97), (I.i2b 98)] (Int.toNat (I.hid (α := Int) (Nat.cast (Prod.fst (Prod.snd (Go.Proofs.Ytmmfcghieefoaaa.feedA [(I.i2b 97), (I.i2b 97), (I.i2b 98)] (Int.toNat (I.hid (α := Int) (Nat.cast (Prod.fst (Prod.snd (Go.Proofs.Ytmmfcghieefoaaa.feedA [(I.i2b 97), (I.i2b 97), (I.i2b 98)] (Int.toNat (0 : Int)) (UInt8.ofNat (Int.toNat (97 : Int))))))))) (UInt8.ofNat (Int.toNat (97 : Int))))))))) (UInt8.ofNat (Int.toNat (97 : Int)))))) (Array.toList (List.toArray [97]))) (.need (I.hid (α := (Prop)) True) (.fin (.ret (.v (.one (.p (.bool (I.ieq (I.hid (α := Int) (Nat.cast (Prod.fst (Prod.snd (Go.Proofs.Ytmmfcghieefoaaa.feedA [(I.i2b 97), (I.i2b 97), (I.i2b 98)] (Int.toNat (I.hid (α := Int) (Nat.cast (Prod.fst (Prod.snd (Go.Proofs.Ytmmfcghieefoaaa.feedA [(I.i2b 97), (I.i2b 97), (I.i2b 98)] (Int.toNat (I.hid (α := Int) (Nat.cast (Prod.fst (Prod.snd (Go.Proofs.Ytmmfcghieefoaaa.feedA [(I.i2b 97), (I.i2b 97), (I.i2b 98)] (Int.toNat (I.hid (α := Int) (Nat.cast (Prod.fst (Prod.snd (Go.Proofs.Ytmmfcghieefoaaa.feedA [(I.i2b 97), (I.i2b 97), (I.i2b 98)] (Int.toNat (0 : Int)) (UInt8.ofNat (Int.toNat (97 : Int))))))))) (UInt8.ofNat (Int.toNat (97 : Int))))))))) (UInt8.ofNat (Int.toNat (97 : Int))))))))) (UInt8.ofNat (Int.toNat (98 : Int)))))))) 0)))))) [])) (.fin (.ret (.v (.one (.p (.bool Bool.false))))) [])) (.fin (.ret (.v (.one (.p (.bool Bool.false))))) [])) (.fin (.ret (.v (.one (.p (.bool Bool.false))))) [])) (.fin (.ret (.v (.one (.p (.bool Bool.false))))) [])) (.fin (.ret (.v (.one (.p (.bool Bool.false))))) [])) (.fin (.ret (.v (.one (.p (.bool Bool.false))))) []))))))))))))) (by kernel_rfl) ?_
  simp only [inst_need, inst_br, inst_both, inst_fin, inst_qed, inst_code]
  subst hI
  simp only [AOut.ret.injEq, D.v.injEq, V0.one.injEq, C.p.injEq, P.bool.injEq, and_true]
  simp only [alg_b2i, alg_i2b, alg_add, alg_sub, alg_mul, alg_quo, alg_rem, alg_wrap, alg_imin, alg_imax, alg_ilt, alg_ile, alg_ieq, alg_bnot, alg_beq, alg_ban, alg_seq, alg_len, alg_app, alg_cut, alg_get, alg_set, alg_rep, alg_inr, alg_inb, alg_cutb, alg_same, alg_few, alg_nne, alg_nng, alg_hid, alg_shl, alg_shr, alg_bits]
  repeat' (first | refine And.intro ?_ ?_ | (intro h; first | exact absurd h (by decide +kernel) | clear h))
  all_goals decide +kernel
def begun__c (I : Alg) (args : List D) (hp : List HO) : Option CR := match args, hp with
  | [], [] => (fun (_ : Unit) => (some ⟨I.hid (True), (.ret (.v (.one (.p (.bool true))))), []⟩ : Option CR)) ()
  | _, _ => none
theorem begun__g : GoodC Try.prog 17 (begun__c alg) := by
  intro args hp r h hn
  unfold begun__c at h
  split at h
  · cases h; exact begun_ 
  · cases h
def begun__k : Know Try.prog := ⟨17, begun__c, begun__g⟩
def begun__l : Know Try.prog := ⟨17, fun I => lendC I (begun__c I), lendC_good begun__g⟩
end Go.Proofs.Ytmmfcghieefoaaa
