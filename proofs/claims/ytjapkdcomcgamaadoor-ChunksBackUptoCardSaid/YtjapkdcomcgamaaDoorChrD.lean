/- Bytes and texts: numbers. -/
import Derived.Test.YtjapkdcomcgamaaDoorChrC
set_option linter.all false
namespace Go.Proofs.YtjapkdcomcgamaaDoor
open Go Go.Sep Go.Ab
set_option maxRecDepth 100000

def numG (base : Int) : Int → Str → Int × Bool
  | n, [] => (n, true)
  | n, c :: l => if hexK c.toNat < 0 ∨ base ≤ hexK c.toNat then (0, false) else numG base (n * base + hexK c.toNat) l
def numA (s : Str) (base most : Int) : Int × Bool := if s = [] ∨ most < s.length then (0, false) else numG base 0 s
def top9 : Nat → Nat
  | 0 => 0
  | i + 1 => 16 * top9 i + 15
theorem top9_le {i : Nat} (h : i ≤ 9) : top9 i ≤ 68719476735 := (by decide : ∀ i : Fin 10, top9 i.1 ≤ 68719476735) ⟨i, by omega⟩
theorem numG_drop {base n : Int} {s : Str} {i : Nat} (h : i < s.length) : numG base n (s.drop i) = if hexK (s.getD i 0).toNat < 0 ∨ base ≤ hexK (s.getD i 0).toNat then (0, false) else numG base (n * base + hexK (s.getD i 0).toNat) (s.drop (i + 1)) := by
  rw [List.drop_eq_getElem_cons h, numG]; simp [h]
theorem hexK_le {k : Int} (hk : 0 ≤ k ∧ k ≤ 255) : -1 ≤ hexK k ∧ hexK k ≤ 15 := by256 (p := fun k => -1 ≤ hexK k ∧ hexK k ≤ 15) (by decide +kernel) hk
theorem digits_hex {k : Int} (hk : 0 ≤ k ∧ k ≤ 255) : ([48, 49, 50, 51, 52, 53, 54, 55, 56, 57] : Str).contains (UInt8.ofNat k.toNat) = decide (0 ≤ hexK k ∧ hexK k < 10) :=
  by256 (p := fun k => ([48, 49, 50, 51, 52, 53, 54, 55, 56, 57] : Str).contains (UInt8.ofNat k.toNat) = decide (0 ≤ hexK k ∧ hexK k < 10)) (by decide +kernel) hk
theorem hex_find {k : Int} (hk : 0 ≤ k ∧ k ≤ 255) : (∀ j : Fin 16, lowC (UInt8.ofNat k.toNat) = ([48, 49, 50, 51, 52, 53, 54, 55, 56, 57, 97, 98, 99, 100, 101, 102] : Str).getD j.1 0 → hexK k = (j.1 : Int)) ∧ ((∀ j : Fin 16, ¬ lowC (UInt8.ofNat k.toNat) = ([48, 49, 50, 51, 52, 53, 54, 55, 56, 57, 97, 98, 99, 100, 101, 102] : Str).getD j.1 0) → hexK k = -1) :=
  by256 (p := fun k => (∀ j : Fin 16, lowC (UInt8.ofNat k.toNat) = ([48, 49, 50, 51, 52, 53, 54, 55, 56, 57, 97, 98, 99, 100, 101, 102] : Str).getD j.1 0 → hexK k = (j.1 : Int)) ∧ ((∀ j : Fin 16, ¬ lowC (UInt8.ofNat k.toNat) = ([48, 49, 50, 51, 52, 53, 54, 55, 56, 57, 97, 98, 99, 100, 101, 102] : Str).getD j.1 0) → hexK k = -1)) (by decide +kernel) hk

theorem number10_ (s : Str) : Spc Tryd.prog 157 [.v (.one (.p (.str s))), .v (.one (.p (.int .i64 10))), .v (.one (.p (.int .i64 9)))] [] (.ret (.tup [(.one (.p (.int .i64 ((numA s 10 9).1)))), (.one (.p (.bool ((numA s 10 9).2))))])) [] := by
  generalize hr : numA s 10 9 = r
  refine spcG tab_ok mixed Tryd.func157 (by kernel_rfl) { keep := some [0, 1, 2, 6, 7, 8, 9, 10, 20, 21] } [hex__k, hex__l] (by kernel_rfl) ?_
  intro I X hI hX
  refine ev_rule (.br (I.seq s (Array.toList (List.toArray ([] : List UInt8)))) (.fin (.ret (.tup [(.one (.p (.int .i64 0))), (.one (.p (.bool Bool.false)))])) []) (.br (I.ilt 9 (I.len (α := UInt8) s)) (.fin (.ret (.tup [(.one (.p (.int .i64 0))), (.one (.p (.bool Bool.false)))])) []) (.code 0 [1, 1, 1, 0, 1, 0] ⟨[(21, (.v (.one (.p (.int .i64 0))))), (20, (.v (.one (.p (.int .i64 (I.len (α := UInt8) s)))))), (8, (.v (.one (.p (.int .i64 0))))), (7, (.v (.one (.p (.val (.bool .false)))))), (6, (.v (.one (.p (.int .i64 0))))), (0, (.v (.one (.p (.str s))))), (1, (.v (.one (.p (.int .i64 10))))), (2, (.v (.one (.p (.int .i64 9)))))], [], 42⟩))) (by kernel_rfl) ?_
  simp only [inst_need, inst_br, inst_both, inst_fin, inst_qed, inst_stop, inst_code]
  have hne : s ≠ [] → ¬ (9 : Int) < s.length → numG 10 0 s = r := fun h1 h2 => by rw [← hr, numA, if_neg (fun h => by rcases h with h | h; exact h1 h; exact h2 h)]
  have hyes : (s = [] ∨ (9 : Int) < s.length) → r = (0, false) := fun h => by rw [← hr, numA, if_pos h]
  refine ⟨fun c1 => ?_, fun c1 => ⟨fun c2 => ?_, fun c2 => ?_⟩⟩
  · subst hI
    simp only [alg_b2i, alg_i2b, alg_add, alg_sub, alg_mul, alg_quo, alg_rem, alg_wrap, alg_imin, alg_imax, alg_ilt, alg_ile, alg_ieq, alg_bnot, alg_beq, alg_ban, alg_seq, alg_len, alg_app, alg_cut, alg_get, alg_set, alg_rep, alg_inr, alg_inb, alg_cutb, alg_same, alg_few, alg_nne, alg_nng, alg_hid, alg_shl, alg_shr, alg_bits, decide_eq_true_eq, decide_eq_false_iff_not, beq_iff_eq, beq_eq_false_iff_ne, Bool.not_eq_true', Bool.not_eq_false', Bool.and_eq_true, Bool.and_true, Bool.true_and, and_true, true_and, ne_eq, Int.toNat_zero, Nat.sub_zero, List.drop_zero, i64_min, i64_max, u8_min, u8_max, ofNat_b2i, b2i_inj, Int.toNat_natCast, Int.ofNat_eq_natCast, UInt8.ofNat_toNat, AOut.ret.injEq, D.v.injEq, D.tup.injEq, V0.one.injEq, C.p.injEq, P.bool.injEq, P.int.injEq, P.str.injEq, Bool.false_eq_true, Bool.true_eq_false, imp_false, Decidable.not_not, not_true_eq_false, not_false_eq_true] at c1
    rw [hyes (.inl c1)]
    simp
  · subst hI
    simp only [alg_b2i, alg_i2b, alg_add, alg_sub, alg_mul, alg_quo, alg_rem, alg_wrap, alg_imin, alg_imax, alg_ilt, alg_ile, alg_ieq, alg_bnot, alg_beq, alg_ban, alg_seq, alg_len, alg_app, alg_cut, alg_get, alg_set, alg_rep, alg_inr, alg_inb, alg_cutb, alg_same, alg_few, alg_nne, alg_nng, alg_hid, alg_shl, alg_shr, alg_bits, decide_eq_true_eq, decide_eq_false_iff_not, beq_iff_eq, beq_eq_false_iff_ne, Bool.not_eq_true', Bool.not_eq_false', Bool.and_eq_true, Bool.and_true, Bool.true_and, and_true, true_and, ne_eq, Int.toNat_zero, Nat.sub_zero, List.drop_zero, i64_min, i64_max, u8_min, u8_max, ofNat_b2i, b2i_inj, Int.toNat_natCast, Int.ofNat_eq_natCast, UInt8.ofNat_toNat, AOut.ret.injEq, D.v.injEq, D.tup.injEq, V0.one.injEq, C.p.injEq, P.bool.injEq, P.int.injEq, P.str.injEq, Bool.false_eq_true, Bool.true_eq_false, imp_false, Decidable.not_not, not_true_eq_false, not_false_eq_true] at c2
    rw [hyes (.inr c2)]
    simp
  have d1 : s ≠ [] := by
    subst hI
    simp only [alg_b2i, alg_i2b, alg_add, alg_sub, alg_mul, alg_quo, alg_rem, alg_wrap, alg_imin, alg_imax, alg_ilt, alg_ile, alg_ieq, alg_bnot, alg_beq, alg_ban, alg_seq, alg_len, alg_app, alg_cut, alg_get, alg_set, alg_rep, alg_inr, alg_inb, alg_cutb, alg_same, alg_few, alg_nne, alg_nng, alg_hid, alg_shl, alg_shr, alg_bits, decide_eq_true_eq, decide_eq_false_iff_not, beq_iff_eq, beq_eq_false_iff_ne, Bool.not_eq_true', Bool.not_eq_false', Bool.and_eq_true, Bool.and_true, Bool.true_and, and_true, true_and, ne_eq, Int.toNat_zero, Nat.sub_zero, List.drop_zero, i64_min, i64_max, u8_min, u8_max, ofNat_b2i, b2i_inj, Int.toNat_natCast, Int.ofNat_eq_natCast, UInt8.ofNat_toNat, AOut.ret.injEq, D.v.injEq, D.tup.injEq, V0.one.injEq, C.p.injEq, P.bool.injEq, P.int.injEq, P.str.injEq, Bool.false_eq_true, Bool.true_eq_false, imp_false, Decidable.not_not, not_true_eq_false, not_false_eq_true] at c1
    exact c1
  have d2 : s.length ≤ 9 := by
    subst hI
    simp only [alg_b2i, alg_i2b, alg_add, alg_sub, alg_mul, alg_quo, alg_rem, alg_wrap, alg_imin, alg_imax, alg_ilt, alg_ile, alg_ieq, alg_bnot, alg_beq, alg_ban, alg_seq, alg_len, alg_app, alg_cut, alg_get, alg_set, alg_rep, alg_inr, alg_inb, alg_cutb, alg_same, alg_few, alg_nne, alg_nng, alg_hid, alg_shl, alg_shr, alg_bits, decide_eq_true_eq, decide_eq_false_iff_not, beq_iff_eq, beq_eq_false_iff_ne, Bool.not_eq_true', Bool.not_eq_false', Bool.and_eq_true, Bool.and_true, Bool.true_and, and_true, true_and, ne_eq, Int.toNat_zero, Nat.sub_zero, List.drop_zero, i64_min, i64_max, u8_min, u8_max, ofNat_b2i, b2i_inj, Int.toNat_natCast, Int.ofNat_eq_natCast, UInt8.ofNat_toNat, AOut.ret.injEq, D.v.injEq, D.tup.injEq, V0.one.injEq, C.p.injEq, P.bool.injEq, P.int.injEq, P.str.injEq, Bool.false_eq_true, Bool.true_eq_false, imp_false, Decidable.not_not, not_true_eq_false, not_false_eq_true] at c2
    omega
  refine loop_inv hI tab_ok mixed [hex__k, hex__l] hX [0, 1, 2, 8, 20, 21] (fun (g : Nat × Int) => match g with | (i, n) => i ≤ s.length ∧ 0 ≤ n ∧ n ≤ top9 i ∧ numG 10 n (s.drop i) = r) (fun (g : Nat × Int) => match g with | (i, n) => ⟨[(0, .v (.one (.p (.str s)))), (1, .v (.one (.p (.int .i64 10)))), (2, .v (.one (.p (.int .i64 9)))), (8, .v (.one (.p (.int .i64 n)))), (20, .v (.one (.p (.int .i64 ((I.len (α := UInt8) s)))))), (21, .v (.one (.p (.int .i64 i))))], [], 42⟩) (fun (g : Nat × Int) => match g with | (i, n) => s.length - i) (0, 0) (by kernel_rfl) (by kernel_rfl) ?_ ?_
  · exact ⟨Nat.zero_le _, Int.le_refl _, Int.le_refl _, hne d1 (by omega)⟩
  rintro ⟨i, n⟩ ⟨h1, h2, h3, h4⟩ A hA
  simp only at hA
  refine ev_rule (let y0 := I.b2i (I.get (α := UInt8) s 0 (Nat.cast i)); let y1 := I.add (I.mul n 10) (I.hid (α := Int) (hexK y0)); .br (I.ilt (Nat.cast i) (I.len (α := UInt8) s)) (.need (I.inb (Nat.cast i) (I.len (α := UInt8) s)) (.need (I.hid (α := (Prop)) (And (LE.le (0 : Int) y0) (LE.le y0 (255 : Int)))) (.br (I.ilt (I.hid (α := Int) (hexK y0)) 0) (.fin (.ret (.tup [(.one (.p (.int .i64 0))), (.one (.p (.bool Bool.false)))])) []) (.br (I.ile 10 (I.hid (α := Int) (hexK y0))) (.fin (.ret (.tup [(.one (.p (.int .i64 0))), (.one (.p (.bool Bool.false)))])) []) (.need (I.inr Go.IntKind.i64 (I.mul n 10)) (.need (I.inr Go.IntKind.i64 y1) (.need (I.inr Go.IntKind.i64 (I.add (Nat.cast i) 1)) (.need (A ⟨[(0, (.v (.one (.p (.str s))))), (1, (.v (.one (.p (.int .i64 10))))), (2, (.v (.one (.p (.int .i64 9))))), (8, (.v (.one (.p (.int .i64 y1))))), (20, (.v (.one (.p (.int .i64 (I.len (α := UInt8) s)))))), (21, (.v (.one (.p (.int .i64 (I.add (Nat.cast i) 1))))))], [], 42⟩) .qed)))))))) (.fin (.ret (.tup [(.one (.p (.int .i64 n))), (.one (.p (.bool Bool.true)))])) [])) (by kernel_rfl) ?_
  simp only [inst_need, inst_br, inst_both, inst_fin, inst_qed, inst_stop, inst_code]
  subst hI
  simp only [alg_b2i, alg_i2b, alg_add, alg_sub, alg_mul, alg_quo, alg_rem, alg_wrap, alg_imin, alg_imax, alg_ilt, alg_ile, alg_ieq, alg_bnot, alg_beq, alg_ban, alg_seq, alg_len, alg_app, alg_cut, alg_get, alg_set, alg_rep, alg_inr, alg_inb, alg_cutb, alg_same, alg_few, alg_nne, alg_nng, alg_hid, alg_shl, alg_shr, alg_bits, decide_eq_true_eq, decide_eq_false_iff_not, beq_iff_eq, beq_eq_false_iff_ne, Bool.not_eq_true', Bool.not_eq_false', Bool.and_eq_true, Bool.and_true, Bool.true_and, and_true, true_and, ne_eq, Int.toNat_zero, Nat.sub_zero, List.drop_zero, i64_min, i64_max, u8_min, u8_max, ofNat_b2i, b2i_inj, Int.toNat_natCast, Int.ofNat_eq_natCast, UInt8.ofNat_toNat, AOut.ret.injEq, D.v.injEq, D.tup.injEq, V0.one.injEq, C.p.injEq, P.bool.injEq, P.int.injEq, P.str.injEq, Bool.false_eq_true, Bool.true_eq_false, imp_false, Decidable.not_not, not_true_eq_false, not_false_eq_true]
  have hb := byte_int (s.getD i 0)
  have hk := hexK_le hb
  have hd : i < s.length → _ := fun h => numG_drop (base := 10) (n := n) h
  have ht : i ≤ 9 := by omega
  have ht := top9_le ht
  have ht2 : top9 (i + 1) = 16 * top9 i + 15 := rfl
  generalize s.getD i 0 = x at *
  generalize hexK (x.toNat : Int) = k at *
  (repeat' (first | refine And.intro ?_ ?_ | intro _)) <;> first | omega | exact True.intro | exact False.elim ‹False› | skip
  all_goals first
    | omega
    | (rw [← h4, hd (by omega), if_pos (.inl (by omega))])
    | (rw [← h4, hd (by omega), if_pos (.inr (by omega))])
    | (refine hA (i + 1, _) ⟨by simp only; omega, by simp only; omega, by simp only; omega, ?_⟩ (by simp only; omega); rw [← h4, hd (by omega), if_neg (by omega)])
    | (rw [← h4, List.drop_of_length_le (by omega)]; rfl)
def number10__c (I : Alg) (args : List D) (hp : List HO) : Option CT := match args, hp with
  | [.v (.one (.p (.str s))), .v (.one (.p (.int .i64 10))), .v (.one (.p (.int .i64 9)))], [] => (fun (s : Str) => (some (.one ⟨I.hid (True), (.ret (.tup [(.one (.p (.int .i64 (I.hid ((numA s 10 9).1))))), (.one (.p (.bool (I.hid ((numA s 10 9).2)))))])), []⟩) : Option CT)) s
  | _, _ => none
theorem number10__g : GoodC Tryd.prog 157 (number10__c alg) := by
  intro args hp r h
  unfold number10__c at h
  split at h
  · cases h; exact fun hn => number10_ _
  · cases h
def number10__k : Know Tryd.prog := ⟨157, number10__c, number10__g⟩
def number10__l : Know Tryd.prog := ⟨157, fun I => lendC I (number10__c I), lendC_good number10__g⟩

theorem number16_ (s : Str) : Spc Tryd.prog 157 [.v (.one (.p (.str s))), .v (.one (.p (.int .i64 16))), .v (.one (.p (.int .i64 6)))] [] (.ret (.tup [(.one (.p (.int .i64 ((numA s 16 6).1)))), (.one (.p (.bool ((numA s 16 6).2))))])) [] := by
  generalize hr : numA s 16 6 = r
  refine spcG tab_ok mixed Tryd.func157 (by kernel_rfl) { keep := some [0, 1, 2, 6, 7, 8, 9, 10, 20, 21] } [hex__k, hex__l, number10__k, number10__l] (by kernel_rfl) ?_
  intro I X hI hX
  refine ev_rule (.br (I.seq s (Array.toList (List.toArray ([] : List UInt8)))) (.fin (.ret (.tup [(.one (.p (.int .i64 0))), (.one (.p (.bool Bool.false)))])) []) (.br (I.ilt 6 (I.len (α := UInt8) s)) (.fin (.ret (.tup [(.one (.p (.int .i64 0))), (.one (.p (.bool Bool.false)))])) []) (.code 0 [1, 1, 1, 0, 1, 0] ⟨[(21, (.v (.one (.p (.int .i64 0))))), (20, (.v (.one (.p (.int .i64 (I.len (α := UInt8) s)))))), (8, (.v (.one (.p (.int .i64 0))))), (7, (.v (.one (.p (.val (.bool .false)))))), (6, (.v (.one (.p (.int .i64 0))))), (0, (.v (.one (.p (.str s))))), (1, (.v (.one (.p (.int .i64 16))))), (2, (.v (.one (.p (.int .i64 6)))))], [], 42⟩))) (by kernel_rfl) ?_
  simp only [inst_need, inst_br, inst_both, inst_fin, inst_qed, inst_stop, inst_code]
  have hne : s ≠ [] → ¬ (6 : Int) < s.length → numG 16 0 s = r := fun h1 h2 => by rw [← hr, numA, if_neg (fun h => by rcases h with h | h; exact h1 h; exact h2 h)]
  have hyes : (s = [] ∨ (6 : Int) < s.length) → r = (0, false) := fun h => by rw [← hr, numA, if_pos h]
  refine ⟨fun c1 => ?_, fun c1 => ⟨fun c2 => ?_, fun c2 => ?_⟩⟩
  · subst hI
    simp only [alg_b2i, alg_i2b, alg_add, alg_sub, alg_mul, alg_quo, alg_rem, alg_wrap, alg_imin, alg_imax, alg_ilt, alg_ile, alg_ieq, alg_bnot, alg_beq, alg_ban, alg_seq, alg_len, alg_app, alg_cut, alg_get, alg_set, alg_rep, alg_inr, alg_inb, alg_cutb, alg_same, alg_few, alg_nne, alg_nng, alg_hid, alg_shl, alg_shr, alg_bits, decide_eq_true_eq, decide_eq_false_iff_not, beq_iff_eq, beq_eq_false_iff_ne, Bool.not_eq_true', Bool.not_eq_false', Bool.and_eq_true, Bool.and_true, Bool.true_and, and_true, true_and, ne_eq, Int.toNat_zero, Nat.sub_zero, List.drop_zero, i64_min, i64_max, u8_min, u8_max, ofNat_b2i, b2i_inj, Int.toNat_natCast, Int.ofNat_eq_natCast, UInt8.ofNat_toNat, AOut.ret.injEq, D.v.injEq, D.tup.injEq, V0.one.injEq, C.p.injEq, P.bool.injEq, P.int.injEq, P.str.injEq, Bool.false_eq_true, Bool.true_eq_false, imp_false, Decidable.not_not, not_true_eq_false, not_false_eq_true] at c1
    rw [hyes (.inl c1)]
    simp
  · subst hI
    simp only [alg_b2i, alg_i2b, alg_add, alg_sub, alg_mul, alg_quo, alg_rem, alg_wrap, alg_imin, alg_imax, alg_ilt, alg_ile, alg_ieq, alg_bnot, alg_beq, alg_ban, alg_seq, alg_len, alg_app, alg_cut, alg_get, alg_set, alg_rep, alg_inr, alg_inb, alg_cutb, alg_same, alg_few, alg_nne, alg_nng, alg_hid, alg_shl, alg_shr, alg_bits, decide_eq_true_eq, decide_eq_false_iff_not, beq_iff_eq, beq_eq_false_iff_ne, Bool.not_eq_true', Bool.not_eq_false', Bool.and_eq_true, Bool.and_true, Bool.true_and, and_true, true_and, ne_eq, Int.toNat_zero, Nat.sub_zero, List.drop_zero, i64_min, i64_max, u8_min, u8_max, ofNat_b2i, b2i_inj, Int.toNat_natCast, Int.ofNat_eq_natCast, UInt8.ofNat_toNat, AOut.ret.injEq, D.v.injEq, D.tup.injEq, V0.one.injEq, C.p.injEq, P.bool.injEq, P.int.injEq, P.str.injEq, Bool.false_eq_true, Bool.true_eq_false, imp_false, Decidable.not_not, not_true_eq_false, not_false_eq_true] at c2
    rw [hyes (.inr c2)]
    simp
  have d1 : s ≠ [] := by
    subst hI
    simp only [alg_b2i, alg_i2b, alg_add, alg_sub, alg_mul, alg_quo, alg_rem, alg_wrap, alg_imin, alg_imax, alg_ilt, alg_ile, alg_ieq, alg_bnot, alg_beq, alg_ban, alg_seq, alg_len, alg_app, alg_cut, alg_get, alg_set, alg_rep, alg_inr, alg_inb, alg_cutb, alg_same, alg_few, alg_nne, alg_nng, alg_hid, alg_shl, alg_shr, alg_bits, decide_eq_true_eq, decide_eq_false_iff_not, beq_iff_eq, beq_eq_false_iff_ne, Bool.not_eq_true', Bool.not_eq_false', Bool.and_eq_true, Bool.and_true, Bool.true_and, and_true, true_and, ne_eq, Int.toNat_zero, Nat.sub_zero, List.drop_zero, i64_min, i64_max, u8_min, u8_max, ofNat_b2i, b2i_inj, Int.toNat_natCast, Int.ofNat_eq_natCast, UInt8.ofNat_toNat, AOut.ret.injEq, D.v.injEq, D.tup.injEq, V0.one.injEq, C.p.injEq, P.bool.injEq, P.int.injEq, P.str.injEq, Bool.false_eq_true, Bool.true_eq_false, imp_false, Decidable.not_not, not_true_eq_false, not_false_eq_true] at c1
    exact c1
  have d2 : s.length ≤ 6 := by
    subst hI
    simp only [alg_b2i, alg_i2b, alg_add, alg_sub, alg_mul, alg_quo, alg_rem, alg_wrap, alg_imin, alg_imax, alg_ilt, alg_ile, alg_ieq, alg_bnot, alg_beq, alg_ban, alg_seq, alg_len, alg_app, alg_cut, alg_get, alg_set, alg_rep, alg_inr, alg_inb, alg_cutb, alg_same, alg_few, alg_nne, alg_nng, alg_hid, alg_shl, alg_shr, alg_bits, decide_eq_true_eq, decide_eq_false_iff_not, beq_iff_eq, beq_eq_false_iff_ne, Bool.not_eq_true', Bool.not_eq_false', Bool.and_eq_true, Bool.and_true, Bool.true_and, and_true, true_and, ne_eq, Int.toNat_zero, Nat.sub_zero, List.drop_zero, i64_min, i64_max, u8_min, u8_max, ofNat_b2i, b2i_inj, Int.toNat_natCast, Int.ofNat_eq_natCast, UInt8.ofNat_toNat, AOut.ret.injEq, D.v.injEq, D.tup.injEq, V0.one.injEq, C.p.injEq, P.bool.injEq, P.int.injEq, P.str.injEq, Bool.false_eq_true, Bool.true_eq_false, imp_false, Decidable.not_not, not_true_eq_false, not_false_eq_true] at c2
    omega
  refine loop_inv hI tab_ok mixed [hex__k, hex__l, number10__k, number10__l] hX [0, 1, 2, 8, 20, 21] (fun (g : Nat × Int) => match g with | (i, n) => i ≤ s.length ∧ 0 ≤ n ∧ n ≤ top9 i ∧ numG 16 n (s.drop i) = r) (fun (g : Nat × Int) => match g with | (i, n) => ⟨[(0, .v (.one (.p (.str s)))), (1, .v (.one (.p (.int .i64 16)))), (2, .v (.one (.p (.int .i64 6)))), (8, .v (.one (.p (.int .i64 n)))), (20, .v (.one (.p (.int .i64 ((I.len (α := UInt8) s)))))), (21, .v (.one (.p (.int .i64 i))))], [], 42⟩) (fun (g : Nat × Int) => match g with | (i, n) => s.length - i) (0, 0) (by kernel_rfl) (by kernel_rfl) ?_ ?_
  · exact ⟨Nat.zero_le _, Int.le_refl _, Int.le_refl _, hne d1 (by omega)⟩
  rintro ⟨i, n⟩ ⟨h1, h2, h3, h4⟩ A hA
  simp only at hA
  refine ev_rule (let y0 := I.b2i (I.get (α := UInt8) s 0 (Nat.cast i)); let y1 := I.add (I.mul n 16) (I.hid (α := Int) (hexK y0)); .br (I.ilt (Nat.cast i) (I.len (α := UInt8) s)) (.need (I.inb (Nat.cast i) (I.len (α := UInt8) s)) (.need (I.hid (α := (Prop)) (And (LE.le (0 : Int) y0) (LE.le y0 (255 : Int)))) (.br (I.ilt (I.hid (α := Int) (hexK y0)) 0) (.fin (.ret (.tup [(.one (.p (.int .i64 0))), (.one (.p (.bool Bool.false)))])) []) (.br (I.ile 16 (I.hid (α := Int) (hexK y0))) (.fin (.ret (.tup [(.one (.p (.int .i64 0))), (.one (.p (.bool Bool.false)))])) []) (.need (I.inr Go.IntKind.i64 (I.mul n 16)) (.need (I.inr Go.IntKind.i64 y1) (.need (I.inr Go.IntKind.i64 (I.add (Nat.cast i) 1)) (.need (A ⟨[(0, (.v (.one (.p (.str s))))), (1, (.v (.one (.p (.int .i64 16))))), (2, (.v (.one (.p (.int .i64 6))))), (8, (.v (.one (.p (.int .i64 y1))))), (20, (.v (.one (.p (.int .i64 (I.len (α := UInt8) s)))))), (21, (.v (.one (.p (.int .i64 (I.add (Nat.cast i) 1))))))], [], 42⟩) .qed)))))))) (.fin (.ret (.tup [(.one (.p (.int .i64 n))), (.one (.p (.bool Bool.true)))])) [])) (by kernel_rfl) ?_
  simp only [inst_need, inst_br, inst_both, inst_fin, inst_qed, inst_stop, inst_code]
  subst hI
  simp only [alg_b2i, alg_i2b, alg_add, alg_sub, alg_mul, alg_quo, alg_rem, alg_wrap, alg_imin, alg_imax, alg_ilt, alg_ile, alg_ieq, alg_bnot, alg_beq, alg_ban, alg_seq, alg_len, alg_app, alg_cut, alg_get, alg_set, alg_rep, alg_inr, alg_inb, alg_cutb, alg_same, alg_few, alg_nne, alg_nng, alg_hid, alg_shl, alg_shr, alg_bits, decide_eq_true_eq, decide_eq_false_iff_not, beq_iff_eq, beq_eq_false_iff_ne, Bool.not_eq_true', Bool.not_eq_false', Bool.and_eq_true, Bool.and_true, Bool.true_and, and_true, true_and, ne_eq, Int.toNat_zero, Nat.sub_zero, List.drop_zero, i64_min, i64_max, u8_min, u8_max, ofNat_b2i, b2i_inj, Int.toNat_natCast, Int.ofNat_eq_natCast, UInt8.ofNat_toNat, AOut.ret.injEq, D.v.injEq, D.tup.injEq, V0.one.injEq, C.p.injEq, P.bool.injEq, P.int.injEq, P.str.injEq, Bool.false_eq_true, Bool.true_eq_false, imp_false, Decidable.not_not, not_true_eq_false, not_false_eq_true]
  have hb := byte_int (s.getD i 0)
  have hk := hexK_le hb
  have hd : i < s.length → _ := fun h => numG_drop (base := 16) (n := n) h
  have ht : i ≤ 9 := by omega
  have ht := top9_le ht
  have ht2 : top9 (i + 1) = 16 * top9 i + 15 := rfl
  generalize s.getD i 0 = x at *
  generalize hexK (x.toNat : Int) = k at *
  (repeat' (first | refine And.intro ?_ ?_ | intro _)) <;> first | omega | exact True.intro | exact False.elim ‹False› | skip
  all_goals first
    | omega
    | (rw [← h4, hd (by omega), if_pos (.inl (by omega))])
    | (rw [← h4, hd (by omega), if_pos (.inr (by omega))])
    | (refine hA (i + 1, _) ⟨by simp only; omega, by simp only; omega, by simp only; omega, ?_⟩ (by simp only; omega); rw [← h4, hd (by omega), if_neg (by omega)])
    | (rw [← h4, List.drop_of_length_le (by omega)]; rfl)
def number16__c (I : Alg) (args : List D) (hp : List HO) : Option CT := match args, hp with
  | [.v (.one (.p (.str s))), .v (.one (.p (.int .i64 16))), .v (.one (.p (.int .i64 6)))], [] => (fun (s : Str) => (some (.one ⟨I.hid (True), (.ret (.tup [(.one (.p (.int .i64 (I.hid ((numA s 16 6).1))))), (.one (.p (.bool (I.hid ((numA s 16 6).2)))))])), []⟩) : Option CT)) s
  | _, _ => none
theorem number16__g : GoodC Tryd.prog 157 (number16__c alg) := by
  intro args hp r h
  unfold number16__c at h
  split at h
  · cases h; exact fun hn => number16_ _
  · cases h
def number16__k : Know Tryd.prog := ⟨157, number16__c, number16__g⟩
def number16__l : Know Tryd.prog := ⟨157, fun I => lendC I (number16__c I), lendC_good number16__g⟩

theorem hexOf_ (k : Int) (hneed : 0 ≤ k ∧ k ≤ 255) : Spc Tryd.prog 117 [.v (.one (.p (.int .u8 k)))] [] (.ret (.v (.one (.p (.int .i64 (hexK k)))))) [] := by
  generalize hr : hexK k = r
  obtain ⟨f1, f2⟩ := hex_find hneed
  rw [hr] at f1 f2
  refine spcG tab_ok mixed Tryd.func117 (by kernel_rfl) { keep := some [0, 2, 3, 4, 5] } [small__k, small__l] (by kernel_rfl) ?_
  intro I X hI hX
  refine ev_rule (.need (I.inr Go.IntKind.u8 k) (.need (I.hid (α := (Prop)) (LE.le (List.length ([(I.i2b k)] : List UInt8)) 1000000)) (.code 0 [1, 1, 1, 0, 1, 0] ⟨[(5, (.v (.one (.p (.int .i64 0))))), (4, (.v (.one (.p (.str (I.hid (α := (List UInt8)) (lowS ([(I.i2b k)] : List UInt8)))))))), (3, (.v (.one (.p (.str (Array.toList (List.toArray ([48, 49, 50, 51, 52, 53, 54, 55, 56, 57, 97, 98, 99, 100, 101, 102] : List UInt8)))))))), (2, (.v (.one (.p (.int .i64 0))))), (0, (.v (.one (.p (.int .u8 k)))))], [(.row .byte 5 ([(I.i2b k)] : List UInt8))], 22⟩))) (by kernel_rfl) ?_
  simp only [inst_need, inst_br, inst_both, inst_fin, inst_qed, inst_stop, inst_code]
  refine ⟨(by rw [hI]; simp only [alg_b2i, alg_i2b, alg_add, alg_sub, alg_mul, alg_quo, alg_rem, alg_wrap, alg_imin, alg_imax, alg_ilt, alg_ile, alg_ieq, alg_bnot, alg_beq, alg_ban, alg_seq, alg_len, alg_app, alg_cut, alg_get, alg_set, alg_rep, alg_inr, alg_inb, alg_cutb, alg_same, alg_few, alg_nne, alg_nng, alg_hid, alg_shl, alg_shr, alg_bits, decide_eq_true_eq, decide_eq_false_iff_not, beq_iff_eq, beq_eq_false_iff_ne, Bool.not_eq_true', Bool.not_eq_false', Bool.and_eq_true, Bool.and_true, Bool.true_and, and_true, true_and, ne_eq, Int.toNat_zero, Nat.sub_zero, List.drop_zero, i64_min, i64_max, u8_min, u8_max, ofNat_b2i, b2i_inj, Int.toNat_natCast, Int.ofNat_eq_natCast, UInt8.ofNat_toNat, AOut.ret.injEq, D.v.injEq, D.tup.injEq, V0.one.injEq, C.p.injEq, P.bool.injEq, P.int.injEq, P.str.injEq, Bool.false_eq_true, Bool.true_eq_false, imp_false, Decidable.not_not, not_true_eq_false, not_false_eq_true]; omega), (by rw [hI, alg_hid]; simp), ?_⟩
  generalize hu : I.hid (lowS [I.i2b k]) = u
  have hu1 : u = [lowC (UInt8.ofNat k.toNat)] := by rw [← hu, hI]; rfl
  generalize lowC (UInt8.ofNat k.toNat) = x at *
  refine loop_inv hI tab_ok mixed [small__k, small__l] hX [0, 3, 4, 5] (fun (j : Nat) => j ≤ 16 ∧ ∀ j' : Fin 16, j'.1 < j → ¬ x = ([48, 49, 50, 51, 52, 53, 54, 55, 56, 57, 97, 98, 99, 100, 101, 102] : Str).getD j'.1 0) (fun (j : Nat) => ⟨[(0, .v (.one (.p (.int .u8 k)))), (3, .v (.one (.p (.str ([48, 49, 50, 51, 52, 53, 54, 55, 56, 57, 97, 98, 99, 100, 101, 102]))))), (4, .v (.one (.p (.str u)))), (5, .v (.one (.p (.int .i64 j))))], [], 22⟩) (fun (j : Nat) => 16 - j) 0 (by kernel_rfl) (by kernel_rfl) ?_ ?_
  · exact ⟨Nat.zero_le _, fun _ h => absurd h (Nat.not_lt_zero _)⟩
  rintro j ⟨h1, h2⟩ A hA
  refine ev_rule (let y0 := I.inr Go.IntKind.i64 (I.add (Nat.cast j) 1); .br (I.ilt (Nat.cast j) 16) (.need y0 (.need (I.cutb (Int.ofNat j) (I.add (Nat.cast j) 1) (I.len (α := UInt8) ([48, 49, 50, 51, 52, 53, 54, 55, 56, 57, 97, 98, 99, 100, 101, 102] : List UInt8))) (.br (I.seq u (I.cut (α := UInt8) ([48, 49, 50, 51, 52, 53, 54, 55, 56, 57, 97, 98, 99, 100, 101, 102] : List UInt8) (Int.ofNat j) (I.add (Nat.cast j) 1))) (.fin (.ret (.v (.one (.p (.int .i64 (Nat.cast j)))))) []) (.need y0 (.need (A ⟨[(0, (.v (.one (.p (.int .u8 k))))), (3, (.v (.one (.p (.str ([48, 49, 50, 51, 52, 53, 54, 55, 56, 57, 97, 98, 99, 100, 101, 102] : List UInt8)))))), (4, (.v (.one (.p (.str u))))), (5, (.v (.one (.p (.int .i64 (I.add (Nat.cast j) 1))))))], [], 22⟩) .qed))))) (.fin (.ret (.v (.one (.p (.int .i64 (Neg.neg (1 : Int))))))) [])) (by kernel_rfl) ?_
  simp only [inst_need, inst_br, inst_both, inst_fin, inst_qed, inst_stop, inst_code]
  subst hI
  simp only [alg_b2i, alg_i2b, alg_add, alg_sub, alg_mul, alg_quo, alg_rem, alg_wrap, alg_imin, alg_imax, alg_ilt, alg_ile, alg_ieq, alg_bnot, alg_beq, alg_ban, alg_seq, alg_len, alg_app, alg_cut, alg_get, alg_set, alg_rep, alg_inr, alg_inb, alg_cutb, alg_same, alg_few, alg_nne, alg_nng, alg_hid, alg_shl, alg_shr, alg_bits, decide_eq_true_eq, decide_eq_false_iff_not, beq_iff_eq, beq_eq_false_iff_ne, Bool.not_eq_true', Bool.not_eq_false', Bool.and_eq_true, Bool.and_true, Bool.true_and, and_true, true_and, ne_eq, Int.toNat_zero, Nat.sub_zero, List.drop_zero, i64_min, i64_max, u8_min, u8_max, ofNat_b2i, b2i_inj, Int.toNat_natCast, Int.ofNat_eq_natCast, UInt8.ofNat_toNat, AOut.ret.injEq, D.v.injEq, D.tup.injEq, V0.one.injEq, C.p.injEq, P.bool.injEq, P.int.injEq, P.str.injEq, Bool.false_eq_true, Bool.true_eq_false, imp_false, Decidable.not_not, not_true_eq_false, not_false_eq_true]
  generalize hH : ([48, 49, 50, 51, 52, 53, 54, 55, 56, 57, 97, 98, 99, 100, 101, 102] : Str) = H at *
  have hHl : H.length = 16 := by rw [← hH]; rfl
  have hcut : j < 16 → (H.drop j).take (((j : Int) + 1).toNat - j) = [H.getD j 0] := fun h => by
    rw [show ((j : Int) + 1).toNat - j = 1 by omega, List.drop_eq_getElem_cons (by omega), List.take_succ_cons, List.take_zero]
    simp [hHl, h]
  have hq : j < 16 → (u = (H.drop j).take (((j : Int) + 1).toNat - j) ↔ x = H.getD j 0) := fun h => by
    rw [hcut h, hu1]; simp
  (repeat' (first | refine And.intro ?_ ?_ | intro _)) <;> first | omega | exact True.intro | exact False.elim ‹False› | skip
  all_goals first
    | omega
    | exact (f1 ⟨j, by omega⟩ ((hq (by omega)).1 ‹_›)).symm
    | (refine hA (j + 1) ⟨by omega, fun j' hj' => ?_⟩ (by omega)
       rcases Nat.lt_or_ge j'.1 j with hlt | hge
       · exact h2 j' hlt
       · rw [show j'.1 = j by omega]; exact fun e => ‹¬ u = _› ((hq (by omega)).2 e))
    | exact (f2 fun j' => h2 j' (by have := j'.2; omega)).symm
def hexOf__c (I : Alg) (args : List D) (hp : List HO) : Option CT := match args, hp with
  | [.v (.one (.p (.int .u8 k)))], [] => (fun (k : Int) => (some (.one ⟨I.hid (0 ≤ k ∧ k ≤ 255), (.ret (.v (.one (.p (.int .i64 (I.hid (hexK k))))))), []⟩) : Option CT)) k
  | _, _ => none
theorem hexOf__g : GoodC Tryd.prog 117 (hexOf__c alg) := by
  intro args hp r h
  unfold hexOf__c at h
  split at h
  · cases h; exact fun hn => hexOf_ _ hn
  · cases h
def hexOf__k : Know Tryd.prog := ⟨117, hexOf__c, hexOf__g⟩
def hexOf__l : Know Tryd.prog := ⟨117, fun I => lendC I (hexOf__c I), lendC_good hexOf__g⟩


theorem hexNumberOf_ (s : Str) : Spc Tryd.prog 97 [.v (.one (.p (.str s)))] [] (.ret (.tup [(.one (.p (.int .i64 ((numA s 16 6).1)))), (.one (.p (.bool ((numA s 16 6).2))))])) [] := by
  generalize hr : numA s 16 6 = r
  refine spcG tab_ok mixed Tryd.func97 (by kernel_rfl) { keep := some [0, 2, 3, 4, 5] } [hexOf__k, hexOf__l] (by kernel_rfl) ?_
  intro I X hI hX
  refine ev_rule (.br (I.ilt (I.len (α := UInt8) s) 1) (.fin (.ret (.tup [(.one (.p (.int .i64 0))), (.one (.p (.bool Bool.false)))])) []) (.br (I.ilt 6 (I.len (α := UInt8) s)) (.fin (.ret (.tup [(.one (.p (.int .i64 0))), (.one (.p (.bool Bool.false)))])) []) (.code 0 [1, 1, 1, 0, 1, 0] ⟨[(5, (.v (.one (.p (.int .i64 0))))), (4, (.v (.one (.p (.int .i64 0))))), (3, (.v (.one (.p (.val (.bool .false)))))), (2, (.v (.one (.p (.int .i64 0))))), (0, (.v (.one (.p (.str s)))))], [], 33⟩))) (by kernel_rfl) ?_
  simp only [inst_need, inst_br, inst_both, inst_fin, inst_qed, inst_stop, inst_code]
  have hne : s ≠ [] → ¬ (6 : Int) < s.length → numG 16 0 s = r := fun h1 h2 => by rw [← hr, numA, if_neg (fun h => by rcases h with h | h; exact h1 h; exact h2 h)]
  have hyes : (s = [] ∨ (6 : Int) < s.length) → r = (0, false) := fun h => by rw [← hr, numA, if_pos h]
  refine ⟨fun c1 => ?_, fun c1 => ⟨fun c2 => ?_, fun c2 => ?_⟩⟩
  · subst hI
    simp only [alg_b2i, alg_i2b, alg_add, alg_sub, alg_mul, alg_quo, alg_rem, alg_wrap, alg_imin, alg_imax, alg_ilt, alg_ile, alg_ieq, alg_bnot, alg_beq, alg_ban, alg_seq, alg_len, alg_app, alg_cut, alg_get, alg_set, alg_rep, alg_inr, alg_inb, alg_cutb, alg_same, alg_few, alg_nne, alg_nng, alg_hid, alg_shl, alg_shr, alg_bits, decide_eq_true_eq, decide_eq_false_iff_not, beq_iff_eq, beq_eq_false_iff_ne, Bool.not_eq_true', Bool.not_eq_false', Bool.and_eq_true, Bool.and_true, Bool.true_and, and_true, true_and, ne_eq, Int.toNat_zero, Nat.sub_zero, List.drop_zero, i64_min, i64_max, u8_min, u8_max, ofNat_b2i, b2i_inj, Int.toNat_natCast, Int.ofNat_eq_natCast, UInt8.ofNat_toNat, AOut.ret.injEq, D.v.injEq, D.tup.injEq, V0.one.injEq, C.p.injEq, P.bool.injEq, P.int.injEq, P.str.injEq, Bool.false_eq_true, Bool.true_eq_false, imp_false, Decidable.not_not, not_true_eq_false, not_false_eq_true] at c1
    rw [hyes (.inl (List.eq_nil_of_length_eq_zero (by omega)))]
    simp
  · subst hI
    simp only [alg_b2i, alg_i2b, alg_add, alg_sub, alg_mul, alg_quo, alg_rem, alg_wrap, alg_imin, alg_imax, alg_ilt, alg_ile, alg_ieq, alg_bnot, alg_beq, alg_ban, alg_seq, alg_len, alg_app, alg_cut, alg_get, alg_set, alg_rep, alg_inr, alg_inb, alg_cutb, alg_same, alg_few, alg_nne, alg_nng, alg_hid, alg_shl, alg_shr, alg_bits, decide_eq_true_eq, decide_eq_false_iff_not, beq_iff_eq, beq_eq_false_iff_ne, Bool.not_eq_true', Bool.not_eq_false', Bool.and_eq_true, Bool.and_true, Bool.true_and, and_true, true_and, ne_eq, Int.toNat_zero, Nat.sub_zero, List.drop_zero, i64_min, i64_max, u8_min, u8_max, ofNat_b2i, b2i_inj, Int.toNat_natCast, Int.ofNat_eq_natCast, UInt8.ofNat_toNat, AOut.ret.injEq, D.v.injEq, D.tup.injEq, V0.one.injEq, C.p.injEq, P.bool.injEq, P.int.injEq, P.str.injEq, Bool.false_eq_true, Bool.true_eq_false, imp_false, Decidable.not_not, not_true_eq_false, not_false_eq_true] at c2
    rw [hyes (.inr c2)]
    simp
  have d1 : s ≠ [] := by
    subst hI
    simp only [alg_b2i, alg_i2b, alg_add, alg_sub, alg_mul, alg_quo, alg_rem, alg_wrap, alg_imin, alg_imax, alg_ilt, alg_ile, alg_ieq, alg_bnot, alg_beq, alg_ban, alg_seq, alg_len, alg_app, alg_cut, alg_get, alg_set, alg_rep, alg_inr, alg_inb, alg_cutb, alg_same, alg_few, alg_nne, alg_nng, alg_hid, alg_shl, alg_shr, alg_bits, decide_eq_true_eq, decide_eq_false_iff_not, beq_iff_eq, beq_eq_false_iff_ne, Bool.not_eq_true', Bool.not_eq_false', Bool.and_eq_true, Bool.and_true, Bool.true_and, and_true, true_and, ne_eq, Int.toNat_zero, Nat.sub_zero, List.drop_zero, i64_min, i64_max, u8_min, u8_max, ofNat_b2i, b2i_inj, Int.toNat_natCast, Int.ofNat_eq_natCast, UInt8.ofNat_toNat, AOut.ret.injEq, D.v.injEq, D.tup.injEq, V0.one.injEq, C.p.injEq, P.bool.injEq, P.int.injEq, P.str.injEq, Bool.false_eq_true, Bool.true_eq_false, imp_false, Decidable.not_not, not_true_eq_false, not_false_eq_true] at c1
    rintro rfl
    simp at c1
  have d2 : s.length ≤ 6 := by
    subst hI
    simp only [alg_b2i, alg_i2b, alg_add, alg_sub, alg_mul, alg_quo, alg_rem, alg_wrap, alg_imin, alg_imax, alg_ilt, alg_ile, alg_ieq, alg_bnot, alg_beq, alg_ban, alg_seq, alg_len, alg_app, alg_cut, alg_get, alg_set, alg_rep, alg_inr, alg_inb, alg_cutb, alg_same, alg_few, alg_nne, alg_nng, alg_hid, alg_shl, alg_shr, alg_bits, decide_eq_true_eq, decide_eq_false_iff_not, beq_iff_eq, beq_eq_false_iff_ne, Bool.not_eq_true', Bool.not_eq_false', Bool.and_eq_true, Bool.and_true, Bool.true_and, and_true, true_and, ne_eq, Int.toNat_zero, Nat.sub_zero, List.drop_zero, i64_min, i64_max, u8_min, u8_max, ofNat_b2i, b2i_inj, Int.toNat_natCast, Int.ofNat_eq_natCast, UInt8.ofNat_toNat, AOut.ret.injEq, D.v.injEq, D.tup.injEq, V0.one.injEq, C.p.injEq, P.bool.injEq, P.int.injEq, P.str.injEq, Bool.false_eq_true, Bool.true_eq_false, imp_false, Decidable.not_not, not_true_eq_false, not_false_eq_true] at c2
    omega
  refine loop_inv hI tab_ok mixed [hexOf__k, hexOf__l] hX [0, 4, 5] (fun (g : Nat × Int) => match g with | (i, n) => i ≤ s.length ∧ 0 ≤ n ∧ n ≤ top9 i ∧ numG 16 n (s.drop i) = r) (fun (g : Nat × Int) => match g with | (i, n) => ⟨[(0, .v (.one (.p (.str s)))), (4, .v (.one (.p (.int .i64 n)))), (5, .v (.one (.p (.int .i64 i))))], [], 33⟩) (fun (g : Nat × Int) => match g with | (i, n) => s.length - i) (0, 0) (by kernel_rfl) (by kernel_rfl) ?_ ?_
  · exact ⟨Nat.zero_le _, Int.le_refl _, Int.le_refl _, hne d1 (by omega)⟩
  rintro ⟨i, n⟩ ⟨h1, h2, h3, h4⟩ A hA
  simp only at hA
  refine ev_rule (let y0 := I.b2i (I.get (α := UInt8) s 0 (Nat.cast i)); let y1 := I.hid (α := (Prop)) (And (LE.le (0 : Int) y0) (LE.le y0 (255 : Int))); let y2 := I.add (I.mul 16 n) (I.hid (α := Int) (hexK y0)); let y3 := I.inb (Nat.cast i) (I.len (α := UInt8) s); .br (I.ilt (Nat.cast i) (I.len (α := UInt8) s)) (.need y3 (.need y1 (.br (I.ilt (I.hid (α := Int) (hexK y0)) 0) (.fin (.ret (.tup [(.one (.p (.int .i64 0))), (.one (.p (.bool Bool.false)))])) []) (.need (I.inr Go.IntKind.i64 (I.mul 16 n)) (.need y3 (.need y1 (.need (I.inr Go.IntKind.i64 y2) (.need (I.inr Go.IntKind.i64 (I.add (Nat.cast i) 1)) (.need (A ⟨[(0, (.v (.one (.p (.str s))))), (4, (.v (.one (.p (.int .i64 y2))))), (5, (.v (.one (.p (.int .i64 (I.add (Nat.cast i) 1))))))], [], 33⟩) .qed))))))))) (.fin (.ret (.tup [(.one (.p (.int .i64 n))), (.one (.p (.bool Bool.true)))])) [])) (by kernel_rfl) ?_
  simp only [inst_need, inst_br, inst_both, inst_fin, inst_qed, inst_stop, inst_code]
  subst hI
  simp only [alg_b2i, alg_i2b, alg_add, alg_sub, alg_mul, alg_quo, alg_rem, alg_wrap, alg_imin, alg_imax, alg_ilt, alg_ile, alg_ieq, alg_bnot, alg_beq, alg_ban, alg_seq, alg_len, alg_app, alg_cut, alg_get, alg_set, alg_rep, alg_inr, alg_inb, alg_cutb, alg_same, alg_few, alg_nne, alg_nng, alg_hid, alg_shl, alg_shr, alg_bits, decide_eq_true_eq, decide_eq_false_iff_not, beq_iff_eq, beq_eq_false_iff_ne, Bool.not_eq_true', Bool.not_eq_false', Bool.and_eq_true, Bool.and_true, Bool.true_and, and_true, true_and, ne_eq, Int.toNat_zero, Nat.sub_zero, List.drop_zero, i64_min, i64_max, u8_min, u8_max, ofNat_b2i, b2i_inj, Int.toNat_natCast, Int.ofNat_eq_natCast, UInt8.ofNat_toNat, AOut.ret.injEq, D.v.injEq, D.tup.injEq, V0.one.injEq, C.p.injEq, P.bool.injEq, P.int.injEq, P.str.injEq, Bool.false_eq_true, Bool.true_eq_false, imp_false, Decidable.not_not, not_true_eq_false, not_false_eq_true]
  have hb := byte_int (s.getD i 0)
  have hk := hexK_le hb
  have hdg := digits_hex hb
  rw [Int.toNat_natCast, UInt8.ofNat_toNat] at hdg
  have hd : i < s.length → _ := fun h => numG_drop (base := 16) (n := n) h
  have ht : i ≤ 9 := by omega
  have ht := top9_le ht
  have ht2 : top9 (i + 1) = 16 * top9 i + 15 := rfl
  generalize s.getD i 0 = x at *
  try rw [hdg]
  generalize hexK (x.toNat : Int) = k at *
  simp only [Int.mul_comm 16 n, decide_eq_true_eq, decide_eq_false_iff_not]
  (repeat' (first | refine And.intro ?_ ?_ | intro _)) <;> first | omega | exact True.intro | exact False.elim ‹False› | skip
  all_goals first
    | omega
    | decide
    | (rw [← h4, hd (by omega), if_pos (by omega)])
    | (refine hA (i + 1, _) ⟨by simp only; omega, by simp only; omega, by simp only; omega, ?_⟩ (by simp only; omega); rw [← h4, hd (by omega), if_neg (by omega)])
    | (rw [← h4, List.drop_of_length_le (by omega)]; rfl)
def hexNumberOf__c (I : Alg) (args : List D) (hp : List HO) : Option CT := match args, hp with
  | [.v (.one (.p (.str s)))], [] => (fun (s : Str) => (some (.one ⟨I.hid (True), (.ret (.tup [(.one (.p (.int .i64 (I.hid ((numA s 16 6).1))))), (.one (.p (.bool (I.hid ((numA s 16 6).2)))))])), []⟩) : Option CT)) s
  | _, _ => none
theorem hexNumberOf__g : GoodC Tryd.prog 97 (hexNumberOf__c alg) := by
  intro args hp r h
  unfold hexNumberOf__c at h
  split at h
  · cases h; exact fun hn => hexNumberOf_ _
  · cases h
def hexNumberOf__k : Know Tryd.prog := ⟨97, hexNumberOf__c, hexNumberOf__g⟩
def hexNumberOf__l : Know Tryd.prog := ⟨97, fun I => lendC I (hexNumberOf__c I), lendC_good hexNumberOf__g⟩
theorem cHexNumber_ (s : Str) : Spc Tryd.prog 140 [.v (.one (.p (.str s)))] [] (.ret (.tup [(.one (.p (.int .i64 ((numA s 16 6).1)))), (.one (.p (.bool ((numA s 16 6).2))))])) [] := by
  refine spcG tab_ok mixed Tryd.func140 (by kernel_rfl) { keep := some [0, 2, 3] } [number10__k, number10__l, number16__k, number16__l] (by kernel_rfl) ?_
  intro I X hI hX
  refine ev_rule (.need (I.hid (α := (Prop)) True) (.fin (.ret (.tup [(.one (.p (.int .i64 (I.hid (α := Int) (Prod.fst (numA s (16 : Int) (6 : Int))))))), (.one (.p (.bool (I.hid (α := Bool) (Prod.snd (numA s (16 : Int) (6 : Int)))))))])) [])) (by kernel_rfl) ?_
  simp only [inst_need, inst_br, inst_both, inst_fin, inst_qed, inst_stop, inst_code]
  subst hI
  simp only [alg_b2i, alg_i2b, alg_add, alg_sub, alg_mul, alg_quo, alg_rem, alg_wrap, alg_imin, alg_imax, alg_ilt, alg_ile, alg_ieq, alg_bnot, alg_beq, alg_ban, alg_seq, alg_len, alg_app, alg_cut, alg_get, alg_set, alg_rep, alg_inr, alg_inb, alg_cutb, alg_same, alg_few, alg_nne, alg_nng, alg_hid, alg_shl, alg_shr, alg_bits, decide_eq_true_eq, decide_eq_false_iff_not, beq_iff_eq, beq_eq_false_iff_ne, Bool.not_eq_true', Bool.not_eq_false', Bool.and_eq_true, Bool.and_true, Bool.true_and, and_true, true_and, ne_eq, Int.toNat_zero, Nat.sub_zero, List.drop_zero, i64_min, i64_max, u8_min, u8_max, ofNat_b2i, b2i_inj, Int.toNat_natCast, Int.ofNat_eq_natCast, UInt8.ofNat_toNat, AOut.ret.injEq, D.v.injEq, D.tup.injEq, V0.one.injEq, C.p.injEq, P.bool.injEq, P.int.injEq, P.str.injEq, Bool.false_eq_true, Bool.true_eq_false, imp_false, Decidable.not_not, not_true_eq_false, not_false_eq_true]
  try trivial
def cHexNumber__c (I : Alg) (args : List D) (hp : List HO) : Option CT := match args, hp with
  | [.v (.one (.p (.str s)))], [] => (fun (s : Str) => (some (.one ⟨I.hid (True), (.ret (.tup [(.one (.p (.int .i64 (I.hid ((numA s 16 6).1))))), (.one (.p (.bool (I.hid ((numA s 16 6).2)))))])), []⟩) : Option CT)) s
  | _, _ => none
theorem cHexNumber__g : GoodC Tryd.prog 140 (cHexNumber__c alg) := by
  intro args hp r h
  unfold cHexNumber__c at h
  split at h
  · cases h; exact fun hn => cHexNumber_ _
  · cases h
def cHexNumber__k : Know Tryd.prog := ⟨140, cHexNumber__c, cHexNumber__g⟩
def cHexNumber__l : Know Tryd.prog := ⟨140, fun I => lendC I (cHexNumber__c I), lendC_good cHexNumber__g⟩

end Go.Proofs.YtjapkdcomcgamaaDoor
