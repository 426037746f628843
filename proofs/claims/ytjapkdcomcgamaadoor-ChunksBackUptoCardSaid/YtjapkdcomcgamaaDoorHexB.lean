/- A number's text to the base 16: the document's own walk; a number's text is the number. -/
import Derived.Test.YtjapkdcomcgamaaDoorHexA
import Derived.Test.YtjapkdcomcgamaaDoorChrD
set_option linter.all false
namespace Go.Proofs.YtjapkdcomcgamaaDoor
open Go Go.Sep Go.Ab
set_option maxRecDepth 100000

theorem hex_digit : ∀ d : Fin 16, hexK ((if d.1 < 10 then UInt8.ofNat (48 + d.1) else UInt8.ofNat (87 + d.1) : UInt8).toNat : Int) = d.1 := by decide +kernel
theorem numG_append (base : Int) : ∀ (s t : Str) (n : Int), (numG base n s).2 = true → numG base n (s ++ t) = numG base (numG base n s).1 t
  | [], t, n, _ => rfl
  | c :: l, t, n, h => by
    rw [numG] at h
    rw [List.cons_append, numG, numG]
    by_cases hc : hexK c.toNat < 0 ∨ base ≤ hexK c.toNat
    · rw [if_pos hc] at h; cases h
    · rw [if_neg hc] at h
      rw [if_neg hc, if_neg hc]
      exact numG_append base l t _ h
theorem txt_back {base : Nat} (hb : base = 10 ∨ base = 16) : ∀ (f n : Nat), n < base ^ f → 0 < f → numG base 0 (txtN base f n) = ((n : Int), true) ∧ (txtN base f n).length ≤ f ∧ txtN base f n ≠ []
  | 0, n, _, h => by cases h
  | f + 1, n, hn, _ => by
    have h16 : 2 ≤ base ∧ base ≤ 16 := by omega
    have one : ∀ d : Nat, d < base → ∀ m : Int, numG base m [if d < 10 then UInt8.ofNat (48 + d) else UInt8.ofNat (87 + d)] = (m * base + d, true) := fun d hd m => by
      have := hex_digit ⟨d, by omega⟩
      simp only at this
      rw [numG, this, if_neg (by omega), numG]
    rw [txtN]
    by_cases h : n < base
    · rw [if_pos h, one n h]
      simp
    · rw [if_neg h]
      have hf : 0 < f := by
        rcases Nat.eq_zero_or_pos f with h0 | h0
        · subst h0; simp at hn; omega
        · exact h0
      have hd : n / base < base ^ f := Nat.div_lt_of_lt_mul (by rw [Nat.pow_succ, Nat.mul_comm] at hn; exact hn)
      obtain ⟨h1, h2, h3⟩ := txt_back hb f (n / base) hd hf
      refine ⟨?_, by rw [List.length_append]; simp; omega, by simp⟩
      rw [numG_append _ _ _ _ (by rw [h1]), h1, one _ (Nat.mod_lt _ (by omega))]
      have := Nat.div_add_mod n base
      congr 1
      show ((n / base : Nat) : Int) * base + ((n % base : Nat) : Int) = n
      rw [Int.mul_comm]
      omega

theorem dig16 {d : Nat} (h : d < 16) : (([48, 49, 50, 51, 52, 53, 54, 55, 56, 57, 97, 98, 99, 100, 101, 102] : Str).drop d).take 1 = [dgN d] := (by decide +kernel : ∀ d : Fin 16, (([48, 49, 50, 51, 52, 53, 54, 55, 56, 57, 97, 98, 99, 100, 101, 102] : Str).drop d.1).take 1 = [dgN d.1]) ⟨d, h⟩
theorem htx0_ (n : Int) (hneed : False) : Spc Tryd.prog 96 [.v (.one (.p (.int .i64 n)))] [] (.ret (.v (.one (.p (.str ([])))))) [] := hneed.elim
def htx0__c (I : Alg) (args : List D) (hp : List HO) : Option CT := match args, hp with
  | [.v (.one (.p (.int .i64 n)))], [] => (fun (n : Int) => (some (.one ⟨I.hid (False), (.ret (.v (.one (.p (.str (I.hid ([]))))))), []⟩) : Option CT)) n
  | _, _ => none
theorem htx0__g : GoodC Tryd.prog 96 (htx0__c alg) := by
  intro args hp r h
  unfold htx0__c at h
  split at h
  · cases h; exact fun hn => htx0_ _ hn
  · cases h
def htx0__k : Know Tryd.prog := ⟨96, htx0__c, htx0__g⟩
def htx0__l : Know Tryd.prog := ⟨96, fun I => lendC I (htx0__c I), lendC_good htx0__g⟩
theorem htx1_ (n : Int) (hneed : 0 ≤ n ∧ n < 16) : Spc Tryd.prog 96 [.v (.one (.p (.int .i64 n)))] [] (.ret (.v (.one (.p (.str (txtN 16 1 n.toNat)))))) [] := by
  generalize hr : txtN 16 1 n.toNat = r
  refine spcG tab_ok mixed Tryd.func96 (by kernel_rfl) { keep := some [0, 2] } [htx0__k, htx0__k, htx0__l] (by kernel_rfl) ?_
  intro I X hI hX
  refine ev_rule (let y0 := I.hid (α := (List UInt8)) ([] : List UInt8); .br (I.ilt n 16) (.need (I.inr Go.IntKind.i64 (I.add n 1)) (.need (I.cutb n (I.add n 1) (I.len (α := UInt8) (Array.toList (List.toArray ([48, 49, 50, 51, 52, 53, 54, 55, 56, 57, 97, 98, 99, 100, 101, 102] : List UInt8))))) (.fin (.ret (.v (.one (.p (.str (I.cut (α := UInt8) (Array.toList (List.toArray ([48, 49, 50, 51, 52, 53, 54, 55, 56, 57, 97, 98, 99, 100, 101, 102] : List UInt8))) n (I.add n 1))))))) []))) (.need (I.nne 16) (.need (I.inr Go.IntKind.i64 (I.quo n 16)) (.need (I.hid (α := (Prop)) False) (.need (I.nne 16) (.need (I.hid (α := (Prop)) False) (.need (I.few (I.add (I.len (α := UInt8) y0) (I.len (α := UInt8) y0)) 1000000000) (.fin (.ret (.v (.one (.p (.str (I.app (α := UInt8) y0 y0)))))) [])))))))) (by kernel_rfl) ?_
  simp only [inst_need, inst_br, inst_both, inst_fin, inst_qed, inst_stop, inst_code]
  subst hI
  simp only [alg_b2i, alg_i2b, alg_add, alg_sub, alg_mul, alg_quo, alg_rem, alg_wrap, alg_imin, alg_imax, alg_ilt, alg_ile, alg_ieq, alg_bnot, alg_beq, alg_ban, alg_seq, alg_len, alg_app, alg_cut, alg_get, alg_set, alg_rep, alg_inr, alg_inb, alg_cutb, alg_same, alg_few, alg_nne, alg_nng, alg_hid, alg_shl, alg_shr, alg_bits, decide_eq_true_eq, decide_eq_false_iff_not, beq_iff_eq, beq_eq_false_iff_ne, Bool.not_eq_true', Bool.not_eq_false', Bool.and_eq_true, Bool.and_true, Bool.true_and, and_true, true_and, ne_eq, Int.toNat_zero, Nat.sub_zero, List.drop_zero, i64_min, i64_max, u8_min, u8_max, ofNat_b2i, b2i_inj, Int.toNat_natCast, Int.ofNat_eq_natCast, UInt8.ofNat_toNat, AOut.ret.injEq, D.v.injEq, D.tup.injEq, V0.one.injEq, C.p.injEq, P.bool.injEq, P.int.injEq, P.str.injEq, Bool.false_eq_true, Bool.true_eq_false, imp_false, Decidable.not_not, not_true_eq_false, not_false_eq_true]
  obtain ⟨m, rfl⟩ : ∃ m : Nat, n = m := ⟨n.toNat, by omega⟩
  rw [Int.toNat_natCast] at hr
  have e1 : (m : Int).tdiv 16 = ((m / 16 : Nat) : Int) := by rw [Int.tdiv_eq_ediv_of_nonneg (by omega)]; omega
  have e2 : (m : Int).tmod 16 = ((m % 16 : Nat) : Int) := by rw [Int.tmod_eq_emod_of_nonneg (by omega)]; omega
  have e3 : m < 16 → (([48, 49, 50, 51, 52, 53, 54, 55, 56, 57, 97, 98, 99, 100, 101, 102] : Str).drop m).take (((m : Int) + 1).toNat - m) = r := fun h => by
    rw [show ((m : Int) + 1).toNat - m = 1 by omega, dig16 h, ← hr, txtN_one h]
  have e4 : (([48, 49, 50, 51, 52, 53, 54, 55, 56, 57, 97, 98, 99, 100, 101, 102] : Str).drop (m % 16)).take ((((m % 16 : Nat) : Int) + 1).toNat - m % 16) = [dgN (m % 16)] := by
    rw [show (((m % 16 : Nat) : Int) + 1).toNat - m % 16 = 1 by omega, dig16 (Nat.mod_lt _ (by decide))]
  have e5 : ¬ m < 16 → txtN 16 0 (m / 16) ++ [dgN (m % 16)] = r := fun h => by rw [← hr, txtN_more h]
  have hl := txtN_len 16 0 (m / 16)
  have hl2 := txtN_len 16 0 (m % 16)
  have e6 : 0 < 0 → txtN 16 0 (m % 16) = [dgN (m % 16)] := fun h => by first | exact absurd h (by decide) | exact txtN_one (f := 0) (Nat.mod_lt _ (by decide))
  generalize hH : ([48, 49, 50, 51, 52, 53, 54, 55, 56, 57, 97, 98, 99, 100, 101, 102] : Str) = H at *
  have hHl : H.length = 16 := by rw [← hH]; rfl
  simp only [e1, e2, Int.toNat_natCast, e4, List.length_cons, List.length_nil]
  (repeat' (first | refine And.intro ?_ ?_ | intro _)) <;> first | omega | exact True.intro | exact False.elim ‹False› | skip
  all_goals first
    | exact e3 (by omega)
    | exact e5 (by omega)
    | (rw [e6 (by decide)]; exact e5 (by omega))
    | (exfalso; omega)
def htx1__c (I : Alg) (args : List D) (hp : List HO) : Option CT := match args, hp with
  | [.v (.one (.p (.int .i64 n)))], [] => (fun (n : Int) => (some (.one ⟨I.hid (0 ≤ n ∧ n < 16), (.ret (.v (.one (.p (.str (I.hid (txtN 16 1 n.toNat))))))), []⟩) : Option CT)) n
  | _, _ => none
theorem htx1__g : GoodC Tryd.prog 96 (htx1__c alg) := by
  intro args hp r h
  unfold htx1__c at h
  split at h
  · cases h; exact fun hn => htx1_ _ hn
  · cases h
def htx1__k : Know Tryd.prog := ⟨96, htx1__c, htx1__g⟩
def htx1__l : Know Tryd.prog := ⟨96, fun I => lendC I (htx1__c I), lendC_good htx1__g⟩

theorem htx2_ (n : Int) (hneed : 0 ≤ n ∧ n < 256) : Spc Tryd.prog 96 [.v (.one (.p (.int .i64 n)))] [] (.ret (.v (.one (.p (.str (txtN 16 2 n.toNat)))))) [] := by
  generalize hr : txtN 16 2 n.toNat = r
  refine spcG tab_ok mixed Tryd.func96 (by kernel_rfl) { keep := some [0, 2] } [htx1__k, htx0__k, htx0__l, htx1__k, htx1__l] (by kernel_rfl) ?_
  intro I X hI hX
  refine ev_rule (let y0 := I.hid (α := (List UInt8)) (txtN 16 1 (Int.toNat (I.quo n 16))); let y1 := I.hid (α := (List UInt8)) (txtN 16 1 (Int.toNat (I.rem n 16))); .br (I.ilt n 16) (.need (I.inr Go.IntKind.i64 (I.add n 1)) (.need (I.cutb n (I.add n 1) (I.len (α := UInt8) (Array.toList (List.toArray ([48, 49, 50, 51, 52, 53, 54, 55, 56, 57, 97, 98, 99, 100, 101, 102] : List UInt8))))) (.fin (.ret (.v (.one (.p (.str (I.cut (α := UInt8) (Array.toList (List.toArray ([48, 49, 50, 51, 52, 53, 54, 55, 56, 57, 97, 98, 99, 100, 101, 102] : List UInt8))) n (I.add n 1))))))) []))) (.need (I.nne 16) (.need (I.inr Go.IntKind.i64 (I.quo n 16)) (.need (I.hid (α := (Prop)) (And (LE.le (0 : Int) (I.quo n 16)) (LT.lt (I.quo n 16) (16 : Int)))) (.need (I.nne 16) (.need (I.hid (α := (Prop)) (And (LE.le (0 : Int) (I.rem n 16)) (LT.lt (I.rem n 16) (16 : Int)))) (.need (I.few (I.add (I.len (α := UInt8) y0) (I.len (α := UInt8) y1)) 1000000000) (.fin (.ret (.v (.one (.p (.str (I.app (α := UInt8) y0 y1)))))) [])))))))) (by kernel_rfl) ?_
  simp only [inst_need, inst_br, inst_both, inst_fin, inst_qed, inst_stop, inst_code]
  subst hI
  simp only [alg_b2i, alg_i2b, alg_add, alg_sub, alg_mul, alg_quo, alg_rem, alg_wrap, alg_imin, alg_imax, alg_ilt, alg_ile, alg_ieq, alg_bnot, alg_beq, alg_ban, alg_seq, alg_len, alg_app, alg_cut, alg_get, alg_set, alg_rep, alg_inr, alg_inb, alg_cutb, alg_same, alg_few, alg_nne, alg_nng, alg_hid, alg_shl, alg_shr, alg_bits, decide_eq_true_eq, decide_eq_false_iff_not, beq_iff_eq, beq_eq_false_iff_ne, Bool.not_eq_true', Bool.not_eq_false', Bool.and_eq_true, Bool.and_true, Bool.true_and, and_true, true_and, ne_eq, Int.toNat_zero, Nat.sub_zero, List.drop_zero, i64_min, i64_max, u8_min, u8_max, ofNat_b2i, b2i_inj, Int.toNat_natCast, Int.ofNat_eq_natCast, UInt8.ofNat_toNat, AOut.ret.injEq, D.v.injEq, D.tup.injEq, V0.one.injEq, C.p.injEq, P.bool.injEq, P.int.injEq, P.str.injEq, Bool.false_eq_true, Bool.true_eq_false, imp_false, Decidable.not_not, not_true_eq_false, not_false_eq_true]
  obtain ⟨m, rfl⟩ : ∃ m : Nat, n = m := ⟨n.toNat, by omega⟩
  rw [Int.toNat_natCast] at hr
  have e1 : (m : Int).tdiv 16 = ((m / 16 : Nat) : Int) := by rw [Int.tdiv_eq_ediv_of_nonneg (by omega)]; omega
  have e2 : (m : Int).tmod 16 = ((m % 16 : Nat) : Int) := by rw [Int.tmod_eq_emod_of_nonneg (by omega)]; omega
  have e3 : m < 16 → (([48, 49, 50, 51, 52, 53, 54, 55, 56, 57, 97, 98, 99, 100, 101, 102] : Str).drop m).take (((m : Int) + 1).toNat - m) = r := fun h => by
    rw [show ((m : Int) + 1).toNat - m = 1 by omega, dig16 h, ← hr, txtN_one h]
  have e4 : (([48, 49, 50, 51, 52, 53, 54, 55, 56, 57, 97, 98, 99, 100, 101, 102] : Str).drop (m % 16)).take ((((m % 16 : Nat) : Int) + 1).toNat - m % 16) = [dgN (m % 16)] := by
    rw [show (((m % 16 : Nat) : Int) + 1).toNat - m % 16 = 1 by omega, dig16 (Nat.mod_lt _ (by decide))]
  have e5 : ¬ m < 16 → txtN 16 1 (m / 16) ++ [dgN (m % 16)] = r := fun h => by rw [← hr, txtN_more h]
  have hl := txtN_len 16 1 (m / 16)
  have hl2 := txtN_len 16 1 (m % 16)
  have e6 : 0 < 1 → txtN 16 1 (m % 16) = [dgN (m % 16)] := fun h => by first | exact absurd h (by decide) | exact txtN_one (f := 0) (Nat.mod_lt _ (by decide))
  generalize hH : ([48, 49, 50, 51, 52, 53, 54, 55, 56, 57, 97, 98, 99, 100, 101, 102] : Str) = H at *
  have hHl : H.length = 16 := by rw [← hH]; rfl
  simp only [e1, e2, Int.toNat_natCast, e4, List.length_cons, List.length_nil]
  (repeat' (first | refine And.intro ?_ ?_ | intro _)) <;> first | omega | exact True.intro | exact False.elim ‹False› | skip
  all_goals first
    | exact e3 (by omega)
    | exact e5 (by omega)
    | (rw [e6 (by decide)]; exact e5 (by omega))
    | (exfalso; omega)
def htx2__c (I : Alg) (args : List D) (hp : List HO) : Option CT := match args, hp with
  | [.v (.one (.p (.int .i64 n)))], [] => (fun (n : Int) => (some (.one ⟨I.hid (0 ≤ n ∧ n < 256), (.ret (.v (.one (.p (.str (I.hid (txtN 16 2 n.toNat))))))), []⟩) : Option CT)) n
  | _, _ => none
theorem htx2__g : GoodC Tryd.prog 96 (htx2__c alg) := by
  intro args hp r h
  unfold htx2__c at h
  split at h
  · cases h; exact fun hn => htx2_ _ hn
  · cases h
def htx2__k : Know Tryd.prog := ⟨96, htx2__c, htx2__g⟩
def htx2__l : Know Tryd.prog := ⟨96, fun I => lendC I (htx2__c I), lendC_good htx2__g⟩

theorem htx3_ (n : Int) (hneed : 0 ≤ n ∧ n < 4096) : Spc Tryd.prog 96 [.v (.one (.p (.int .i64 n)))] [] (.ret (.v (.one (.p (.str (txtN 16 3 n.toNat)))))) [] := by
  generalize hr : txtN 16 3 n.toNat = r
  refine spcG tab_ok mixed Tryd.func96 (by kernel_rfl) { keep := some [0, 2] } [htx2__k, htx0__k, htx0__l, htx1__k, htx1__l, htx2__k, htx2__l] (by kernel_rfl) ?_
  intro I X hI hX
  refine ev_rule (let y0 := I.hid (α := (List UInt8)) (txtN 16 2 (Int.toNat (I.quo n 16))); let y1 := I.hid (α := (List UInt8)) (txtN 16 2 (Int.toNat (I.rem n 16))); .br (I.ilt n 16) (.need (I.inr Go.IntKind.i64 (I.add n 1)) (.need (I.cutb n (I.add n 1) (I.len (α := UInt8) (Array.toList (List.toArray ([48, 49, 50, 51, 52, 53, 54, 55, 56, 57, 97, 98, 99, 100, 101, 102] : List UInt8))))) (.fin (.ret (.v (.one (.p (.str (I.cut (α := UInt8) (Array.toList (List.toArray ([48, 49, 50, 51, 52, 53, 54, 55, 56, 57, 97, 98, 99, 100, 101, 102] : List UInt8))) n (I.add n 1))))))) []))) (.need (I.nne 16) (.need (I.inr Go.IntKind.i64 (I.quo n 16)) (.need (I.hid (α := (Prop)) (And (LE.le (0 : Int) (I.quo n 16)) (LT.lt (I.quo n 16) (256 : Int)))) (.need (I.nne 16) (.need (I.hid (α := (Prop)) (And (LE.le (0 : Int) (I.rem n 16)) (LT.lt (I.rem n 16) (256 : Int)))) (.need (I.few (I.add (I.len (α := UInt8) y0) (I.len (α := UInt8) y1)) 1000000000) (.fin (.ret (.v (.one (.p (.str (I.app (α := UInt8) y0 y1)))))) [])))))))) (by kernel_rfl) ?_
  simp only [inst_need, inst_br, inst_both, inst_fin, inst_qed, inst_stop, inst_code]
  subst hI
  simp only [alg_b2i, alg_i2b, alg_add, alg_sub, alg_mul, alg_quo, alg_rem, alg_wrap, alg_imin, alg_imax, alg_ilt, alg_ile, alg_ieq, alg_bnot, alg_beq, alg_ban, alg_seq, alg_len, alg_app, alg_cut, alg_get, alg_set, alg_rep, alg_inr, alg_inb, alg_cutb, alg_same, alg_few, alg_nne, alg_nng, alg_hid, alg_shl, alg_shr, alg_bits, decide_eq_true_eq, decide_eq_false_iff_not, beq_iff_eq, beq_eq_false_iff_ne, Bool.not_eq_true', Bool.not_eq_false', Bool.and_eq_true, Bool.and_true, Bool.true_and, and_true, true_and, ne_eq, Int.toNat_zero, Nat.sub_zero, List.drop_zero, i64_min, i64_max, u8_min, u8_max, ofNat_b2i, b2i_inj, Int.toNat_natCast, Int.ofNat_eq_natCast, UInt8.ofNat_toNat, AOut.ret.injEq, D.v.injEq, D.tup.injEq, V0.one.injEq, C.p.injEq, P.bool.injEq, P.int.injEq, P.str.injEq, Bool.false_eq_true, Bool.true_eq_false, imp_false, Decidable.not_not, not_true_eq_false, not_false_eq_true]
  obtain ⟨m, rfl⟩ : ∃ m : Nat, n = m := ⟨n.toNat, by omega⟩
  rw [Int.toNat_natCast] at hr
  have e1 : (m : Int).tdiv 16 = ((m / 16 : Nat) : Int) := by rw [Int.tdiv_eq_ediv_of_nonneg (by omega)]; omega
  have e2 : (m : Int).tmod 16 = ((m % 16 : Nat) : Int) := by rw [Int.tmod_eq_emod_of_nonneg (by omega)]; omega
  have e3 : m < 16 → (([48, 49, 50, 51, 52, 53, 54, 55, 56, 57, 97, 98, 99, 100, 101, 102] : Str).drop m).take (((m : Int) + 1).toNat - m) = r := fun h => by
    rw [show ((m : Int) + 1).toNat - m = 1 by omega, dig16 h, ← hr, txtN_one h]
  have e4 : (([48, 49, 50, 51, 52, 53, 54, 55, 56, 57, 97, 98, 99, 100, 101, 102] : Str).drop (m % 16)).take ((((m % 16 : Nat) : Int) + 1).toNat - m % 16) = [dgN (m % 16)] := by
    rw [show (((m % 16 : Nat) : Int) + 1).toNat - m % 16 = 1 by omega, dig16 (Nat.mod_lt _ (by decide))]
  have e5 : ¬ m < 16 → txtN 16 2 (m / 16) ++ [dgN (m % 16)] = r := fun h => by rw [← hr, txtN_more h]
  have hl := txtN_len 16 2 (m / 16)
  have hl2 := txtN_len 16 2 (m % 16)
  have e6 : 0 < 2 → txtN 16 2 (m % 16) = [dgN (m % 16)] := fun h => by first | exact absurd h (by decide) | exact txtN_one (f := 1) (Nat.mod_lt _ (by decide))
  generalize hH : ([48, 49, 50, 51, 52, 53, 54, 55, 56, 57, 97, 98, 99, 100, 101, 102] : Str) = H at *
  have hHl : H.length = 16 := by rw [← hH]; rfl
  simp only [e1, e2, Int.toNat_natCast, e4, List.length_cons, List.length_nil]
  (repeat' (first | refine And.intro ?_ ?_ | intro _)) <;> first | omega | exact True.intro | exact False.elim ‹False› | skip
  all_goals first
    | exact e3 (by omega)
    | exact e5 (by omega)
    | (rw [e6 (by decide)]; exact e5 (by omega))
    | (exfalso; omega)
def htx3__c (I : Alg) (args : List D) (hp : List HO) : Option CT := match args, hp with
  | [.v (.one (.p (.int .i64 n)))], [] => (fun (n : Int) => (some (.one ⟨I.hid (0 ≤ n ∧ n < 4096), (.ret (.v (.one (.p (.str (I.hid (txtN 16 3 n.toNat))))))), []⟩) : Option CT)) n
  | _, _ => none
theorem htx3__g : GoodC Tryd.prog 96 (htx3__c alg) := by
  intro args hp r h
  unfold htx3__c at h
  split at h
  · cases h; exact fun hn => htx3_ _ hn
  · cases h
def htx3__k : Know Tryd.prog := ⟨96, htx3__c, htx3__g⟩
def htx3__l : Know Tryd.prog := ⟨96, fun I => lendC I (htx3__c I), lendC_good htx3__g⟩

theorem htx4_ (n : Int) (hneed : 0 ≤ n ∧ n < 65536) : Spc Tryd.prog 96 [.v (.one (.p (.int .i64 n)))] [] (.ret (.v (.one (.p (.str (txtN 16 4 n.toNat)))))) [] := by
  generalize hr : txtN 16 4 n.toNat = r
  refine spcG tab_ok mixed Tryd.func96 (by kernel_rfl) { keep := some [0, 2] } [htx3__k, htx0__k, htx0__l, htx1__k, htx1__l, htx2__k, htx2__l, htx3__k, htx3__l] (by kernel_rfl) ?_
  intro I X hI hX
  refine ev_rule (let y0 := I.hid (α := (List UInt8)) (txtN 16 3 (Int.toNat (I.quo n 16))); let y1 := I.hid (α := (List UInt8)) (txtN 16 3 (Int.toNat (I.rem n 16))); .br (I.ilt n 16) (.need (I.inr Go.IntKind.i64 (I.add n 1)) (.need (I.cutb n (I.add n 1) (I.len (α := UInt8) (Array.toList (List.toArray ([48, 49, 50, 51, 52, 53, 54, 55, 56, 57, 97, 98, 99, 100, 101, 102] : List UInt8))))) (.fin (.ret (.v (.one (.p (.str (I.cut (α := UInt8) (Array.toList (List.toArray ([48, 49, 50, 51, 52, 53, 54, 55, 56, 57, 97, 98, 99, 100, 101, 102] : List UInt8))) n (I.add n 1))))))) []))) (.need (I.nne 16) (.need (I.inr Go.IntKind.i64 (I.quo n 16)) (.need (I.hid (α := (Prop)) (And (LE.le (0 : Int) (I.quo n 16)) (LT.lt (I.quo n 16) (4096 : Int)))) (.need (I.nne 16) (.need (I.hid (α := (Prop)) (And (LE.le (0 : Int) (I.rem n 16)) (LT.lt (I.rem n 16) (4096 : Int)))) (.need (I.few (I.add (I.len (α := UInt8) y0) (I.len (α := UInt8) y1)) 1000000000) (.fin (.ret (.v (.one (.p (.str (I.app (α := UInt8) y0 y1)))))) [])))))))) (by kernel_rfl) ?_
  simp only [inst_need, inst_br, inst_both, inst_fin, inst_qed, inst_stop, inst_code]
  subst hI
  simp only [alg_b2i, alg_i2b, alg_add, alg_sub, alg_mul, alg_quo, alg_rem, alg_wrap, alg_imin, alg_imax, alg_ilt, alg_ile, alg_ieq, alg_bnot, alg_beq, alg_ban, alg_seq, alg_len, alg_app, alg_cut, alg_get, alg_set, alg_rep, alg_inr, alg_inb, alg_cutb, alg_same, alg_few, alg_nne, alg_nng, alg_hid, alg_shl, alg_shr, alg_bits, decide_eq_true_eq, decide_eq_false_iff_not, beq_iff_eq, beq_eq_false_iff_ne, Bool.not_eq_true', Bool.not_eq_false', Bool.and_eq_true, Bool.and_true, Bool.true_and, and_true, true_and, ne_eq, Int.toNat_zero, Nat.sub_zero, List.drop_zero, i64_min, i64_max, u8_min, u8_max, ofNat_b2i, b2i_inj, Int.toNat_natCast, Int.ofNat_eq_natCast, UInt8.ofNat_toNat, AOut.ret.injEq, D.v.injEq, D.tup.injEq, V0.one.injEq, C.p.injEq, P.bool.injEq, P.int.injEq, P.str.injEq, Bool.false_eq_true, Bool.true_eq_false, imp_false, Decidable.not_not, not_true_eq_false, not_false_eq_true]
  obtain ⟨m, rfl⟩ : ∃ m : Nat, n = m := ⟨n.toNat, by omega⟩
  rw [Int.toNat_natCast] at hr
  have e1 : (m : Int).tdiv 16 = ((m / 16 : Nat) : Int) := by rw [Int.tdiv_eq_ediv_of_nonneg (by omega)]; omega
  have e2 : (m : Int).tmod 16 = ((m % 16 : Nat) : Int) := by rw [Int.tmod_eq_emod_of_nonneg (by omega)]; omega
  have e3 : m < 16 → (([48, 49, 50, 51, 52, 53, 54, 55, 56, 57, 97, 98, 99, 100, 101, 102] : Str).drop m).take (((m : Int) + 1).toNat - m) = r := fun h => by
    rw [show ((m : Int) + 1).toNat - m = 1 by omega, dig16 h, ← hr, txtN_one h]
  have e4 : (([48, 49, 50, 51, 52, 53, 54, 55, 56, 57, 97, 98, 99, 100, 101, 102] : Str).drop (m % 16)).take ((((m % 16 : Nat) : Int) + 1).toNat - m % 16) = [dgN (m % 16)] := by
    rw [show (((m % 16 : Nat) : Int) + 1).toNat - m % 16 = 1 by omega, dig16 (Nat.mod_lt _ (by decide))]
  have e5 : ¬ m < 16 → txtN 16 3 (m / 16) ++ [dgN (m % 16)] = r := fun h => by rw [← hr, txtN_more h]
  have hl := txtN_len 16 3 (m / 16)
  have hl2 := txtN_len 16 3 (m % 16)
  have e6 : 0 < 3 → txtN 16 3 (m % 16) = [dgN (m % 16)] := fun h => by first | exact absurd h (by decide) | exact txtN_one (f := 2) (Nat.mod_lt _ (by decide))
  generalize hH : ([48, 49, 50, 51, 52, 53, 54, 55, 56, 57, 97, 98, 99, 100, 101, 102] : Str) = H at *
  have hHl : H.length = 16 := by rw [← hH]; rfl
  simp only [e1, e2, Int.toNat_natCast, e4, List.length_cons, List.length_nil]
  (repeat' (first | refine And.intro ?_ ?_ | intro _)) <;> first | omega | exact True.intro | exact False.elim ‹False› | skip
  all_goals first
    | exact e3 (by omega)
    | exact e5 (by omega)
    | (rw [e6 (by decide)]; exact e5 (by omega))
    | (exfalso; omega)
def htx4__c (I : Alg) (args : List D) (hp : List HO) : Option CT := match args, hp with
  | [.v (.one (.p (.int .i64 n)))], [] => (fun (n : Int) => (some (.one ⟨I.hid (0 ≤ n ∧ n < 65536), (.ret (.v (.one (.p (.str (I.hid (txtN 16 4 n.toNat))))))), []⟩) : Option CT)) n
  | _, _ => none
theorem htx4__g : GoodC Tryd.prog 96 (htx4__c alg) := by
  intro args hp r h
  unfold htx4__c at h
  split at h
  · cases h; exact fun hn => htx4_ _ hn
  · cases h
def htx4__k : Know Tryd.prog := ⟨96, htx4__c, htx4__g⟩
def htx4__l : Know Tryd.prog := ⟨96, fun I => lendC I (htx4__c I), lendC_good htx4__g⟩

theorem htxt_ (n : Int) (hneed : 0 ≤ n ∧ n < 65536) : Spc Tryd.prog 96 [.v (.one (.p (.int .i64 n)))] [] (.ret (.v (.one (.p (.str (hexS n)))))) [] := htx4_ n hneed
def htxt__c (I : Alg) (args : List D) (hp : List HO) : Option CT := match args, hp with
  | [.v (.one (.p (.int .i64 n)))], [] => (fun (n : Int) => (some (.one ⟨I.hid (0 ≤ n ∧ n < 65536), (.ret (.v (.one (.p (.str (I.hid (hexS n))))))), []⟩) : Option CT)) n
  | _, _ => none
theorem htxt__g : GoodC Tryd.prog 96 (htxt__c alg) := by
  intro args hp r h
  unfold htxt__c at h
  split at h
  · cases h; exact fun hn => htxt_ _ hn
  · cases h
def htxt__k : Know Tryd.prog := ⟨96, htxt__c, htxt__g⟩
def htxt__l : Know Tryd.prog := ⟨96, fun I => lendC I (htxt__c I), lendC_good htxt__g⟩
end Go.Proofs.YtjapkdcomcgamaaDoor
