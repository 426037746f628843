/- Bytes and texts: a number's text. -/
import Derived.Test.YtmmfcghieefoaaaDoorChrE
set_option linter.all false
namespace Go.Proofs.YtmmfcghieefoaaaDoor
open Go Go.Sep Go.Ab
set_option maxRecDepth 100000

/-- A number's text to a base. -/
def txtN (base : Nat) : Nat → Nat → Str
  | 0, _ => []
  | f + 1, n => if n < base then [if n < 10 then UInt8.ofNat (48 + n) else UInt8.ofNat (87 + n)] else txtN base f (n / base) ++ [if n % base < 10 then UInt8.ofNat (48 + n % base) else UInt8.ofNat (87 + n % base)]
theorem hex_digit : ∀ d : Fin 16, hexK ((if d.1 < 10 then UInt8.ofNat (48 + d.1) else UInt8.ofNat (87 + d.1) : UInt8).toNat : Int) = d.1 := by decide +kernel
theorem numG_append (base : Int) : ∀ (s t : Str) (n : Int), (numG base n s).2 = true → numG base n (s ++ t) = numG base (numG base n s).1 t
  | [], t, n, _ => rfl
  | c :: l, t, n, h => by
    rw [numG] at h
    rw [List.cons_append, numG, numG]
    by_cases hc : hexK c.toNat < 0 ∨ base ≤ hexK c.toNat
    · rw [if_pos hc] at h; cases h
    · rw [if_neg hc] at h
      rw [if_neg hc, if_neg hc]
      exact numG_append base l t _ h
theorem txt_back {base : Nat} (hb : base = 10 ∨ base = 16) : ∀ (f n : Nat), n < base ^ f → 0 < f → numG base 0 (txtN base f n) = ((n : Int), true) ∧ (txtN base f n).length ≤ f ∧ txtN base f n ≠ []
  | 0, n, _, h => by cases h
  | f + 1, n, hn, _ => by
    have h16 : 2 ≤ base ∧ base ≤ 16 := by omega
    have one : ∀ d : Nat, d < base → ∀ m : Int, numG base m [if d < 10 then UInt8.ofNat (48 + d) else UInt8.ofNat (87 + d)] = (m * base + d, true) := fun d hd m => by
      have := hex_digit ⟨d, by omega⟩
      simp only at this
      rw [numG, this, if_neg (by omega), numG]
    rw [txtN]
    by_cases h : n < base
    · rw [if_pos h, one n h]
      simp
    · rw [if_neg h]
      have hf : 0 < f := by
        rcases Nat.eq_zero_or_pos f with h0 | h0
        · subst h0; simp at hn; omega
        · exact h0
      have hd : n / base < base ^ f := Nat.div_lt_of_lt_mul (by rw [Nat.pow_succ, Nat.mul_comm] at hn; exact hn)
      obtain ⟨h1, h2, h3⟩ := txt_back hb f (n / base) hd hf
      refine ⟨?_, by rw [List.length_append]; simp; omega, by simp⟩
      rw [numG_append _ _ _ _ (by rw [h1]), h1, one _ (Nat.mod_lt _ (by omega))]
      have := Nat.div_add_mod n base
      congr 1
      show ((n / base : Nat) : Int) * base + ((n % base : Nat) : Int) = n
      rw [Int.mul_comm]
      omega

-- the chain
def dgN (d : Nat) : UInt8 := if d < 10 then UInt8.ofNat (48 + d) else UInt8.ofNat (87 + d)
theorem dig10 {d : Nat} (h : d < 10) : (([48, 49, 50, 51, 52, 53, 54, 55, 56, 57] : Str).drop d).take 1 = [dgN d] := (by decide +kernel : ∀ d : Fin 10, (([48, 49, 50, 51, 52, 53, 54, 55, 56, 57] : Str).drop d.1).take 1 = [dgN d.1]) ⟨d, h⟩
theorem dig16 {d : Nat} (h : d < 16) : (([48, 49, 50, 51, 52, 53, 54, 55, 56, 57, 97, 98, 99, 100, 101, 102] : Str).drop d).take 1 = [dgN d] := (by decide +kernel : ∀ d : Fin 16, (([48, 49, 50, 51, 52, 53, 54, 55, 56, 57, 97, 98, 99, 100, 101, 102] : Str).drop d.1).take 1 = [dgN d.1]) ⟨d, h⟩
theorem txtN_one {base f n : Nat} (h : n < base) : txtN base (f + 1) n = [dgN n] := by rw [txtN, if_pos h]; rfl
theorem txtN_more {base f n : Nat} (h : ¬ n < base) : txtN base (f + 1) n = txtN base f (n / base) ++ [dgN (n % base)] := by rw [txtN, if_neg h]; rfl
theorem txtN_len (base : Nat) : ∀ f n, (txtN base f n).length ≤ f
  | 0, _ => Nat.le_refl _
  | f + 1, n => by
    rw [txtN]
    split
    · simp
    · have := txtN_len base f (n / base)
      rw [List.length_append]; simp; omega

theorem num0_ (n : Int) (hneed : False) : Spc Tryd.prog 12 [.v (.one (.p (.int .i64 n)))] [] (.ret (.v (.one (.p (.str ([])))))) [] := hneed.elim
def num0__c (I : Alg) (args : List D) (hp : List HO) : Option CR := match args, hp with
  | [.v (.one (.p (.int .i64 n)))], [] => (fun (n : Int) => (some ⟨I.hid (False), (.ret (.v (.one (.p (.str (I.hid ([]))))))), []⟩ : Option CR)) n
  | _, _ => none
theorem num0__g : GoodC Tryd.prog 12 (num0__c alg) := by
  intro args hp r h hn
  unfold num0__c at h
  split at h
  · cases h; exact num0_ _ hn
  · cases h
def num0__k : Know Tryd.prog := ⟨12, num0__c, num0__g⟩
def num0__l : Know Tryd.prog := ⟨12, fun I => lendC I (num0__c I), lendC_good num0__g⟩
theorem htx0_ (n : Int) (hneed : False) : Spc Tryd.prog 14 [.v (.one (.p (.int .i64 n)))] [] (.ret (.v (.one (.p (.str ([])))))) [] := hneed.elim
def htx0__c (I : Alg) (args : List D) (hp : List HO) : Option CR := match args, hp with
  | [.v (.one (.p (.int .i64 n)))], [] => (fun (n : Int) => (some ⟨I.hid (False), (.ret (.v (.one (.p (.str (I.hid ([]))))))), []⟩ : Option CR)) n
  | _, _ => none
theorem htx0__g : GoodC Tryd.prog 14 (htx0__c alg) := by
  intro args hp r h hn
  unfold htx0__c at h
  split at h
  · cases h; exact htx0_ _ hn
  · cases h
def htx0__k : Know Tryd.prog := ⟨14, htx0__c, htx0__g⟩
def htx0__l : Know Tryd.prog := ⟨14, fun I => lendC I (htx0__c I), lendC_good htx0__g⟩

theorem num1_ (n : Int) (hneed : 0 ≤ n ∧ n < 10) : Spc Tryd.prog 12 [.v (.one (.p (.int .i64 n)))] [] (.ret (.v (.one (.p (.str (txtN 10 1 n.toNat)))))) [] := by
  generalize hr : txtN 10 1 n.toNat = r
  refine spcG tab_ok mixed Tryd.func12 (by kernel_rfl) { keep := some [0, 2] } [num0__k, num0__k, num0__l] (by kernel_rfl) ?_
  intro I X hI hX
  refine ev_rule (.br (I.ilt n 0) (.need (I.inr Go.IntKind.i64 (I.sub 0 n)) (.need (I.hid (α := (Prop)) False) (.need (I.few (I.add (I.len (α := UInt8) (Array.toList (List.toArray ([45] : List UInt8)))) (I.len (α := UInt8) (I.hid (α := (List UInt8)) ([] : List UInt8)))) 1000000000) (.fin (.ret (.v (.one (.p (.str (I.app (α := UInt8) (Array.toList (List.toArray ([45] : List UInt8))) (I.hid (α := (List UInt8)) ([] : List UInt8)))))))) [])))) (.br (I.ilt n 10) (.need (I.inr Go.IntKind.i64 (I.add n 1)) (.need (I.cutb n (I.add n 1) (I.len (α := UInt8) (Array.toList (List.toArray ([48, 49, 50, 51, 52, 53, 54, 55, 56, 57] : List UInt8))))) (.fin (.ret (.v (.one (.p (.str (I.cut (α := UInt8) (Array.toList (List.toArray ([48, 49, 50, 51, 52, 53, 54, 55, 56, 57] : List UInt8))) n (I.add n 1))))))) []))) (.need (I.nne 10) (.need (I.inr Go.IntKind.i64 (I.quo n 10)) (.need (I.nne 10) (.need (I.nne 10) (.need (I.inr Go.IntKind.i64 (I.add (I.rem n 10) 1)) (.need (I.cutb (I.rem n 10) (I.add (I.rem n 10) 1) (I.len (α := UInt8) (Array.toList (List.toArray ([48, 49, 50, 51, 52, 53, 54, 55, 56, 57] : List UInt8))))) (.need (I.hid (α := (Prop)) False) (.need (I.few (I.add (I.len (α := UInt8) (I.hid (α := (List UInt8)) ([] : List UInt8))) (I.len (α := UInt8) (I.cut (α := UInt8) (Array.toList (List.toArray ([48, 49, 50, 51, 52, 53, 54, 55, 56, 57] : List UInt8))) (I.rem n 10) (I.add (I.rem n 10) 1)))) 1000000000) (.fin (.ret (.v (.one (.p (.str (I.app (α := UInt8) (I.hid (α := (List UInt8)) ([] : List UInt8)) (I.cut (α := UInt8) (Array.toList (List.toArray ([48, 49, 50, 51, 52, 53, 54, 55, 56, 57] : List UInt8))) (I.rem n 10) (I.add (I.rem n 10) 1)))))))) []))))))))))) (by kernel_rfl) ?_
  simp only [inst_need, inst_br, inst_both, inst_fin, inst_qed, inst_stop, inst_code]
  subst hI
  simp only [alg_b2i, alg_i2b, alg_add, alg_sub, alg_mul, alg_quo, alg_rem, alg_wrap, alg_imin, alg_imax, alg_ilt, alg_ile, alg_ieq, alg_bnot, alg_beq, alg_ban, alg_seq, alg_len, alg_app, alg_cut, alg_get, alg_set, alg_rep, alg_inr, alg_inb, alg_cutb, alg_same, alg_few, alg_nne, alg_nng, alg_hid, alg_shl, alg_shr, alg_bits, decide_eq_true_eq, decide_eq_false_iff_not, beq_iff_eq, beq_eq_false_iff_ne, Bool.not_eq_true', Bool.not_eq_false', and_true, true_and, ne_eq, Int.toNat_zero, Nat.sub_zero, List.drop_zero, i64_min, i64_max, u8_min, u8_max, ofNat_b2i, b2i_inj, Int.toNat_natCast, Int.ofNat_eq_natCast, UInt8.ofNat_toNat, AOut.ret.injEq, D.v.injEq, D.tup.injEq, V0.one.injEq, C.p.injEq, P.bool.injEq, P.int.injEq, P.str.injEq, Bool.false_eq_true, Bool.true_eq_false, imp_false, Decidable.not_not, not_true_eq_false, not_false_eq_true]
  obtain ⟨m, rfl⟩ : ∃ m : Nat, n = m := ⟨n.toNat, by omega⟩
  rw [Int.toNat_natCast] at hr
  have e1 : (m : Int).tdiv 10 = ((m / 10 : Nat) : Int) := by rw [Int.tdiv_eq_ediv_of_nonneg (by omega)]; omega
  have e2 : (m : Int).tmod 10 = ((m % 10 : Nat) : Int) := by rw [Int.tmod_eq_emod_of_nonneg (by omega)]; omega
  have e3 : m < 10 → (([48, 49, 50, 51, 52, 53, 54, 55, 56, 57] : Str).drop m).take (((m : Int) + 1).toNat - m) = r := fun h => by
    rw [show ((m : Int) + 1).toNat - m = 1 by omega, dig10 h, ← hr, txtN_one h]
  have e4 : (([48, 49, 50, 51, 52, 53, 54, 55, 56, 57] : Str).drop (m % 10)).take ((((m % 10 : Nat) : Int) + 1).toNat - m % 10) = [dgN (m % 10)] := by
    rw [show (((m % 10 : Nat) : Int) + 1).toNat - m % 10 = 1 by omega, dig10 (Nat.mod_lt _ (by decide))]
  have e5 : ¬ m < 10 → txtN 10 0 (m / 10) ++ [dgN (m % 10)] = r := fun h => by rw [← hr, txtN_more h]
  have hl := txtN_len 10 0 (m / 10)
  have hl2 := txtN_len 10 0 (m % 10)
  have e6 : 0 < 0 → txtN 10 0 (m % 10) = [dgN (m % 10)] := fun h => by first | exact absurd h (by decide) | exact txtN_one (f := 0) (Nat.mod_lt _ (by decide))
  generalize hH : ([48, 49, 50, 51, 52, 53, 54, 55, 56, 57] : Str) = H at *
  have hHl : H.length = 10 := by rw [← hH]; rfl
  simp only [e1, e2, Int.toNat_natCast, e4, List.length_cons, List.length_nil]
  (repeat' (first | refine And.intro ?_ ?_ | intro _)) <;> try omega
  all_goals first
    | exact e3 (by omega)
    | exact e5 (by omega)
    | (rw [e6 (by decide)]; exact e5 (by omega))
    | (exfalso; omega)
def num1__c (I : Alg) (args : List D) (hp : List HO) : Option CR := match args, hp with
  | [.v (.one (.p (.int .i64 n)))], [] => (fun (n : Int) => (some ⟨I.hid (0 ≤ n ∧ n < 10), (.ret (.v (.one (.p (.str (I.hid (txtN 10 1 n.toNat))))))), []⟩ : Option CR)) n
  | _, _ => none
theorem num1__g : GoodC Tryd.prog 12 (num1__c alg) := by
  intro args hp r h hn
  unfold num1__c at h
  split at h
  · cases h; exact num1_ _ hn
  · cases h
def num1__k : Know Tryd.prog := ⟨12, num1__c, num1__g⟩
def num1__l : Know Tryd.prog := ⟨12, fun I => lendC I (num1__c I), lendC_good num1__g⟩

theorem num2_ (n : Int) (hneed : 0 ≤ n ∧ n < 100) : Spc Tryd.prog 12 [.v (.one (.p (.int .i64 n)))] [] (.ret (.v (.one (.p (.str (txtN 10 2 n.toNat)))))) [] := by
  generalize hr : txtN 10 2 n.toNat = r
  refine spcG tab_ok mixed Tryd.func12 (by kernel_rfl) { keep := some [0, 2] } [num1__k, num0__k, num0__l, num1__k, num1__l] (by kernel_rfl) ?_
  intro I X hI hX
  refine ev_rule (.br (I.ilt n 0) (.need (I.inr Go.IntKind.i64 (I.sub 0 n)) (.need (I.hid (α := (Prop)) (And (LE.le (0 : Int) (I.sub 0 n)) (LT.lt (I.sub 0 n) (10 : Int)))) (.need (I.few (I.add (I.len (α := UInt8) (Array.toList (List.toArray ([45] : List UInt8)))) (I.len (α := UInt8) (I.hid (α := (List UInt8)) (Go.Proofs.YtmmfcghieefoaaaDoor.txtN 10 1 (Int.toNat (I.sub 0 n)))))) 1000000000) (.fin (.ret (.v (.one (.p (.str (I.app (α := UInt8) (Array.toList (List.toArray ([45] : List UInt8))) (I.hid (α := (List UInt8)) (Go.Proofs.YtmmfcghieefoaaaDoor.txtN 10 1 (Int.toNat (I.sub 0 n)))))))))) [])))) (.br (I.ilt n 10) (.need (I.inr Go.IntKind.i64 (I.add n 1)) (.need (I.cutb n (I.add n 1) (I.len (α := UInt8) (Array.toList (List.toArray ([48, 49, 50, 51, 52, 53, 54, 55, 56, 57] : List UInt8))))) (.fin (.ret (.v (.one (.p (.str (I.cut (α := UInt8) (Array.toList (List.toArray ([48, 49, 50, 51, 52, 53, 54, 55, 56, 57] : List UInt8))) n (I.add n 1))))))) []))) (.need (I.nne 10) (.need (I.inr Go.IntKind.i64 (I.quo n 10)) (.need (I.nne 10) (.need (I.nne 10) (.need (I.inr Go.IntKind.i64 (I.add (I.rem n 10) 1)) (.need (I.cutb (I.rem n 10) (I.add (I.rem n 10) 1) (I.len (α := UInt8) (Array.toList (List.toArray ([48, 49, 50, 51, 52, 53, 54, 55, 56, 57] : List UInt8))))) (.need (I.hid (α := (Prop)) (And (LE.le (0 : Int) (I.quo n 10)) (LT.lt (I.quo n 10) (10 : Int)))) (.need (I.few (I.add (I.len (α := UInt8) (I.hid (α := (List UInt8)) (Go.Proofs.YtmmfcghieefoaaaDoor.txtN 10 1 (Int.toNat (I.quo n 10))))) (I.len (α := UInt8) (I.cut (α := UInt8) (Array.toList (List.toArray ([48, 49, 50, 51, 52, 53, 54, 55, 56, 57] : List UInt8))) (I.rem n 10) (I.add (I.rem n 10) 1)))) 1000000000) (.fin (.ret (.v (.one (.p (.str (I.app (α := UInt8) (I.hid (α := (List UInt8)) (Go.Proofs.YtmmfcghieefoaaaDoor.txtN 10 1 (Int.toNat (I.quo n 10)))) (I.cut (α := UInt8) (Array.toList (List.toArray ([48, 49, 50, 51, 52, 53, 54, 55, 56, 57] : List UInt8))) (I.rem n 10) (I.add (I.rem n 10) 1)))))))) []))))))))))) (by kernel_rfl) ?_
  simp only [inst_need, inst_br, inst_both, inst_fin, inst_qed, inst_stop, inst_code]
  subst hI
  simp only [alg_b2i, alg_i2b, alg_add, alg_sub, alg_mul, alg_quo, alg_rem, alg_wrap, alg_imin, alg_imax, alg_ilt, alg_ile, alg_ieq, alg_bnot, alg_beq, alg_ban, alg_seq, alg_len, alg_app, alg_cut, alg_get, alg_set, alg_rep, alg_inr, alg_inb, alg_cutb, alg_same, alg_few, alg_nne, alg_nng, alg_hid, alg_shl, alg_shr, alg_bits, decide_eq_true_eq, decide_eq_false_iff_not, beq_iff_eq, beq_eq_false_iff_ne, Bool.not_eq_true', Bool.not_eq_false', and_true, true_and, ne_eq, Int.toNat_zero, Nat.sub_zero, List.drop_zero, i64_min, i64_max, u8_min, u8_max, ofNat_b2i, b2i_inj, Int.toNat_natCast, Int.ofNat_eq_natCast, UInt8.ofNat_toNat, AOut.ret.injEq, D.v.injEq, D.tup.injEq, V0.one.injEq, C.p.injEq, P.bool.injEq, P.int.injEq, P.str.injEq, Bool.false_eq_true, Bool.true_eq_false, imp_false, Decidable.not_not, not_true_eq_false, not_false_eq_true]
  obtain ⟨m, rfl⟩ : ∃ m : Nat, n = m := ⟨n.toNat, by omega⟩
  rw [Int.toNat_natCast] at hr
  have e1 : (m : Int).tdiv 10 = ((m / 10 : Nat) : Int) := by rw [Int.tdiv_eq_ediv_of_nonneg (by omega)]; omega
  have e2 : (m : Int).tmod 10 = ((m % 10 : Nat) : Int) := by rw [Int.tmod_eq_emod_of_nonneg (by omega)]; omega
  have e3 : m < 10 → (([48, 49, 50, 51, 52, 53, 54, 55, 56, 57] : Str).drop m).take (((m : Int) + 1).toNat - m) = r := fun h => by
    rw [show ((m : Int) + 1).toNat - m = 1 by omega, dig10 h, ← hr, txtN_one h]
  have e4 : (([48, 49, 50, 51, 52, 53, 54, 55, 56, 57] : Str).drop (m % 10)).take ((((m % 10 : Nat) : Int) + 1).toNat - m % 10) = [dgN (m % 10)] := by
    rw [show (((m % 10 : Nat) : Int) + 1).toNat - m % 10 = 1 by omega, dig10 (Nat.mod_lt _ (by decide))]
  have e5 : ¬ m < 10 → txtN 10 1 (m / 10) ++ [dgN (m % 10)] = r := fun h => by rw [← hr, txtN_more h]
  have hl := txtN_len 10 1 (m / 10)
  have hl2 := txtN_len 10 1 (m % 10)
  have e6 : 0 < 1 → txtN 10 1 (m % 10) = [dgN (m % 10)] := fun h => by first | exact absurd h (by decide) | exact txtN_one (f := 0) (Nat.mod_lt _ (by decide))
  generalize hH : ([48, 49, 50, 51, 52, 53, 54, 55, 56, 57] : Str) = H at *
  have hHl : H.length = 10 := by rw [← hH]; rfl
  simp only [e1, e2, Int.toNat_natCast, e4, List.length_cons, List.length_nil]
  (repeat' (first | refine And.intro ?_ ?_ | intro _)) <;> try omega
  all_goals first
    | exact e3 (by omega)
    | exact e5 (by omega)
    | (rw [e6 (by decide)]; exact e5 (by omega))
    | (exfalso; omega)
def num2__c (I : Alg) (args : List D) (hp : List HO) : Option CR := match args, hp with
  | [.v (.one (.p (.int .i64 n)))], [] => (fun (n : Int) => (some ⟨I.hid (0 ≤ n ∧ n < 100), (.ret (.v (.one (.p (.str (I.hid (txtN 10 2 n.toNat))))))), []⟩ : Option CR)) n
  | _, _ => none
theorem num2__g : GoodC Tryd.prog 12 (num2__c alg) := by
  intro args hp r h hn
  unfold num2__c at h
  split at h
  · cases h; exact num2_ _ hn
  · cases h
def num2__k : Know Tryd.prog := ⟨12, num2__c, num2__g⟩
def num2__l : Know Tryd.prog := ⟨12, fun I => lendC I (num2__c I), lendC_good num2__g⟩

theorem num3_ (n : Int) (hneed : 0 ≤ n ∧ n < 1000) : Spc Tryd.prog 12 [.v (.one (.p (.int .i64 n)))] [] (.ret (.v (.one (.p (.str (txtN 10 3 n.toNat)))))) [] := by
  generalize hr : txtN 10 3 n.toNat = r
  refine spcG tab_ok mixed Tryd.func12 (by kernel_rfl) { keep := some [0, 2] } [num2__k, num0__k, num0__l, num1__k, num1__l, num2__k, num2__l] (by kernel_rfl) ?_
  intro I X hI hX
  refine ev_rule (.br (I.ilt n 0) (.need (I.inr Go.IntKind.i64 (I.sub 0 n)) (.need (I.hid (α := (Prop)) (And (LE.le (0 : Int) (I.sub 0 n)) (LT.lt (I.sub 0 n) (100 : Int)))) (.need (I.few (I.add (I.len (α := UInt8) (Array.toList (List.toArray ([45] : List UInt8)))) (I.len (α := UInt8) (I.hid (α := (List UInt8)) (Go.Proofs.YtmmfcghieefoaaaDoor.txtN 10 2 (Int.toNat (I.sub 0 n)))))) 1000000000) (.fin (.ret (.v (.one (.p (.str (I.app (α := UInt8) (Array.toList (List.toArray ([45] : List UInt8))) (I.hid (α := (List UInt8)) (Go.Proofs.YtmmfcghieefoaaaDoor.txtN 10 2 (Int.toNat (I.sub 0 n)))))))))) [])))) (.br (I.ilt n 10) (.need (I.inr Go.IntKind.i64 (I.add n 1)) (.need (I.cutb n (I.add n 1) (I.len (α := UInt8) (Array.toList (List.toArray ([48, 49, 50, 51, 52, 53, 54, 55, 56, 57] : List UInt8))))) (.fin (.ret (.v (.one (.p (.str (I.cut (α := UInt8) (Array.toList (List.toArray ([48, 49, 50, 51, 52, 53, 54, 55, 56, 57] : List UInt8))) n (I.add n 1))))))) []))) (.need (I.nne 10) (.need (I.inr Go.IntKind.i64 (I.quo n 10)) (.need (I.nne 10) (.need (I.nne 10) (.need (I.inr Go.IntKind.i64 (I.add (I.rem n 10) 1)) (.need (I.cutb (I.rem n 10) (I.add (I.rem n 10) 1) (I.len (α := UInt8) (Array.toList (List.toArray ([48, 49, 50, 51, 52, 53, 54, 55, 56, 57] : List UInt8))))) (.need (I.hid (α := (Prop)) (And (LE.le (0 : Int) (I.quo n 10)) (LT.lt (I.quo n 10) (100 : Int)))) (.need (I.few (I.add (I.len (α := UInt8) (I.hid (α := (List UInt8)) (Go.Proofs.YtmmfcghieefoaaaDoor.txtN 10 2 (Int.toNat (I.quo n 10))))) (I.len (α := UInt8) (I.cut (α := UInt8) (Array.toList (List.toArray ([48, 49, 50, 51, 52, 53, 54, 55, 56, 57] : List UInt8))) (I.rem n 10) (I.add (I.rem n 10) 1)))) 1000000000) (.fin (.ret (.v (.one (.p (.str (I.app (α := UInt8) (I.hid (α := (List UInt8)) (Go.Proofs.YtmmfcghieefoaaaDoor.txtN 10 2 (Int.toNat (I.quo n 10)))) (I.cut (α := UInt8) (Array.toList (List.toArray ([48, 49, 50, 51, 52, 53, 54, 55, 56, 57] : List UInt8))) (I.rem n 10) (I.add (I.rem n 10) 1)))))))) []))))))))))) (by kernel_rfl) ?_
  simp only [inst_need, inst_br, inst_both, inst_fin, inst_qed, inst_stop, inst_code]
  subst hI
  simp only [alg_b2i, alg_i2b, alg_add, alg_sub, alg_mul, alg_quo, alg_rem, alg_wrap, alg_imin, alg_imax, alg_ilt, alg_ile, alg_ieq, alg_bnot, alg_beq, alg_ban, alg_seq, alg_len, alg_app, alg_cut, alg_get, alg_set, alg_rep, alg_inr, alg_inb, alg_cutb, alg_same, alg_few, alg_nne, alg_nng, alg_hid, alg_shl, alg_shr, alg_bits, decide_eq_true_eq, decide_eq_false_iff_not, beq_iff_eq, beq_eq_false_iff_ne, Bool.not_eq_true', Bool.not_eq_false', and_true, true_and, ne_eq, Int.toNat_zero, Nat.sub_zero, List.drop_zero, i64_min, i64_max, u8_min, u8_max, ofNat_b2i, b2i_inj, Int.toNat_natCast, Int.ofNat_eq_natCast, UInt8.ofNat_toNat, AOut.ret.injEq, D.v.injEq, D.tup.injEq, V0.one.injEq, C.p.injEq, P.bool.injEq, P.int.injEq, P.str.injEq, Bool.false_eq_true, Bool.true_eq_false, imp_false, Decidable.not_not, not_true_eq_false, not_false_eq_true]
  obtain ⟨m, rfl⟩ : ∃ m : Nat, n = m := ⟨n.toNat, by omega⟩
  rw [Int.toNat_natCast] at hr
  have e1 : (m : Int).tdiv 10 = ((m / 10 : Nat) : Int) := by rw [Int.tdiv_eq_ediv_of_nonneg (by omega)]; omega
  have e2 : (m : Int).tmod 10 = ((m % 10 : Nat) : Int) := by rw [Int.tmod_eq_emod_of_nonneg (by omega)]; omega
  have e3 : m < 10 → (([48, 49, 50, 51, 52, 53, 54, 55, 56, 57] : Str).drop m).take (((m : Int) + 1).toNat - m) = r := fun h => by
    rw [show ((m : Int) + 1).toNat - m = 1 by omega, dig10 h, ← hr, txtN_one h]
  have e4 : (([48, 49, 50, 51, 52, 53, 54, 55, 56, 57] : Str).drop (m % 10)).take ((((m % 10 : Nat) : Int) + 1).toNat - m % 10) = [dgN (m % 10)] := by
    rw [show (((m % 10 : Nat) : Int) + 1).toNat - m % 10 = 1 by omega, dig10 (Nat.mod_lt _ (by decide))]
  have e5 : ¬ m < 10 → txtN 10 2 (m / 10) ++ [dgN (m % 10)] = r := fun h => by rw [← hr, txtN_more h]
  have hl := txtN_len 10 2 (m / 10)
  have hl2 := txtN_len 10 2 (m % 10)
  have e6 : 0 < 2 → txtN 10 2 (m % 10) = [dgN (m % 10)] := fun h => by first | exact absurd h (by decide) | exact txtN_one (f := 1) (Nat.mod_lt _ (by decide))
  generalize hH : ([48, 49, 50, 51, 52, 53, 54, 55, 56, 57] : Str) = H at *
  have hHl : H.length = 10 := by rw [← hH]; rfl
  simp only [e1, e2, Int.toNat_natCast, e4, List.length_cons, List.length_nil]
  (repeat' (first | refine And.intro ?_ ?_ | intro _)) <;> try omega
  all_goals first
    | exact e3 (by omega)
    | exact e5 (by omega)
    | (rw [e6 (by decide)]; exact e5 (by omega))
    | (exfalso; omega)
def num3__c (I : Alg) (args : List D) (hp : List HO) : Option CR := match args, hp with
  | [.v (.one (.p (.int .i64 n)))], [] => (fun (n : Int) => (some ⟨I.hid (0 ≤ n ∧ n < 1000), (.ret (.v (.one (.p (.str (I.hid (txtN 10 3 n.toNat))))))), []⟩ : Option CR)) n
  | _, _ => none
theorem num3__g : GoodC Tryd.prog 12 (num3__c alg) := by
  intro args hp r h hn
  unfold num3__c at h
  split at h
  · cases h; exact num3_ _ hn
  · cases h
def num3__k : Know Tryd.prog := ⟨12, num3__c, num3__g⟩
def num3__l : Know Tryd.prog := ⟨12, fun I => lendC I (num3__c I), lendC_good num3__g⟩

theorem num4_ (n : Int) (hneed : 0 ≤ n ∧ n < 10000) : Spc Tryd.prog 12 [.v (.one (.p (.int .i64 n)))] [] (.ret (.v (.one (.p (.str (txtN 10 4 n.toNat)))))) [] := by
  generalize hr : txtN 10 4 n.toNat = r
  refine spcG tab_ok mixed Tryd.func12 (by kernel_rfl) { keep := some [0, 2] } [num3__k, num0__k, num0__l, num1__k, num1__l, num2__k, num2__l, num3__k, num3__l] (by kernel_rfl) ?_
  intro I X hI hX
  refine ev_rule (.br (I.ilt n 0) (.need (I.inr Go.IntKind.i64 (I.sub 0 n)) (.need (I.hid (α := (Prop)) (And (LE.le (0 : Int) (I.sub 0 n)) (LT.lt (I.sub 0 n) (1000 : Int)))) (.need (I.few (I.add (I.len (α := UInt8) (Array.toList (List.toArray ([45] : List UInt8)))) (I.len (α := UInt8) (I.hid (α := (List UInt8)) (Go.Proofs.YtmmfcghieefoaaaDoor.txtN 10 3 (Int.toNat (I.sub 0 n)))))) 1000000000) (.fin (.ret (.v (.one (.p (.str (I.app (α := UInt8) (Array.toList (List.toArray ([45] : List UInt8))) (I.hid (α := (List UInt8)) (Go.Proofs.YtmmfcghieefoaaaDoor.txtN 10 3 (Int.toNat (I.sub 0 n)))))))))) [])))) (.br (I.ilt n 10) (.need (I.inr Go.IntKind.i64 (I.add n 1)) (.need (I.cutb n (I.add n 1) (I.len (α := UInt8) (Array.toList (List.toArray ([48, 49, 50, 51, 52, 53, 54, 55, 56, 57] : List UInt8))))) (.fin (.ret (.v (.one (.p (.str (I.cut (α := UInt8) (Array.toList (List.toArray ([48, 49, 50, 51, 52, 53, 54, 55, 56, 57] : List UInt8))) n (I.add n 1))))))) []))) (.need (I.nne 10) (.need (I.inr Go.IntKind.i64 (I.quo n 10)) (.need (I.nne 10) (.need (I.nne 10) (.need (I.inr Go.IntKind.i64 (I.add (I.rem n 10) 1)) (.need (I.cutb (I.rem n 10) (I.add (I.rem n 10) 1) (I.len (α := UInt8) (Array.toList (List.toArray ([48, 49, 50, 51, 52, 53, 54, 55, 56, 57] : List UInt8))))) (.need (I.hid (α := (Prop)) (And (LE.le (0 : Int) (I.quo n 10)) (LT.lt (I.quo n 10) (1000 : Int)))) (.need (I.few (I.add (I.len (α := UInt8) (I.hid (α := (List UInt8)) (Go.Proofs.YtmmfcghieefoaaaDoor.txtN 10 3 (Int.toNat (I.quo n 10))))) (I.len (α := UInt8) (I.cut (α := UInt8) (Array.toList (List.toArray ([48, 49, 50, 51, 52, 53, 54, 55, 56, 57] : List UInt8))) (I.rem n 10) (I.add (I.rem n 10) 1)))) 1000000000) (.fin (.ret (.v (.one (.p (.str (I.app (α := UInt8) (I.hid (α := (List UInt8)) (Go.Proofs.YtmmfcghieefoaaaDoor.txtN 10 3 (Int.toNat (I.quo n 10)))) (I.cut (α := UInt8) (Array.toList (List.toArray ([48, 49, 50, 51, 52, 53, 54, 55, 56, 57] : List UInt8))) (I.rem n 10) (I.add (I.rem n 10) 1)))))))) []))))))))))) (by kernel_rfl) ?_
  simp only [inst_need, inst_br, inst_both, inst_fin, inst_qed, inst_stop, inst_code]
  subst hI
  simp only [alg_b2i, alg_i2b, alg_add, alg_sub, alg_mul, alg_quo, alg_rem, alg_wrap, alg_imin, alg_imax, alg_ilt, alg_ile, alg_ieq, alg_bnot, alg_beq, alg_ban, alg_seq, alg_len, alg_app, alg_cut, alg_get, alg_set, alg_rep, alg_inr, alg_inb, alg_cutb, alg_same, alg_few, alg_nne, alg_nng, alg_hid, alg_shl, alg_shr, alg_bits, decide_eq_true_eq, decide_eq_false_iff_not, beq_iff_eq, beq_eq_false_iff_ne, Bool.not_eq_true', Bool.not_eq_false', and_true, true_and, ne_eq, Int.toNat_zero, Nat.sub_zero, List.drop_zero, i64_min, i64_max, u8_min, u8_max, ofNat_b2i, b2i_inj, Int.toNat_natCast, Int.ofNat_eq_natCast, UInt8.ofNat_toNat, AOut.ret.injEq, D.v.injEq, D.tup.injEq, V0.one.injEq, C.p.injEq, P.bool.injEq, P.int.injEq, P.str.injEq, Bool.false_eq_true, Bool.true_eq_false, imp_false, Decidable.not_not, not_true_eq_false, not_false_eq_true]
  obtain ⟨m, rfl⟩ : ∃ m : Nat, n = m := ⟨n.toNat, by omega⟩
  rw [Int.toNat_natCast] at hr
  have e1 : (m : Int).tdiv 10 = ((m / 10 : Nat) : Int) := by rw [Int.tdiv_eq_ediv_of_nonneg (by omega)]; omega
  have e2 : (m : Int).tmod 10 = ((m % 10 : Nat) : Int) := by rw [Int.tmod_eq_emod_of_nonneg (by omega)]; omega
  have e3 : m < 10 → (([48, 49, 50, 51, 52, 53, 54, 55, 56, 57] : Str).drop m).take (((m : Int) + 1).toNat - m) = r := fun h => by
    rw [show ((m : Int) + 1).toNat - m = 1 by omega, dig10 h, ← hr, txtN_one h]
  have e4 : (([48, 49, 50, 51, 52, 53, 54, 55, 56, 57] : Str).drop (m % 10)).take ((((m % 10 : Nat) : Int) + 1).toNat - m % 10) = [dgN (m % 10)] := by
    rw [show (((m % 10 : Nat) : Int) + 1).toNat - m % 10 = 1 by omega, dig10 (Nat.mod_lt _ (by decide))]
  have e5 : ¬ m < 10 → txtN 10 3 (m / 10) ++ [dgN (m % 10)] = r := fun h => by rw [← hr, txtN_more h]
  have hl := txtN_len 10 3 (m / 10)
  have hl2 := txtN_len 10 3 (m % 10)
  have e6 : 0 < 3 → txtN 10 3 (m % 10) = [dgN (m % 10)] := fun h => by first | exact absurd h (by decide) | exact txtN_one (f := 2) (Nat.mod_lt _ (by decide))
  generalize hH : ([48, 49, 50, 51, 52, 53, 54, 55, 56, 57] : Str) = H at *
  have hHl : H.length = 10 := by rw [← hH]; rfl
  simp only [e1, e2, Int.toNat_natCast, e4, List.length_cons, List.length_nil]
  (repeat' (first | refine And.intro ?_ ?_ | intro _)) <;> try omega
  all_goals first
    | exact e3 (by omega)
    | exact e5 (by omega)
    | (rw [e6 (by decide)]; exact e5 (by omega))
    | (exfalso; omega)
def num4__c (I : Alg) (args : List D) (hp : List HO) : Option CR := match args, hp with
  | [.v (.one (.p (.int .i64 n)))], [] => (fun (n : Int) => (some ⟨I.hid (0 ≤ n ∧ n < 10000), (.ret (.v (.one (.p (.str (I.hid (txtN 10 4 n.toNat))))))), []⟩ : Option CR)) n
  | _, _ => none
theorem num4__g : GoodC Tryd.prog 12 (num4__c alg) := by
  intro args hp r h hn
  unfold num4__c at h
  split at h
  · cases h; exact num4_ _ hn
  · cases h
def num4__k : Know Tryd.prog := ⟨12, num4__c, num4__g⟩
def num4__l : Know Tryd.prog := ⟨12, fun I => lendC I (num4__c I), lendC_good num4__g⟩

theorem num5_ (n : Int) (hneed : 0 ≤ n ∧ n < 100000) : Spc Tryd.prog 12 [.v (.one (.p (.int .i64 n)))] [] (.ret (.v (.one (.p (.str (txtN 10 5 n.toNat)))))) [] := by
  generalize hr : txtN 10 5 n.toNat = r
  refine spcG tab_ok mixed Tryd.func12 (by kernel_rfl) { keep := some [0, 2] } [num4__k, num0__k, num0__l, num1__k, num1__l, num2__k, num2__l, num3__k, num3__l, num4__k, num4__l] (by kernel_rfl) ?_
  intro I X hI hX
  refine ev_rule (.br (I.ilt n 0) (.need (I.inr Go.IntKind.i64 (I.sub 0 n)) (.need (I.hid (α := (Prop)) (And (LE.le (0 : Int) (I.sub 0 n)) (LT.lt (I.sub 0 n) (10000 : Int)))) (.need (I.few (I.add (I.len (α := UInt8) (Array.toList (List.toArray ([45] : List UInt8)))) (I.len (α := UInt8) (I.hid (α := (List UInt8)) (Go.Proofs.YtmmfcghieefoaaaDoor.txtN 10 4 (Int.toNat (I.sub 0 n)))))) 1000000000) (.fin (.ret (.v (.one (.p (.str (I.app (α := UInt8) (Array.toList (List.toArray ([45] : List UInt8))) (I.hid (α := (List UInt8)) (Go.Proofs.YtmmfcghieefoaaaDoor.txtN 10 4 (Int.toNat (I.sub 0 n)))))))))) [])))) (.br (I.ilt n 10) (.need (I.inr Go.IntKind.i64 (I.add n 1)) (.need (I.cutb n (I.add n 1) (I.len (α := UInt8) (Array.toList (List.toArray ([48, 49, 50, 51, 52, 53, 54, 55, 56, 57] : List UInt8))))) (.fin (.ret (.v (.one (.p (.str (I.cut (α := UInt8) (Array.toList (List.toArray ([48, 49, 50, 51, 52, 53, 54, 55, 56, 57] : List UInt8))) n (I.add n 1))))))) []))) (.need (I.nne 10) (.need (I.inr Go.IntKind.i64 (I.quo n 10)) (.need (I.nne 10) (.need (I.nne 10) (.need (I.inr Go.IntKind.i64 (I.add (I.rem n 10) 1)) (.need (I.cutb (I.rem n 10) (I.add (I.rem n 10) 1) (I.len (α := UInt8) (Array.toList (List.toArray ([48, 49, 50, 51, 52, 53, 54, 55, 56, 57] : List UInt8))))) (.need (I.hid (α := (Prop)) (And (LE.le (0 : Int) (I.quo n 10)) (LT.lt (I.quo n 10) (10000 : Int)))) (.need (I.few (I.add (I.len (α := UInt8) (I.hid (α := (List UInt8)) (Go.Proofs.YtmmfcghieefoaaaDoor.txtN 10 4 (Int.toNat (I.quo n 10))))) (I.len (α := UInt8) (I.cut (α := UInt8) (Array.toList (List.toArray ([48, 49, 50, 51, 52, 53, 54, 55, 56, 57] : List UInt8))) (I.rem n 10) (I.add (I.rem n 10) 1)))) 1000000000) (.fin (.ret (.v (.one (.p (.str (I.app (α := UInt8) (I.hid (α := (List UInt8)) (Go.Proofs.YtmmfcghieefoaaaDoor.txtN 10 4 (Int.toNat (I.quo n 10)))) (I.cut (α := UInt8) (Array.toList (List.toArray ([48, 49, 50, 51, 52, 53, 54, 55, 56, 57] : List UInt8))) (I.rem n 10) (I.add (I.rem n 10) 1)))))))) []))))))))))) (by kernel_rfl) ?_
  simp only [inst_need, inst_br, inst_both, inst_fin, inst_qed, inst_stop, inst_code]
  subst hI
  simp only [alg_b2i, alg_i2b, alg_add, alg_sub, alg_mul, alg_quo, alg_rem, alg_wrap, alg_imin, alg_imax, alg_ilt, alg_ile, alg_ieq, alg_bnot, alg_beq, alg_ban, alg_seq, alg_len, alg_app, alg_cut, alg_get, alg_set, alg_rep, alg_inr, alg_inb, alg_cutb, alg_same, alg_few, alg_nne, alg_nng, alg_hid, alg_shl, alg_shr, alg_bits, decide_eq_true_eq, decide_eq_false_iff_not, beq_iff_eq, beq_eq_false_iff_ne, Bool.not_eq_true', Bool.not_eq_false', and_true, true_and, ne_eq, Int.toNat_zero, Nat.sub_zero, List.drop_zero, i64_min, i64_max, u8_min, u8_max, ofNat_b2i, b2i_inj, Int.toNat_natCast, Int.ofNat_eq_natCast, UInt8.ofNat_toNat, AOut.ret.injEq, D.v.injEq, D.tup.injEq, V0.one.injEq, C.p.injEq, P.bool.injEq, P.int.injEq, P.str.injEq, Bool.false_eq_true, Bool.true_eq_false, imp_false, Decidable.not_not, not_true_eq_false, not_false_eq_true]
  obtain ⟨m, rfl⟩ : ∃ m : Nat, n = m := ⟨n.toNat, by omega⟩
  rw [Int.toNat_natCast] at hr
  have e1 : (m : Int).tdiv 10 = ((m / 10 : Nat) : Int) := by rw [Int.tdiv_eq_ediv_of_nonneg (by omega)]; omega
  have e2 : (m : Int).tmod 10 = ((m % 10 : Nat) : Int) := by rw [Int.tmod_eq_emod_of_nonneg (by omega)]; omega
  have e3 : m < 10 → (([48, 49, 50, 51, 52, 53, 54, 55, 56, 57] : Str).drop m).take (((m : Int) + 1).toNat - m) = r := fun h => by
    rw [show ((m : Int) + 1).toNat - m = 1 by omega, dig10 h, ← hr, txtN_one h]
  have e4 : (([48, 49, 50, 51, 52, 53, 54, 55, 56, 57] : Str).drop (m % 10)).take ((((m % 10 : Nat) : Int) + 1).toNat - m % 10) = [dgN (m % 10)] := by
    rw [show (((m % 10 : Nat) : Int) + 1).toNat - m % 10 = 1 by omega, dig10 (Nat.mod_lt _ (by decide))]
  have e5 : ¬ m < 10 → txtN 10 4 (m / 10) ++ [dgN (m % 10)] = r := fun h => by rw [← hr, txtN_more h]
  have hl := txtN_len 10 4 (m / 10)
  have hl2 := txtN_len 10 4 (m % 10)
  have e6 : 0 < 4 → txtN 10 4 (m % 10) = [dgN (m % 10)] := fun h => by first | exact absurd h (by decide) | exact txtN_one (f := 3) (Nat.mod_lt _ (by decide))
  generalize hH : ([48, 49, 50, 51, 52, 53, 54, 55, 56, 57] : Str) = H at *
  have hHl : H.length = 10 := by rw [← hH]; rfl
  simp only [e1, e2, Int.toNat_natCast, e4, List.length_cons, List.length_nil]
  (repeat' (first | refine And.intro ?_ ?_ | intro _)) <;> try omega
  all_goals first
    | exact e3 (by omega)
    | exact e5 (by omega)
    | (rw [e6 (by decide)]; exact e5 (by omega))
    | (exfalso; omega)
def num5__c (I : Alg) (args : List D) (hp : List HO) : Option CR := match args, hp with
  | [.v (.one (.p (.int .i64 n)))], [] => (fun (n : Int) => (some ⟨I.hid (0 ≤ n ∧ n < 100000), (.ret (.v (.one (.p (.str (I.hid (txtN 10 5 n.toNat))))))), []⟩ : Option CR)) n
  | _, _ => none
theorem num5__g : GoodC Tryd.prog 12 (num5__c alg) := by
  intro args hp r h hn
  unfold num5__c at h
  split at h
  · cases h; exact num5_ _ hn
  · cases h
def num5__k : Know Tryd.prog := ⟨12, num5__c, num5__g⟩
def num5__l : Know Tryd.prog := ⟨12, fun I => lendC I (num5__c I), lendC_good num5__g⟩

theorem num6_ (n : Int) (hneed : 0 ≤ n ∧ n < 1000000) : Spc Tryd.prog 12 [.v (.one (.p (.int .i64 n)))] [] (.ret (.v (.one (.p (.str (txtN 10 6 n.toNat)))))) [] := by
  generalize hr : txtN 10 6 n.toNat = r
  refine spcG tab_ok mixed Tryd.func12 (by kernel_rfl) { keep := some [0, 2] } [num5__k, num0__k, num0__l, num1__k, num1__l, num2__k, num2__l, num3__k, num3__l, num4__k, num4__l, num5__k, num5__l] (by kernel_rfl) ?_
  intro I X hI hX
  refine ev_rule (.br (I.ilt n 0) (.need (I.inr Go.IntKind.i64 (I.sub 0 n)) (.need (I.hid (α := (Prop)) (And (LE.le (0 : Int) (I.sub 0 n)) (LT.lt (I.sub 0 n) (100000 : Int)))) (.need (I.few (I.add (I.len (α := UInt8) (Array.toList (List.toArray ([45] : List UInt8)))) (I.len (α := UInt8) (I.hid (α := (List UInt8)) (Go.Proofs.YtmmfcghieefoaaaDoor.txtN 10 5 (Int.toNat (I.sub 0 n)))))) 1000000000) (.fin (.ret (.v (.one (.p (.str (I.app (α := UInt8) (Array.toList (List.toArray ([45] : List UInt8))) (I.hid (α := (List UInt8)) (Go.Proofs.YtmmfcghieefoaaaDoor.txtN 10 5 (Int.toNat (I.sub 0 n)))))))))) [])))) (.br (I.ilt n 10) (.need (I.inr Go.IntKind.i64 (I.add n 1)) (.need (I.cutb n (I.add n 1) (I.len (α := UInt8) (Array.toList (List.toArray ([48, 49, 50, 51, 52, 53, 54, 55, 56, 57] : List UInt8))))) (.fin (.ret (.v (.one (.p (.str (I.cut (α := UInt8) (Array.toList (List.toArray ([48, 49, 50, 51, 52, 53, 54, 55, 56, 57] : List UInt8))) n (I.add n 1))))))) []))) (.need (I.nne 10) (.need (I.inr Go.IntKind.i64 (I.quo n 10)) (.need (I.nne 10) (.need (I.nne 10) (.need (I.inr Go.IntKind.i64 (I.add (I.rem n 10) 1)) (.need (I.cutb (I.rem n 10) (I.add (I.rem n 10) 1) (I.len (α := UInt8) (Array.toList (List.toArray ([48, 49, 50, 51, 52, 53, 54, 55, 56, 57] : List UInt8))))) (.need (I.hid (α := (Prop)) (And (LE.le (0 : Int) (I.quo n 10)) (LT.lt (I.quo n 10) (100000 : Int)))) (.need (I.few (I.add (I.len (α := UInt8) (I.hid (α := (List UInt8)) (Go.Proofs.YtmmfcghieefoaaaDoor.txtN 10 5 (Int.toNat (I.quo n 10))))) (I.len (α := UInt8) (I.cut (α := UInt8) (Array.toList (List.toArray ([48, 49, 50, 51, 52, 53, 54, 55, 56, 57] : List UInt8))) (I.rem n 10) (I.add (I.rem n 10) 1)))) 1000000000) (.fin (.ret (.v (.one (.p (.str (I.app (α := UInt8) (I.hid (α := (List UInt8)) (Go.Proofs.YtmmfcghieefoaaaDoor.txtN 10 5 (Int.toNat (I.quo n 10)))) (I.cut (α := UInt8) (Array.toList (List.toArray ([48, 49, 50, 51, 52, 53, 54, 55, 56, 57] : List UInt8))) (I.rem n 10) (I.add (I.rem n 10) 1)))))))) []))))))))))) (by kernel_rfl) ?_
  simp only [inst_need, inst_br, inst_both, inst_fin, inst_qed, inst_stop, inst_code]
  subst hI
  simp only [alg_b2i, alg_i2b, alg_add, alg_sub, alg_mul, alg_quo, alg_rem, alg_wrap, alg_imin, alg_imax, alg_ilt, alg_ile, alg_ieq, alg_bnot, alg_beq, alg_ban, alg_seq, alg_len, alg_app, alg_cut, alg_get, alg_set, alg_rep, alg_inr, alg_inb, alg_cutb, alg_same, alg_few, alg_nne, alg_nng, alg_hid, alg_shl, alg_shr, alg_bits, decide_eq_true_eq, decide_eq_false_iff_not, beq_iff_eq, beq_eq_false_iff_ne, Bool.not_eq_true', Bool.not_eq_false', and_true, true_and, ne_eq, Int.toNat_zero, Nat.sub_zero, List.drop_zero, i64_min, i64_max, u8_min, u8_max, ofNat_b2i, b2i_inj, Int.toNat_natCast, Int.ofNat_eq_natCast, UInt8.ofNat_toNat, AOut.ret.injEq, D.v.injEq, D.tup.injEq, V0.one.injEq, C.p.injEq, P.bool.injEq, P.int.injEq, P.str.injEq, Bool.false_eq_true, Bool.true_eq_false, imp_false, Decidable.not_not, not_true_eq_false, not_false_eq_true]
  obtain ⟨m, rfl⟩ : ∃ m : Nat, n = m := ⟨n.toNat, by omega⟩
  rw [Int.toNat_natCast] at hr
  have e1 : (m : Int).tdiv 10 = ((m / 10 : Nat) : Int) := by rw [Int.tdiv_eq_ediv_of_nonneg (by omega)]; omega
  have e2 : (m : Int).tmod 10 = ((m % 10 : Nat) : Int) := by rw [Int.tmod_eq_emod_of_nonneg (by omega)]; omega
  have e3 : m < 10 → (([48, 49, 50, 51, 52, 53, 54, 55, 56, 57] : Str).drop m).take (((m : Int) + 1).toNat - m) = r := fun h => by
    rw [show ((m : Int) + 1).toNat - m = 1 by omega, dig10 h, ← hr, txtN_one h]
  have e4 : (([48, 49, 50, 51, 52, 53, 54, 55, 56, 57] : Str).drop (m % 10)).take ((((m % 10 : Nat) : Int) + 1).toNat - m % 10) = [dgN (m % 10)] := by
    rw [show (((m % 10 : Nat) : Int) + 1).toNat - m % 10 = 1 by omega, dig10 (Nat.mod_lt _ (by decide))]
  have e5 : ¬ m < 10 → txtN 10 5 (m / 10) ++ [dgN (m % 10)] = r := fun h => by rw [← hr, txtN_more h]
  have hl := txtN_len 10 5 (m / 10)
  have hl2 := txtN_len 10 5 (m % 10)
  have e6 : 0 < 5 → txtN 10 5 (m % 10) = [dgN (m % 10)] := fun h => by first | exact absurd h (by decide) | exact txtN_one (f := 4) (Nat.mod_lt _ (by decide))
  generalize hH : ([48, 49, 50, 51, 52, 53, 54, 55, 56, 57] : Str) = H at *
  have hHl : H.length = 10 := by rw [← hH]; rfl
  simp only [e1, e2, Int.toNat_natCast, e4, List.length_cons, List.length_nil]
  (repeat' (first | refine And.intro ?_ ?_ | intro _)) <;> try omega
  all_goals first
    | exact e3 (by omega)
    | exact e5 (by omega)
    | (rw [e6 (by decide)]; exact e5 (by omega))
    | (exfalso; omega)
def num6__c (I : Alg) (args : List D) (hp : List HO) : Option CR := match args, hp with
  | [.v (.one (.p (.int .i64 n)))], [] => (fun (n : Int) => (some ⟨I.hid (0 ≤ n ∧ n < 1000000), (.ret (.v (.one (.p (.str (I.hid (txtN 10 6 n.toNat))))))), []⟩ : Option CR)) n
  | _, _ => none
theorem num6__g : GoodC Tryd.prog 12 (num6__c alg) := by
  intro args hp r h hn
  unfold num6__c at h
  split at h
  · cases h; exact num6_ _ hn
  · cases h
def num6__k : Know Tryd.prog := ⟨12, num6__c, num6__g⟩
def num6__l : Know Tryd.prog := ⟨12, fun I => lendC I (num6__c I), lendC_good num6__g⟩

theorem num7_ (n : Int) (hneed : 0 ≤ n ∧ n < 10000000) : Spc Tryd.prog 12 [.v (.one (.p (.int .i64 n)))] [] (.ret (.v (.one (.p (.str (txtN 10 7 n.toNat)))))) [] := by
  generalize hr : txtN 10 7 n.toNat = r
  refine spcG tab_ok mixed Tryd.func12 (by kernel_rfl) { keep := some [0, 2] } [num6__k, num0__k, num0__l, num1__k, num1__l, num2__k, num2__l, num3__k, num3__l, num4__k, num4__l, num5__k, num5__l, num6__k, num6__l] (by kernel_rfl) ?_
  intro I X hI hX
  refine ev_rule (.br (I.ilt n 0) (.need (I.inr Go.IntKind.i64 (I.sub 0 n)) (.need (I.hid (α := (Prop)) (And (LE.le (0 : Int) (I.sub 0 n)) (LT.lt (I.sub 0 n) (1000000 : Int)))) (.need (I.few (I.add (I.len (α := UInt8) (Array.toList (List.toArray ([45] : List UInt8)))) (I.len (α := UInt8) (I.hid (α := (List UInt8)) (Go.Proofs.YtmmfcghieefoaaaDoor.txtN 10 6 (Int.toNat (I.sub 0 n)))))) 1000000000) (.fin (.ret (.v (.one (.p (.str (I.app (α := UInt8) (Array.toList (List.toArray ([45] : List UInt8))) (I.hid (α := (List UInt8)) (Go.Proofs.YtmmfcghieefoaaaDoor.txtN 10 6 (Int.toNat (I.sub 0 n)))))))))) [])))) (.br (I.ilt n 10) (.need (I.inr Go.IntKind.i64 (I.add n 1)) (.need (I.cutb n (I.add n 1) (I.len (α := UInt8) (Array.toList (List.toArray ([48, 49, 50, 51, 52, 53, 54, 55, 56, 57] : List UInt8))))) (.fin (.ret (.v (.one (.p (.str (I.cut (α := UInt8) (Array.toList (List.toArray ([48, 49, 50, 51, 52, 53, 54, 55, 56, 57] : List UInt8))) n (I.add n 1))))))) []))) (.need (I.nne 10) (.need (I.inr Go.IntKind.i64 (I.quo n 10)) (.need (I.nne 10) (.need (I.nne 10) (.need (I.inr Go.IntKind.i64 (I.add (I.rem n 10) 1)) (.need (I.cutb (I.rem n 10) (I.add (I.rem n 10) 1) (I.len (α := UInt8) (Array.toList (List.toArray ([48, 49, 50, 51, 52, 53, 54, 55, 56, 57] : List UInt8))))) (.need (I.hid (α := (Prop)) (And (LE.le (0 : Int) (I.quo n 10)) (LT.lt (I.quo n 10) (1000000 : Int)))) (.need (I.few (I.add (I.len (α := UInt8) (I.hid (α := (List UInt8)) (Go.Proofs.YtmmfcghieefoaaaDoor.txtN 10 6 (Int.toNat (I.quo n 10))))) (I.len (α := UInt8) (I.cut (α := UInt8) (Array.toList (List.toArray ([48, 49, 50, 51, 52, 53, 54, 55, 56, 57] : List UInt8))) (I.rem n 10) (I.add (I.rem n 10) 1)))) 1000000000) (.fin (.ret (.v (.one (.p (.str (I.app (α := UInt8) (I.hid (α := (List UInt8)) (Go.Proofs.YtmmfcghieefoaaaDoor.txtN 10 6 (Int.toNat (I.quo n 10)))) (I.cut (α := UInt8) (Array.toList (List.toArray ([48, 49, 50, 51, 52, 53, 54, 55, 56, 57] : List UInt8))) (I.rem n 10) (I.add (I.rem n 10) 1)))))))) []))))))))))) (by kernel_rfl) ?_
  simp only [inst_need, inst_br, inst_both, inst_fin, inst_qed, inst_stop, inst_code]
  subst hI
  simp only [alg_b2i, alg_i2b, alg_add, alg_sub, alg_mul, alg_quo, alg_rem, alg_wrap, alg_imin, alg_imax, alg_ilt, alg_ile, alg_ieq, alg_bnot, alg_beq, alg_ban, alg_seq, alg_len, alg_app, alg_cut, alg_get, alg_set, alg_rep, alg_inr, alg_inb, alg_cutb, alg_same, alg_few, alg_nne, alg_nng, alg_hid, alg_shl, alg_shr, alg_bits, decide_eq_true_eq, decide_eq_false_iff_not, beq_iff_eq, beq_eq_false_iff_ne, Bool.not_eq_true', Bool.not_eq_false', and_true, true_and, ne_eq, Int.toNat_zero, Nat.sub_zero, List.drop_zero, i64_min, i64_max, u8_min, u8_max, ofNat_b2i, b2i_inj, Int.toNat_natCast, Int.ofNat_eq_natCast, UInt8.ofNat_toNat, AOut.ret.injEq, D.v.injEq, D.tup.injEq, V0.one.injEq, C.p.injEq, P.bool.injEq, P.int.injEq, P.str.injEq, Bool.false_eq_true, Bool.true_eq_false, imp_false, Decidable.not_not, not_true_eq_false, not_false_eq_true]
  obtain ⟨m, rfl⟩ : ∃ m : Nat, n = m := ⟨n.toNat, by omega⟩
  rw [Int.toNat_natCast] at hr
  have e1 : (m : Int).tdiv 10 = ((m / 10 : Nat) : Int) := by rw [Int.tdiv_eq_ediv_of_nonneg (by omega)]; omega
  have e2 : (m : Int).tmod 10 = ((m % 10 : Nat) : Int) := by rw [Int.tmod_eq_emod_of_nonneg (by omega)]; omega
  have e3 : m < 10 → (([48, 49, 50, 51, 52, 53, 54, 55, 56, 57] : Str).drop m).take (((m : Int) + 1).toNat - m) = r := fun h => by
    rw [show ((m : Int) + 1).toNat - m = 1 by omega, dig10 h, ← hr, txtN_one h]
  have e4 : (([48, 49, 50, 51, 52, 53, 54, 55, 56, 57] : Str).drop (m % 10)).take ((((m % 10 : Nat) : Int) + 1).toNat - m % 10) = [dgN (m % 10)] := by
    rw [show (((m % 10 : Nat) : Int) + 1).toNat - m % 10 = 1 by omega, dig10 (Nat.mod_lt _ (by decide))]
  have e5 : ¬ m < 10 → txtN 10 6 (m / 10) ++ [dgN (m % 10)] = r := fun h => by rw [← hr, txtN_more h]
  have hl := txtN_len 10 6 (m / 10)
  have hl2 := txtN_len 10 6 (m % 10)
  have e6 : 0 < 6 → txtN 10 6 (m % 10) = [dgN (m % 10)] := fun h => by first | exact absurd h (by decide) | exact txtN_one (f := 5) (Nat.mod_lt _ (by decide))
  generalize hH : ([48, 49, 50, 51, 52, 53, 54, 55, 56, 57] : Str) = H at *
  have hHl : H.length = 10 := by rw [← hH]; rfl
  simp only [e1, e2, Int.toNat_natCast, e4, List.length_cons, List.length_nil]
  (repeat' (first | refine And.intro ?_ ?_ | intro _)) <;> try omega
  all_goals first
    | exact e3 (by omega)
    | exact e5 (by omega)
    | (rw [e6 (by decide)]; exact e5 (by omega))
    | (exfalso; omega)
def num7__c (I : Alg) (args : List D) (hp : List HO) : Option CR := match args, hp with
  | [.v (.one (.p (.int .i64 n)))], [] => (fun (n : Int) => (some ⟨I.hid (0 ≤ n ∧ n < 10000000), (.ret (.v (.one (.p (.str (I.hid (txtN 10 7 n.toNat))))))), []⟩ : Option CR)) n
  | _, _ => none
theorem num7__g : GoodC Tryd.prog 12 (num7__c alg) := by
  intro args hp r h hn
  unfold num7__c at h
  split at h
  · cases h; exact num7_ _ hn
  · cases h
def num7__k : Know Tryd.prog := ⟨12, num7__c, num7__g⟩
def num7__l : Know Tryd.prog := ⟨12, fun I => lendC I (num7__c I), lendC_good num7__g⟩

theorem num8_ (n : Int) (hneed : 0 ≤ n ∧ n < 100000000) : Spc Tryd.prog 12 [.v (.one (.p (.int .i64 n)))] [] (.ret (.v (.one (.p (.str (txtN 10 8 n.toNat)))))) [] := by
  generalize hr : txtN 10 8 n.toNat = r
  refine spcG tab_ok mixed Tryd.func12 (by kernel_rfl) { keep := some [0, 2] } [num7__k, num0__k, num0__l, num1__k, num1__l, num2__k, num2__l, num3__k, num3__l, num4__k, num4__l, num5__k, num5__l, num6__k, num6__l, num7__k, num7__l] (by kernel_rfl) ?_
  intro I X hI hX
  refine ev_rule (.br (I.ilt n 0) (.need (I.inr Go.IntKind.i64 (I.sub 0 n)) (.need (I.hid (α := (Prop)) (And (LE.le (0 : Int) (I.sub 0 n)) (LT.lt (I.sub 0 n) (10000000 : Int)))) (.need (I.few (I.add (I.len (α := UInt8) (Array.toList (List.toArray ([45] : List UInt8)))) (I.len (α := UInt8) (I.hid (α := (List UInt8)) (Go.Proofs.YtmmfcghieefoaaaDoor.txtN 10 7 (Int.toNat (I.sub 0 n)))))) 1000000000) (.fin (.ret (.v (.one (.p (.str (I.app (α := UInt8) (Array.toList (List.toArray ([45] : List UInt8))) (I.hid (α := (List UInt8)) (Go.Proofs.YtmmfcghieefoaaaDoor.txtN 10 7 (Int.toNat (I.sub 0 n)))))))))) [])))) (.br (I.ilt n 10) (.need (I.inr Go.IntKind.i64 (I.add n 1)) (.need (I.cutb n (I.add n 1) (I.len (α := UInt8) (Array.toList (List.toArray ([48, 49, 50, 51, 52, 53, 54, 55, 56, 57] : List UInt8))))) (.fin (.ret (.v (.one (.p (.str (I.cut (α := UInt8) (Array.toList (List.toArray ([48, 49, 50, 51, 52, 53, 54, 55, 56, 57] : List UInt8))) n (I.add n 1))))))) []))) (.need (I.nne 10) (.need (I.inr Go.IntKind.i64 (I.quo n 10)) (.need (I.nne 10) (.need (I.nne 10) (.need (I.inr Go.IntKind.i64 (I.add (I.rem n 10) 1)) (.need (I.cutb (I.rem n 10) (I.add (I.rem n 10) 1) (I.len (α := UInt8) (Array.toList (List.toArray ([48, 49, 50, 51, 52, 53, 54, 55, 56, 57] : List UInt8))))) (.need (I.hid (α := (Prop)) (And (LE.le (0 : Int) (I.quo n 10)) (LT.lt (I.quo n 10) (10000000 : Int)))) (.need (I.few (I.add (I.len (α := UInt8) (I.hid (α := (List UInt8)) (Go.Proofs.YtmmfcghieefoaaaDoor.txtN 10 7 (Int.toNat (I.quo n 10))))) (I.len (α := UInt8) (I.cut (α := UInt8) (Array.toList (List.toArray ([48, 49, 50, 51, 52, 53, 54, 55, 56, 57] : List UInt8))) (I.rem n 10) (I.add (I.rem n 10) 1)))) 1000000000) (.fin (.ret (.v (.one (.p (.str (I.app (α := UInt8) (I.hid (α := (List UInt8)) (Go.Proofs.YtmmfcghieefoaaaDoor.txtN 10 7 (Int.toNat (I.quo n 10)))) (I.cut (α := UInt8) (Array.toList (List.toArray ([48, 49, 50, 51, 52, 53, 54, 55, 56, 57] : List UInt8))) (I.rem n 10) (I.add (I.rem n 10) 1)))))))) []))))))))))) (by kernel_rfl) ?_
  simp only [inst_need, inst_br, inst_both, inst_fin, inst_qed, inst_stop, inst_code]
  subst hI
  simp only [alg_b2i, alg_i2b, alg_add, alg_sub, alg_mul, alg_quo, alg_rem, alg_wrap, alg_imin, alg_imax, alg_ilt, alg_ile, alg_ieq, alg_bnot, alg_beq, alg_ban, alg_seq, alg_len, alg_app, alg_cut, alg_get, alg_set, alg_rep, alg_inr, alg_inb, alg_cutb, alg_same, alg_few, alg_nne, alg_nng, alg_hid, alg_shl, alg_shr, alg_bits, decide_eq_true_eq, decide_eq_false_iff_not, beq_iff_eq, beq_eq_false_iff_ne, Bool.not_eq_true', Bool.not_eq_false', and_true, true_and, ne_eq, Int.toNat_zero, Nat.sub_zero, List.drop_zero, i64_min, i64_max, u8_min, u8_max, ofNat_b2i, b2i_inj, Int.toNat_natCast, Int.ofNat_eq_natCast, UInt8.ofNat_toNat, AOut.ret.injEq, D.v.injEq, D.tup.injEq, V0.one.injEq, C.p.injEq, P.bool.injEq, P.int.injEq, P.str.injEq, Bool.false_eq_true, Bool.true_eq_false, imp_false, Decidable.not_not, not_true_eq_false, not_false_eq_true]
  obtain ⟨m, rfl⟩ : ∃ m : Nat, n = m := ⟨n.toNat, by omega⟩
  rw [Int.toNat_natCast] at hr
  have e1 : (m : Int).tdiv 10 = ((m / 10 : Nat) : Int) := by rw [Int.tdiv_eq_ediv_of_nonneg (by omega)]; omega
  have e2 : (m : Int).tmod 10 = ((m % 10 : Nat) : Int) := by rw [Int.tmod_eq_emod_of_nonneg (by omega)]; omega
  have e3 : m < 10 → (([48, 49, 50, 51, 52, 53, 54, 55, 56, 57] : Str).drop m).take (((m : Int) + 1).toNat - m) = r := fun h => by
    rw [show ((m : Int) + 1).toNat - m = 1 by omega, dig10 h, ← hr, txtN_one h]
  have e4 : (([48, 49, 50, 51, 52, 53, 54, 55, 56, 57] : Str).drop (m % 10)).take ((((m % 10 : Nat) : Int) + 1).toNat - m % 10) = [dgN (m % 10)] := by
    rw [show (((m % 10 : Nat) : Int) + 1).toNat - m % 10 = 1 by omega, dig10 (Nat.mod_lt _ (by decide))]
  have e5 : ¬ m < 10 → txtN 10 7 (m / 10) ++ [dgN (m % 10)] = r := fun h => by rw [← hr, txtN_more h]
  have hl := txtN_len 10 7 (m / 10)
  have hl2 := txtN_len 10 7 (m % 10)
  have e6 : 0 < 7 → txtN 10 7 (m % 10) = [dgN (m % 10)] := fun h => by first | exact absurd h (by decide) | exact txtN_one (f := 6) (Nat.mod_lt _ (by decide))
  generalize hH : ([48, 49, 50, 51, 52, 53, 54, 55, 56, 57] : Str) = H at *
  have hHl : H.length = 10 := by rw [← hH]; rfl
  simp only [e1, e2, Int.toNat_natCast, e4, List.length_cons, List.length_nil]
  (repeat' (first | refine And.intro ?_ ?_ | intro _)) <;> try omega
  all_goals first
    | exact e3 (by omega)
    | exact e5 (by omega)
    | (rw [e6 (by decide)]; exact e5 (by omega))
    | (exfalso; omega)
def num8__c (I : Alg) (args : List D) (hp : List HO) : Option CR := match args, hp with
  | [.v (.one (.p (.int .i64 n)))], [] => (fun (n : Int) => (some ⟨I.hid (0 ≤ n ∧ n < 100000000), (.ret (.v (.one (.p (.str (I.hid (txtN 10 8 n.toNat))))))), []⟩ : Option CR)) n
  | _, _ => none
theorem num8__g : GoodC Tryd.prog 12 (num8__c alg) := by
  intro args hp r h hn
  unfold num8__c at h
  split at h
  · cases h; exact num8_ _ hn
  · cases h
def num8__k : Know Tryd.prog := ⟨12, num8__c, num8__g⟩
def num8__l : Know Tryd.prog := ⟨12, fun I => lendC I (num8__c I), lendC_good num8__g⟩

theorem num9_ (n : Int) (hneed : 0 ≤ n ∧ n < 1000000000) : Spc Tryd.prog 12 [.v (.one (.p (.int .i64 n)))] [] (.ret (.v (.one (.p (.str (txtN 10 9 n.toNat)))))) [] := by
  generalize hr : txtN 10 9 n.toNat = r
  refine spcG tab_ok mixed Tryd.func12 (by kernel_rfl) { keep := some [0, 2] } [num8__k, num0__k, num0__l, num1__k, num1__l, num2__k, num2__l, num3__k, num3__l, num4__k, num4__l, num5__k, num5__l, num6__k, num6__l, num7__k, num7__l, num8__k, num8__l] (by kernel_rfl) ?_
  intro I X hI hX
  refine ev_rule (.br (I.ilt n 0) (.need (I.inr Go.IntKind.i64 (I.sub 0 n)) (.need (I.hid (α := (Prop)) (And (LE.le (0 : Int) (I.sub 0 n)) (LT.lt (I.sub 0 n) (100000000 : Int)))) (.need (I.few (I.add (I.len (α := UInt8) (Array.toList (List.toArray ([45] : List UInt8)))) (I.len (α := UInt8) (I.hid (α := (List UInt8)) (Go.Proofs.YtmmfcghieefoaaaDoor.txtN 10 8 (Int.toNat (I.sub 0 n)))))) 1000000000) (.fin (.ret (.v (.one (.p (.str (I.app (α := UInt8) (Array.toList (List.toArray ([45] : List UInt8))) (I.hid (α := (List UInt8)) (Go.Proofs.YtmmfcghieefoaaaDoor.txtN 10 8 (Int.toNat (I.sub 0 n)))))))))) [])))) (.br (I.ilt n 10) (.need (I.inr Go.IntKind.i64 (I.add n 1)) (.need (I.cutb n (I.add n 1) (I.len (α := UInt8) (Array.toList (List.toArray ([48, 49, 50, 51, 52, 53, 54, 55, 56, 57] : List UInt8))))) (.fin (.ret (.v (.one (.p (.str (I.cut (α := UInt8) (Array.toList (List.toArray ([48, 49, 50, 51, 52, 53, 54, 55, 56, 57] : List UInt8))) n (I.add n 1))))))) []))) (.need (I.nne 10) (.need (I.inr Go.IntKind.i64 (I.quo n 10)) (.need (I.nne 10) (.need (I.nne 10) (.need (I.inr Go.IntKind.i64 (I.add (I.rem n 10) 1)) (.need (I.cutb (I.rem n 10) (I.add (I.rem n 10) 1) (I.len (α := UInt8) (Array.toList (List.toArray ([48, 49, 50, 51, 52, 53, 54, 55, 56, 57] : List UInt8))))) (.need (I.hid (α := (Prop)) (And (LE.le (0 : Int) (I.quo n 10)) (LT.lt (I.quo n 10) (100000000 : Int)))) (.need (I.few (I.add (I.len (α := UInt8) (I.hid (α := (List UInt8)) (Go.Proofs.YtmmfcghieefoaaaDoor.txtN 10 8 (Int.toNat (I.quo n 10))))) (I.len (α := UInt8) (I.cut (α := UInt8) (Array.toList (List.toArray ([48, 49, 50, 51, 52, 53, 54, 55, 56, 57] : List UInt8))) (I.rem n 10) (I.add (I.rem n 10) 1)))) 1000000000) (.fin (.ret (.v (.one (.p (.str (I.app (α := UInt8) (I.hid (α := (List UInt8)) (Go.Proofs.YtmmfcghieefoaaaDoor.txtN 10 8 (Int.toNat (I.quo n 10)))) (I.cut (α := UInt8) (Array.toList (List.toArray ([48, 49, 50, 51, 52, 53, 54, 55, 56, 57] : List UInt8))) (I.rem n 10) (I.add (I.rem n 10) 1)))))))) []))))))))))) (by kernel_rfl) ?_
  simp only [inst_need, inst_br, inst_both, inst_fin, inst_qed, inst_stop, inst_code]
  subst hI
  simp only [alg_b2i, alg_i2b, alg_add, alg_sub, alg_mul, alg_quo, alg_rem, alg_wrap, alg_imin, alg_imax, alg_ilt, alg_ile, alg_ieq, alg_bnot, alg_beq, alg_ban, alg_seq, alg_len, alg_app, alg_cut, alg_get, alg_set, alg_rep, alg_inr, alg_inb, alg_cutb, alg_same, alg_few, alg_nne, alg_nng, alg_hid, alg_shl, alg_shr, alg_bits, decide_eq_true_eq, decide_eq_false_iff_not, beq_iff_eq, beq_eq_false_iff_ne, Bool.not_eq_true', Bool.not_eq_false', and_true, true_and, ne_eq, Int.toNat_zero, Nat.sub_zero, List.drop_zero, i64_min, i64_max, u8_min, u8_max, ofNat_b2i, b2i_inj, Int.toNat_natCast, Int.ofNat_eq_natCast, UInt8.ofNat_toNat, AOut.ret.injEq, D.v.injEq, D.tup.injEq, V0.one.injEq, C.p.injEq, P.bool.injEq, P.int.injEq, P.str.injEq, Bool.false_eq_true, Bool.true_eq_false, imp_false, Decidable.not_not, not_true_eq_false, not_false_eq_true]
  obtain ⟨m, rfl⟩ : ∃ m : Nat, n = m := ⟨n.toNat, by omega⟩
  rw [Int.toNat_natCast] at hr
  have e1 : (m : Int).tdiv 10 = ((m / 10 : Nat) : Int) := by rw [Int.tdiv_eq_ediv_of_nonneg (by omega)]; omega
  have e2 : (m : Int).tmod 10 = ((m % 10 : Nat) : Int) := by rw [Int.tmod_eq_emod_of_nonneg (by omega)]; omega
  have e3 : m < 10 → (([48, 49, 50, 51, 52, 53, 54, 55, 56, 57] : Str).drop m).take (((m : Int) + 1).toNat - m) = r := fun h => by
    rw [show ((m : Int) + 1).toNat - m = 1 by omega, dig10 h, ← hr, txtN_one h]
  have e4 : (([48, 49, 50, 51, 52, 53, 54, 55, 56, 57] : Str).drop (m % 10)).take ((((m % 10 : Nat) : Int) + 1).toNat - m % 10) = [dgN (m % 10)] := by
    rw [show (((m % 10 : Nat) : Int) + 1).toNat - m % 10 = 1 by omega, dig10 (Nat.mod_lt _ (by decide))]
  have e5 : ¬ m < 10 → txtN 10 8 (m / 10) ++ [dgN (m % 10)] = r := fun h => by rw [← hr, txtN_more h]
  have hl := txtN_len 10 8 (m / 10)
  have hl2 := txtN_len 10 8 (m % 10)
  have e6 : 0 < 8 → txtN 10 8 (m % 10) = [dgN (m % 10)] := fun h => by first | exact absurd h (by decide) | exact txtN_one (f := 7) (Nat.mod_lt _ (by decide))
  generalize hH : ([48, 49, 50, 51, 52, 53, 54, 55, 56, 57] : Str) = H at *
  have hHl : H.length = 10 := by rw [← hH]; rfl
  simp only [e1, e2, Int.toNat_natCast, e4, List.length_cons, List.length_nil]
  (repeat' (first | refine And.intro ?_ ?_ | intro _)) <;> try omega
  all_goals first
    | exact e3 (by omega)
    | exact e5 (by omega)
    | (rw [e6 (by decide)]; exact e5 (by omega))
    | (exfalso; omega)
def num9__c (I : Alg) (args : List D) (hp : List HO) : Option CR := match args, hp with
  | [.v (.one (.p (.int .i64 n)))], [] => (fun (n : Int) => (some ⟨I.hid (0 ≤ n ∧ n < 1000000000), (.ret (.v (.one (.p (.str (I.hid (txtN 10 9 n.toNat))))))), []⟩ : Option CR)) n
  | _, _ => none
theorem num9__g : GoodC Tryd.prog 12 (num9__c alg) := by
  intro args hp r h hn
  unfold num9__c at h
  split at h
  · cases h; exact num9_ _ hn
  · cases h
def num9__k : Know Tryd.prog := ⟨12, num9__c, num9__g⟩
def num9__l : Know Tryd.prog := ⟨12, fun I => lendC I (num9__c I), lendC_good num9__g⟩

theorem htx1_ (n : Int) (hneed : 0 ≤ n ∧ n < 16) : Spc Tryd.prog 14 [.v (.one (.p (.int .i64 n)))] [] (.ret (.v (.one (.p (.str (txtN 16 1 n.toNat)))))) [] := by
  generalize hr : txtN 16 1 n.toNat = r
  refine spcG tab_ok mixed Tryd.func14 (by kernel_rfl) { keep := some [0, 2] } [htx0__k, htx0__k, htx0__l] (by kernel_rfl) ?_
  intro I X hI hX
  refine ev_rule (.br (I.ilt n 16) (.need (I.inr Go.IntKind.i64 (I.add n 1)) (.need (I.cutb n (I.add n 1) (I.len (α := UInt8) (Array.toList (List.toArray ([48, 49, 50, 51, 52, 53, 54, 55, 56, 57, 97, 98, 99, 100, 101, 102] : List UInt8))))) (.fin (.ret (.v (.one (.p (.str (I.cut (α := UInt8) (Array.toList (List.toArray ([48, 49, 50, 51, 52, 53, 54, 55, 56, 57, 97, 98, 99, 100, 101, 102] : List UInt8))) n (I.add n 1))))))) []))) (.need (I.nne 16) (.need (I.inr Go.IntKind.i64 (I.quo n 16)) (.need (I.hid (α := (Prop)) False) (.need (I.nne 16) (.need (I.hid (α := (Prop)) False) (.need (I.few (I.add (I.len (α := UInt8) (I.hid (α := (List UInt8)) ([] : List UInt8))) (I.len (α := UInt8) (I.hid (α := (List UInt8)) ([] : List UInt8)))) 1000000000) (.fin (.ret (.v (.one (.p (.str (I.app (α := UInt8) (I.hid (α := (List UInt8)) ([] : List UInt8)) (I.hid (α := (List UInt8)) ([] : List UInt8)))))))) [])))))))) (by kernel_rfl) ?_
  simp only [inst_need, inst_br, inst_both, inst_fin, inst_qed, inst_stop, inst_code]
  subst hI
  simp only [alg_b2i, alg_i2b, alg_add, alg_sub, alg_mul, alg_quo, alg_rem, alg_wrap, alg_imin, alg_imax, alg_ilt, alg_ile, alg_ieq, alg_bnot, alg_beq, alg_ban, alg_seq, alg_len, alg_app, alg_cut, alg_get, alg_set, alg_rep, alg_inr, alg_inb, alg_cutb, alg_same, alg_few, alg_nne, alg_nng, alg_hid, alg_shl, alg_shr, alg_bits, decide_eq_true_eq, decide_eq_false_iff_not, beq_iff_eq, beq_eq_false_iff_ne, Bool.not_eq_true', Bool.not_eq_false', and_true, true_and, ne_eq, Int.toNat_zero, Nat.sub_zero, List.drop_zero, i64_min, i64_max, u8_min, u8_max, ofNat_b2i, b2i_inj, Int.toNat_natCast, Int.ofNat_eq_natCast, UInt8.ofNat_toNat, AOut.ret.injEq, D.v.injEq, D.tup.injEq, V0.one.injEq, C.p.injEq, P.bool.injEq, P.int.injEq, P.str.injEq, Bool.false_eq_true, Bool.true_eq_false, imp_false, Decidable.not_not, not_true_eq_false, not_false_eq_true]
  obtain ⟨m, rfl⟩ : ∃ m : Nat, n = m := ⟨n.toNat, by omega⟩
  rw [Int.toNat_natCast] at hr
  have e1 : (m : Int).tdiv 16 = ((m / 16 : Nat) : Int) := by rw [Int.tdiv_eq_ediv_of_nonneg (by omega)]; omega
  have e2 : (m : Int).tmod 16 = ((m % 16 : Nat) : Int) := by rw [Int.tmod_eq_emod_of_nonneg (by omega)]; omega
  have e3 : m < 16 → (([48, 49, 50, 51, 52, 53, 54, 55, 56, 57, 97, 98, 99, 100, 101, 102] : Str).drop m).take (((m : Int) + 1).toNat - m) = r := fun h => by
    rw [show ((m : Int) + 1).toNat - m = 1 by omega, dig16 h, ← hr, txtN_one h]
  have e4 : (([48, 49, 50, 51, 52, 53, 54, 55, 56, 57, 97, 98, 99, 100, 101, 102] : Str).drop (m % 16)).take ((((m % 16 : Nat) : Int) + 1).toNat - m % 16) = [dgN (m % 16)] := by
    rw [show (((m % 16 : Nat) : Int) + 1).toNat - m % 16 = 1 by omega, dig16 (Nat.mod_lt _ (by decide))]
  have e5 : ¬ m < 16 → txtN 16 0 (m / 16) ++ [dgN (m % 16)] = r := fun h => by rw [← hr, txtN_more h]
  have hl := txtN_len 16 0 (m / 16)
  have hl2 := txtN_len 16 0 (m % 16)
  have e6 : 0 < 0 → txtN 16 0 (m % 16) = [dgN (m % 16)] := fun h => by first | exact absurd h (by decide) | exact txtN_one (f := 0) (Nat.mod_lt _ (by decide))
  generalize hH : ([48, 49, 50, 51, 52, 53, 54, 55, 56, 57, 97, 98, 99, 100, 101, 102] : Str) = H at *
  have hHl : H.length = 16 := by rw [← hH]; rfl
  simp only [e1, e2, Int.toNat_natCast, e4, List.length_cons, List.length_nil]
  (repeat' (first | refine And.intro ?_ ?_ | intro _)) <;> try omega
  all_goals first
    | exact e3 (by omega)
    | exact e5 (by omega)
    | (rw [e6 (by decide)]; exact e5 (by omega))
    | (exfalso; omega)
def htx1__c (I : Alg) (args : List D) (hp : List HO) : Option CR := match args, hp with
  | [.v (.one (.p (.int .i64 n)))], [] => (fun (n : Int) => (some ⟨I.hid (0 ≤ n ∧ n < 16), (.ret (.v (.one (.p (.str (I.hid (txtN 16 1 n.toNat))))))), []⟩ : Option CR)) n
  | _, _ => none
theorem htx1__g : GoodC Tryd.prog 14 (htx1__c alg) := by
  intro args hp r h hn
  unfold htx1__c at h
  split at h
  · cases h; exact htx1_ _ hn
  · cases h
def htx1__k : Know Tryd.prog := ⟨14, htx1__c, htx1__g⟩
def htx1__l : Know Tryd.prog := ⟨14, fun I => lendC I (htx1__c I), lendC_good htx1__g⟩

theorem htx2_ (n : Int) (hneed : 0 ≤ n ∧ n < 256) : Spc Tryd.prog 14 [.v (.one (.p (.int .i64 n)))] [] (.ret (.v (.one (.p (.str (txtN 16 2 n.toNat)))))) [] := by
  generalize hr : txtN 16 2 n.toNat = r
  refine spcG tab_ok mixed Tryd.func14 (by kernel_rfl) { keep := some [0, 2] } [htx1__k, htx0__k, htx0__l, htx1__k, htx1__l] (by kernel_rfl) ?_
  intro I X hI hX
  refine ev_rule (.br (I.ilt n 16) (.need (I.inr Go.IntKind.i64 (I.add n 1)) (.need (I.cutb n (I.add n 1) (I.len (α := UInt8) (Array.toList (List.toArray ([48, 49, 50, 51, 52, 53, 54, 55, 56, 57, 97, 98, 99, 100, 101, 102] : List UInt8))))) (.fin (.ret (.v (.one (.p (.str (I.cut (α := UInt8) (Array.toList (List.toArray ([48, 49, 50, 51, 52, 53, 54, 55, 56, 57, 97, 98, 99, 100, 101, 102] : List UInt8))) n (I.add n 1))))))) []))) (.need (I.nne 16) (.need (I.inr Go.IntKind.i64 (I.quo n 16)) (.need (I.hid (α := (Prop)) (And (LE.le (0 : Int) (I.quo n 16)) (LT.lt (I.quo n 16) (16 : Int)))) (.need (I.nne 16) (.need (I.hid (α := (Prop)) (And (LE.le (0 : Int) (I.rem n 16)) (LT.lt (I.rem n 16) (16 : Int)))) (.need (I.few (I.add (I.len (α := UInt8) (I.hid (α := (List UInt8)) (Go.Proofs.YtmmfcghieefoaaaDoor.txtN 16 1 (Int.toNat (I.quo n 16))))) (I.len (α := UInt8) (I.hid (α := (List UInt8)) (Go.Proofs.YtmmfcghieefoaaaDoor.txtN 16 1 (Int.toNat (I.rem n 16)))))) 1000000000) (.fin (.ret (.v (.one (.p (.str (I.app (α := UInt8) (I.hid (α := (List UInt8)) (Go.Proofs.YtmmfcghieefoaaaDoor.txtN 16 1 (Int.toNat (I.quo n 16)))) (I.hid (α := (List UInt8)) (Go.Proofs.YtmmfcghieefoaaaDoor.txtN 16 1 (Int.toNat (I.rem n 16)))))))))) [])))))))) (by kernel_rfl) ?_
  simp only [inst_need, inst_br, inst_both, inst_fin, inst_qed, inst_stop, inst_code]
  subst hI
  simp only [alg_b2i, alg_i2b, alg_add, alg_sub, alg_mul, alg_quo, alg_rem, alg_wrap, alg_imin, alg_imax, alg_ilt, alg_ile, alg_ieq, alg_bnot, alg_beq, alg_ban, alg_seq, alg_len, alg_app, alg_cut, alg_get, alg_set, alg_rep, alg_inr, alg_inb, alg_cutb, alg_same, alg_few, alg_nne, alg_nng, alg_hid, alg_shl, alg_shr, alg_bits, decide_eq_true_eq, decide_eq_false_iff_not, beq_iff_eq, beq_eq_false_iff_ne, Bool.not_eq_true', Bool.not_eq_false', and_true, true_and, ne_eq, Int.toNat_zero, Nat.sub_zero, List.drop_zero, i64_min, i64_max, u8_min, u8_max, ofNat_b2i, b2i_inj, Int.toNat_natCast, Int.ofNat_eq_natCast, UInt8.ofNat_toNat, AOut.ret.injEq, D.v.injEq, D.tup.injEq, V0.one.injEq, C.p.injEq, P.bool.injEq, P.int.injEq, P.str.injEq, Bool.false_eq_true, Bool.true_eq_false, imp_false, Decidable.not_not, not_true_eq_false, not_false_eq_true]
  obtain ⟨m, rfl⟩ : ∃ m : Nat, n = m := ⟨n.toNat, by omega⟩
  rw [Int.toNat_natCast] at hr
  have e1 : (m : Int).tdiv 16 = ((m / 16 : Nat) : Int) := by rw [Int.tdiv_eq_ediv_of_nonneg (by omega)]; omega
  have e2 : (m : Int).tmod 16 = ((m % 16 : Nat) : Int) := by rw [Int.tmod_eq_emod_of_nonneg (by omega)]; omega
  have e3 : m < 16 → (([48, 49, 50, 51, 52, 53, 54, 55, 56, 57, 97, 98, 99, 100, 101, 102] : Str).drop m).take (((m : Int) + 1).toNat - m) = r := fun h => by
    rw [show ((m : Int) + 1).toNat - m = 1 by omega, dig16 h, ← hr, txtN_one h]
  have e4 : (([48, 49, 50, 51, 52, 53, 54, 55, 56, 57, 97, 98, 99, 100, 101, 102] : Str).drop (m % 16)).take ((((m % 16 : Nat) : Int) + 1).toNat - m % 16) = [dgN (m % 16)] := by
    rw [show (((m % 16 : Nat) : Int) + 1).toNat - m % 16 = 1 by omega, dig16 (Nat.mod_lt _ (by decide))]
  have e5 : ¬ m < 16 → txtN 16 1 (m / 16) ++ [dgN (m % 16)] = r := fun h => by rw [← hr, txtN_more h]
  have hl := txtN_len 16 1 (m / 16)
  have hl2 := txtN_len 16 1 (m % 16)
  have e6 : 0 < 1 → txtN 16 1 (m % 16) = [dgN (m % 16)] := fun h => by first | exact absurd h (by decide) | exact txtN_one (f := 0) (Nat.mod_lt _ (by decide))
  generalize hH : ([48, 49, 50, 51, 52, 53, 54, 55, 56, 57, 97, 98, 99, 100, 101, 102] : Str) = H at *
  have hHl : H.length = 16 := by rw [← hH]; rfl
  simp only [e1, e2, Int.toNat_natCast, e4, List.length_cons, List.length_nil]
  (repeat' (first | refine And.intro ?_ ?_ | intro _)) <;> try omega
  all_goals first
    | exact e3 (by omega)
    | exact e5 (by omega)
    | (rw [e6 (by decide)]; exact e5 (by omega))
    | (exfalso; omega)
def htx2__c (I : Alg) (args : List D) (hp : List HO) : Option CR := match args, hp with
  | [.v (.one (.p (.int .i64 n)))], [] => (fun (n : Int) => (some ⟨I.hid (0 ≤ n ∧ n < 256), (.ret (.v (.one (.p (.str (I.hid (txtN 16 2 n.toNat))))))), []⟩ : Option CR)) n
  | _, _ => none
theorem htx2__g : GoodC Tryd.prog 14 (htx2__c alg) := by
  intro args hp r h hn
  unfold htx2__c at h
  split at h
  · cases h; exact htx2_ _ hn
  · cases h
def htx2__k : Know Tryd.prog := ⟨14, htx2__c, htx2__g⟩
def htx2__l : Know Tryd.prog := ⟨14, fun I => lendC I (htx2__c I), lendC_good htx2__g⟩

theorem htx3_ (n : Int) (hneed : 0 ≤ n ∧ n < 4096) : Spc Tryd.prog 14 [.v (.one (.p (.int .i64 n)))] [] (.ret (.v (.one (.p (.str (txtN 16 3 n.toNat)))))) [] := by
  generalize hr : txtN 16 3 n.toNat = r
  refine spcG tab_ok mixed Tryd.func14 (by kernel_rfl) { keep := some [0, 2] } [htx2__k, htx0__k, htx0__l, htx1__k, htx1__l, htx2__k, htx2__l] (by kernel_rfl) ?_
  intro I X hI hX
  refine ev_rule (.br (I.ilt n 16) (.need (I.inr Go.IntKind.i64 (I.add n 1)) (.need (I.cutb n (I.add n 1) (I.len (α := UInt8) (Array.toList (List.toArray ([48, 49, 50, 51, 52, 53, 54, 55, 56, 57, 97, 98, 99, 100, 101, 102] : List UInt8))))) (.fin (.ret (.v (.one (.p (.str (I.cut (α := UInt8) (Array.toList (List.toArray ([48, 49, 50, 51, 52, 53, 54, 55, 56, 57, 97, 98, 99, 100, 101, 102] : List UInt8))) n (I.add n 1))))))) []))) (.need (I.nne 16) (.need (I.inr Go.IntKind.i64 (I.quo n 16)) (.need (I.hid (α := (Prop)) (And (LE.le (0 : Int) (I.quo n 16)) (LT.lt (I.quo n 16) (256 : Int)))) (.need (I.nne 16) (.need (I.hid (α := (Prop)) (And (LE.le (0 : Int) (I.rem n 16)) (LT.lt (I.rem n 16) (256 : Int)))) (.need (I.few (I.add (I.len (α := UInt8) (I.hid (α := (List UInt8)) (Go.Proofs.YtmmfcghieefoaaaDoor.txtN 16 2 (Int.toNat (I.quo n 16))))) (I.len (α := UInt8) (I.hid (α := (List UInt8)) (Go.Proofs.YtmmfcghieefoaaaDoor.txtN 16 2 (Int.toNat (I.rem n 16)))))) 1000000000) (.fin (.ret (.v (.one (.p (.str (I.app (α := UInt8) (I.hid (α := (List UInt8)) (Go.Proofs.YtmmfcghieefoaaaDoor.txtN 16 2 (Int.toNat (I.quo n 16)))) (I.hid (α := (List UInt8)) (Go.Proofs.YtmmfcghieefoaaaDoor.txtN 16 2 (Int.toNat (I.rem n 16)))))))))) [])))))))) (by kernel_rfl) ?_
  simp only [inst_need, inst_br, inst_both, inst_fin, inst_qed, inst_stop, inst_code]
  subst hI
  simp only [alg_b2i, alg_i2b, alg_add, alg_sub, alg_mul, alg_quo, alg_rem, alg_wrap, alg_imin, alg_imax, alg_ilt, alg_ile, alg_ieq, alg_bnot, alg_beq, alg_ban, alg_seq, alg_len, alg_app, alg_cut, alg_get, alg_set, alg_rep, alg_inr, alg_inb, alg_cutb, alg_same, alg_few, alg_nne, alg_nng, alg_hid, alg_shl, alg_shr, alg_bits, decide_eq_true_eq, decide_eq_false_iff_not, beq_iff_eq, beq_eq_false_iff_ne, Bool.not_eq_true', Bool.not_eq_false', and_true, true_and, ne_eq, Int.toNat_zero, Nat.sub_zero, List.drop_zero, i64_min, i64_max, u8_min, u8_max, ofNat_b2i, b2i_inj, Int.toNat_natCast, Int.ofNat_eq_natCast, UInt8.ofNat_toNat, AOut.ret.injEq, D.v.injEq, D.tup.injEq, V0.one.injEq, C.p.injEq, P.bool.injEq, P.int.injEq, P.str.injEq, Bool.false_eq_true, Bool.true_eq_false, imp_false, Decidable.not_not, not_true_eq_false, not_false_eq_true]
  obtain ⟨m, rfl⟩ : ∃ m : Nat, n = m := ⟨n.toNat, by omega⟩
  rw [Int.toNat_natCast] at hr
  have e1 : (m : Int).tdiv 16 = ((m / 16 : Nat) : Int) := by rw [Int.tdiv_eq_ediv_of_nonneg (by omega)]; omega
  have e2 : (m : Int).tmod 16 = ((m % 16 : Nat) : Int) := by rw [Int.tmod_eq_emod_of_nonneg (by omega)]; omega
  have e3 : m < 16 → (([48, 49, 50, 51, 52, 53, 54, 55, 56, 57, 97, 98, 99, 100, 101, 102] : Str).drop m).take (((m : Int) + 1).toNat - m) = r := fun h => by
    rw [show ((m : Int) + 1).toNat - m = 1 by omega, dig16 h, ← hr, txtN_one h]
  have e4 : (([48, 49, 50, 51, 52, 53, 54, 55, 56, 57, 97, 98, 99, 100, 101, 102] : Str).drop (m % 16)).take ((((m % 16 : Nat) : Int) + 1).toNat - m % 16) = [dgN (m % 16)] := by
    rw [show (((m % 16 : Nat) : Int) + 1).toNat - m % 16 = 1 by omega, dig16 (Nat.mod_lt _ (by decide))]
  have e5 : ¬ m < 16 → txtN 16 2 (m / 16) ++ [dgN (m % 16)] = r := fun h => by rw [← hr, txtN_more h]
  have hl := txtN_len 16 2 (m / 16)
  have hl2 := txtN_len 16 2 (m % 16)
  have e6 : 0 < 2 → txtN 16 2 (m % 16) = [dgN (m % 16)] := fun h => by first | exact absurd h (by decide) | exact txtN_one (f := 1) (Nat.mod_lt _ (by decide))
  generalize hH : ([48, 49, 50, 51, 52, 53, 54, 55, 56, 57, 97, 98, 99, 100, 101, 102] : Str) = H at *
  have hHl : H.length = 16 := by rw [← hH]; rfl
  simp only [e1, e2, Int.toNat_natCast, e4, List.length_cons, List.length_nil]
  (repeat' (first | refine And.intro ?_ ?_ | intro _)) <;> try omega
  all_goals first
    | exact e3 (by omega)
    | exact e5 (by omega)
    | (rw [e6 (by decide)]; exact e5 (by omega))
    | (exfalso; omega)
def htx3__c (I : Alg) (args : List D) (hp : List HO) : Option CR := match args, hp with
  | [.v (.one (.p (.int .i64 n)))], [] => (fun (n : Int) => (some ⟨I.hid (0 ≤ n ∧ n < 4096), (.ret (.v (.one (.p (.str (I.hid (txtN 16 3 n.toNat))))))), []⟩ : Option CR)) n
  | _, _ => none
theorem htx3__g : GoodC Tryd.prog 14 (htx3__c alg) := by
  intro args hp r h hn
  unfold htx3__c at h
  split at h
  · cases h; exact htx3_ _ hn
  · cases h
def htx3__k : Know Tryd.prog := ⟨14, htx3__c, htx3__g⟩
def htx3__l : Know Tryd.prog := ⟨14, fun I => lendC I (htx3__c I), lendC_good htx3__g⟩

theorem htx4_ (n : Int) (hneed : 0 ≤ n ∧ n < 65536) : Spc Tryd.prog 14 [.v (.one (.p (.int .i64 n)))] [] (.ret (.v (.one (.p (.str (txtN 16 4 n.toNat)))))) [] := by
  generalize hr : txtN 16 4 n.toNat = r
  refine spcG tab_ok mixed Tryd.func14 (by kernel_rfl) { keep := some [0, 2] } [htx3__k, htx0__k, htx0__l, htx1__k, htx1__l, htx2__k, htx2__l, htx3__k, htx3__l] (by kernel_rfl) ?_
  intro I X hI hX
  refine ev_rule (.br (I.ilt n 16) (.need (I.inr Go.IntKind.i64 (I.add n 1)) (.need (I.cutb n (I.add n 1) (I.len (α := UInt8) (Array.toList (List.toArray ([48, 49, 50, 51, 52, 53, 54, 55, 56, 57, 97, 98, 99, 100, 101, 102] : List UInt8))))) (.fin (.ret (.v (.one (.p (.str (I.cut (α := UInt8) (Array.toList (List.toArray ([48, 49, 50, 51, 52, 53, 54, 55, 56, 57, 97, 98, 99, 100, 101, 102] : List UInt8))) n (I.add n 1))))))) []))) (.need (I.nne 16) (.need (I.inr Go.IntKind.i64 (I.quo n 16)) (.need (I.hid (α := (Prop)) (And (LE.le (0 : Int) (I.quo n 16)) (LT.lt (I.quo n 16) (4096 : Int)))) (.need (I.nne 16) (.need (I.hid (α := (Prop)) (And (LE.le (0 : Int) (I.rem n 16)) (LT.lt (I.rem n 16) (4096 : Int)))) (.need (I.few (I.add (I.len (α := UInt8) (I.hid (α := (List UInt8)) (Go.Proofs.YtmmfcghieefoaaaDoor.txtN 16 3 (Int.toNat (I.quo n 16))))) (I.len (α := UInt8) (I.hid (α := (List UInt8)) (Go.Proofs.YtmmfcghieefoaaaDoor.txtN 16 3 (Int.toNat (I.rem n 16)))))) 1000000000) (.fin (.ret (.v (.one (.p (.str (I.app (α := UInt8) (I.hid (α := (List UInt8)) (Go.Proofs.YtmmfcghieefoaaaDoor.txtN 16 3 (Int.toNat (I.quo n 16)))) (I.hid (α := (List UInt8)) (Go.Proofs.YtmmfcghieefoaaaDoor.txtN 16 3 (Int.toNat (I.rem n 16)))))))))) [])))))))) (by kernel_rfl) ?_
  simp only [inst_need, inst_br, inst_both, inst_fin, inst_qed, inst_stop, inst_code]
  subst hI
  simp only [alg_b2i, alg_i2b, alg_add, alg_sub, alg_mul, alg_quo, alg_rem, alg_wrap, alg_imin, alg_imax, alg_ilt, alg_ile, alg_ieq, alg_bnot, alg_beq, alg_ban, alg_seq, alg_len, alg_app, alg_cut, alg_get, alg_set, alg_rep, alg_inr, alg_inb, alg_cutb, alg_same, alg_few, alg_nne, alg_nng, alg_hid, alg_shl, alg_shr, alg_bits, decide_eq_true_eq, decide_eq_false_iff_not, beq_iff_eq, beq_eq_false_iff_ne, Bool.not_eq_true', Bool.not_eq_false', and_true, true_and, ne_eq, Int.toNat_zero, Nat.sub_zero, List.drop_zero, i64_min, i64_max, u8_min, u8_max, ofNat_b2i, b2i_inj, Int.toNat_natCast, Int.ofNat_eq_natCast, UInt8.ofNat_toNat, AOut.ret.injEq, D.v.injEq, D.tup.injEq, V0.one.injEq, C.p.injEq, P.bool.injEq, P.int.injEq, P.str.injEq, Bool.false_eq_true, Bool.true_eq_false, imp_false, Decidable.not_not, not_true_eq_false, not_false_eq_true]
  obtain ⟨m, rfl⟩ : ∃ m : Nat, n = m := ⟨n.toNat, by omega⟩
  rw [Int.toNat_natCast] at hr
  have e1 : (m : Int).tdiv 16 = ((m / 16 : Nat) : Int) := by rw [Int.tdiv_eq_ediv_of_nonneg (by omega)]; omega
  have e2 : (m : Int).tmod 16 = ((m % 16 : Nat) : Int) := by rw [Int.tmod_eq_emod_of_nonneg (by omega)]; omega
  have e3 : m < 16 → (([48, 49, 50, 51, 52, 53, 54, 55, 56, 57, 97, 98, 99, 100, 101, 102] : Str).drop m).take (((m : Int) + 1).toNat - m) = r := fun h => by
    rw [show ((m : Int) + 1).toNat - m = 1 by omega, dig16 h, ← hr, txtN_one h]
  have e4 : (([48, 49, 50, 51, 52, 53, 54, 55, 56, 57, 97, 98, 99, 100, 101, 102] : Str).drop (m % 16)).take ((((m % 16 : Nat) : Int) + 1).toNat - m % 16) = [dgN (m % 16)] := by
    rw [show (((m % 16 : Nat) : Int) + 1).toNat - m % 16 = 1 by omega, dig16 (Nat.mod_lt _ (by decide))]
  have e5 : ¬ m < 16 → txtN 16 3 (m / 16) ++ [dgN (m % 16)] = r := fun h => by rw [← hr, txtN_more h]
  have hl := txtN_len 16 3 (m / 16)
  have hl2 := txtN_len 16 3 (m % 16)
  have e6 : 0 < 3 → txtN 16 3 (m % 16) = [dgN (m % 16)] := fun h => by first | exact absurd h (by decide) | exact txtN_one (f := 2) (Nat.mod_lt _ (by decide))
  generalize hH : ([48, 49, 50, 51, 52, 53, 54, 55, 56, 57, 97, 98, 99, 100, 101, 102] : Str) = H at *
  have hHl : H.length = 16 := by rw [← hH]; rfl
  simp only [e1, e2, Int.toNat_natCast, e4, List.length_cons, List.length_nil]
  (repeat' (first | refine And.intro ?_ ?_ | intro _)) <;> try omega
  all_goals first
    | exact e3 (by omega)
    | exact e5 (by omega)
    | (rw [e6 (by decide)]; exact e5 (by omega))
    | (exfalso; omega)
def htx4__c (I : Alg) (args : List D) (hp : List HO) : Option CR := match args, hp with
  | [.v (.one (.p (.int .i64 n)))], [] => (fun (n : Int) => (some ⟨I.hid (0 ≤ n ∧ n < 65536), (.ret (.v (.one (.p (.str (I.hid (txtN 16 4 n.toNat))))))), []⟩ : Option CR)) n
  | _, _ => none
theorem htx4__g : GoodC Tryd.prog 14 (htx4__c alg) := by
  intro args hp r h hn
  unfold htx4__c at h
  split at h
  · cases h; exact htx4_ _ hn
  · cases h
def htx4__k : Know Tryd.prog := ⟨14, htx4__c, htx4__g⟩
def htx4__l : Know Tryd.prog := ⟨14, fun I => lendC I (htx4__c I), lendC_good htx4__g⟩

theorem htx5_ (n : Int) (hneed : 0 ≤ n ∧ n < 1048576) : Spc Tryd.prog 14 [.v (.one (.p (.int .i64 n)))] [] (.ret (.v (.one (.p (.str (txtN 16 5 n.toNat)))))) [] := by
  generalize hr : txtN 16 5 n.toNat = r
  refine spcG tab_ok mixed Tryd.func14 (by kernel_rfl) { keep := some [0, 2] } [htx4__k, htx0__k, htx0__l, htx1__k, htx1__l, htx2__k, htx2__l, htx3__k, htx3__l, htx4__k, htx4__l] (by kernel_rfl) ?_
  intro I X hI hX
  refine ev_rule (.br (I.ilt n 16) (.need (I.inr Go.IntKind.i64 (I.add n 1)) (.need (I.cutb n (I.add n 1) (I.len (α := UInt8) (Array.toList (List.toArray ([48, 49, 50, 51, 52, 53, 54, 55, 56, 57, 97, 98, 99, 100, 101, 102] : List UInt8))))) (.fin (.ret (.v (.one (.p (.str (I.cut (α := UInt8) (Array.toList (List.toArray ([48, 49, 50, 51, 52, 53, 54, 55, 56, 57, 97, 98, 99, 100, 101, 102] : List UInt8))) n (I.add n 1))))))) []))) (.need (I.nne 16) (.need (I.inr Go.IntKind.i64 (I.quo n 16)) (.need (I.hid (α := (Prop)) (And (LE.le (0 : Int) (I.quo n 16)) (LT.lt (I.quo n 16) (65536 : Int)))) (.need (I.nne 16) (.need (I.hid (α := (Prop)) (And (LE.le (0 : Int) (I.rem n 16)) (LT.lt (I.rem n 16) (65536 : Int)))) (.need (I.few (I.add (I.len (α := UInt8) (I.hid (α := (List UInt8)) (Go.Proofs.YtmmfcghieefoaaaDoor.txtN 16 4 (Int.toNat (I.quo n 16))))) (I.len (α := UInt8) (I.hid (α := (List UInt8)) (Go.Proofs.YtmmfcghieefoaaaDoor.txtN 16 4 (Int.toNat (I.rem n 16)))))) 1000000000) (.fin (.ret (.v (.one (.p (.str (I.app (α := UInt8) (I.hid (α := (List UInt8)) (Go.Proofs.YtmmfcghieefoaaaDoor.txtN 16 4 (Int.toNat (I.quo n 16)))) (I.hid (α := (List UInt8)) (Go.Proofs.YtmmfcghieefoaaaDoor.txtN 16 4 (Int.toNat (I.rem n 16)))))))))) [])))))))) (by kernel_rfl) ?_
  simp only [inst_need, inst_br, inst_both, inst_fin, inst_qed, inst_stop, inst_code]
  subst hI
  simp only [alg_b2i, alg_i2b, alg_add, alg_sub, alg_mul, alg_quo, alg_rem, alg_wrap, alg_imin, alg_imax, alg_ilt, alg_ile, alg_ieq, alg_bnot, alg_beq, alg_ban, alg_seq, alg_len, alg_app, alg_cut, alg_get, alg_set, alg_rep, alg_inr, alg_inb, alg_cutb, alg_same, alg_few, alg_nne, alg_nng, alg_hid, alg_shl, alg_shr, alg_bits, decide_eq_true_eq, decide_eq_false_iff_not, beq_iff_eq, beq_eq_false_iff_ne, Bool.not_eq_true', Bool.not_eq_false', and_true, true_and, ne_eq, Int.toNat_zero, Nat.sub_zero, List.drop_zero, i64_min, i64_max, u8_min, u8_max, ofNat_b2i, b2i_inj, Int.toNat_natCast, Int.ofNat_eq_natCast, UInt8.ofNat_toNat, AOut.ret.injEq, D.v.injEq, D.tup.injEq, V0.one.injEq, C.p.injEq, P.bool.injEq, P.int.injEq, P.str.injEq, Bool.false_eq_true, Bool.true_eq_false, imp_false, Decidable.not_not, not_true_eq_false, not_false_eq_true]
  obtain ⟨m, rfl⟩ : ∃ m : Nat, n = m := ⟨n.toNat, by omega⟩
  rw [Int.toNat_natCast] at hr
  have e1 : (m : Int).tdiv 16 = ((m / 16 : Nat) : Int) := by rw [Int.tdiv_eq_ediv_of_nonneg (by omega)]; omega
  have e2 : (m : Int).tmod 16 = ((m % 16 : Nat) : Int) := by rw [Int.tmod_eq_emod_of_nonneg (by omega)]; omega
  have e3 : m < 16 → (([48, 49, 50, 51, 52, 53, 54, 55, 56, 57, 97, 98, 99, 100, 101, 102] : Str).drop m).take (((m : Int) + 1).toNat - m) = r := fun h => by
    rw [show ((m : Int) + 1).toNat - m = 1 by omega, dig16 h, ← hr, txtN_one h]
  have e4 : (([48, 49, 50, 51, 52, 53, 54, 55, 56, 57, 97, 98, 99, 100, 101, 102] : Str).drop (m % 16)).take ((((m % 16 : Nat) : Int) + 1).toNat - m % 16) = [dgN (m % 16)] := by
    rw [show (((m % 16 : Nat) : Int) + 1).toNat - m % 16 = 1 by omega, dig16 (Nat.mod_lt _ (by decide))]
  have e5 : ¬ m < 16 → txtN 16 4 (m / 16) ++ [dgN (m % 16)] = r := fun h => by rw [← hr, txtN_more h]
  have hl := txtN_len 16 4 (m / 16)
  have hl2 := txtN_len 16 4 (m % 16)
  have e6 : 0 < 4 → txtN 16 4 (m % 16) = [dgN (m % 16)] := fun h => by first | exact absurd h (by decide) | exact txtN_one (f := 3) (Nat.mod_lt _ (by decide))
  generalize hH : ([48, 49, 50, 51, 52, 53, 54, 55, 56, 57, 97, 98, 99, 100, 101, 102] : Str) = H at *
  have hHl : H.length = 16 := by rw [← hH]; rfl
  simp only [e1, e2, Int.toNat_natCast, e4, List.length_cons, List.length_nil]
  (repeat' (first | refine And.intro ?_ ?_ | intro _)) <;> try omega
  all_goals first
    | exact e3 (by omega)
    | exact e5 (by omega)
    | (rw [e6 (by decide)]; exact e5 (by omega))
    | (exfalso; omega)
def htx5__c (I : Alg) (args : List D) (hp : List HO) : Option CR := match args, hp with
  | [.v (.one (.p (.int .i64 n)))], [] => (fun (n : Int) => (some ⟨I.hid (0 ≤ n ∧ n < 1048576), (.ret (.v (.one (.p (.str (I.hid (txtN 16 5 n.toNat))))))), []⟩ : Option CR)) n
  | _, _ => none
theorem htx5__g : GoodC Tryd.prog 14 (htx5__c alg) := by
  intro args hp r h hn
  unfold htx5__c at h
  split at h
  · cases h; exact htx5_ _ hn
  · cases h
def htx5__k : Know Tryd.prog := ⟨14, htx5__c, htx5__g⟩
def htx5__l : Know Tryd.prog := ⟨14, fun I => lendC I (htx5__c I), lendC_good htx5__g⟩

theorem htx6_ (n : Int) (hneed : 0 ≤ n ∧ n < 16777216) : Spc Tryd.prog 14 [.v (.one (.p (.int .i64 n)))] [] (.ret (.v (.one (.p (.str (txtN 16 6 n.toNat)))))) [] := by
  generalize hr : txtN 16 6 n.toNat = r
  refine spcG tab_ok mixed Tryd.func14 (by kernel_rfl) { keep := some [0, 2] } [htx5__k, htx0__k, htx0__l, htx1__k, htx1__l, htx2__k, htx2__l, htx3__k, htx3__l, htx4__k, htx4__l, htx5__k, htx5__l] (by kernel_rfl) ?_
  intro I X hI hX
  refine ev_rule (.br (I.ilt n 16) (.need (I.inr Go.IntKind.i64 (I.add n 1)) (.need (I.cutb n (I.add n 1) (I.len (α := UInt8) (Array.toList (List.toArray ([48, 49, 50, 51, 52, 53, 54, 55, 56, 57, 97, 98, 99, 100, 101, 102] : List UInt8))))) (.fin (.ret (.v (.one (.p (.str (I.cut (α := UInt8) (Array.toList (List.toArray ([48, 49, 50, 51, 52, 53, 54, 55, 56, 57, 97, 98, 99, 100, 101, 102] : List UInt8))) n (I.add n 1))))))) []))) (.need (I.nne 16) (.need (I.inr Go.IntKind.i64 (I.quo n 16)) (.need (I.hid (α := (Prop)) (And (LE.le (0 : Int) (I.quo n 16)) (LT.lt (I.quo n 16) (1048576 : Int)))) (.need (I.nne 16) (.need (I.hid (α := (Prop)) (And (LE.le (0 : Int) (I.rem n 16)) (LT.lt (I.rem n 16) (1048576 : Int)))) (.need (I.few (I.add (I.len (α := UInt8) (I.hid (α := (List UInt8)) (Go.Proofs.YtmmfcghieefoaaaDoor.txtN 16 5 (Int.toNat (I.quo n 16))))) (I.len (α := UInt8) (I.hid (α := (List UInt8)) (Go.Proofs.YtmmfcghieefoaaaDoor.txtN 16 5 (Int.toNat (I.rem n 16)))))) 1000000000) (.fin (.ret (.v (.one (.p (.str (I.app (α := UInt8) (I.hid (α := (List UInt8)) (Go.Proofs.YtmmfcghieefoaaaDoor.txtN 16 5 (Int.toNat (I.quo n 16)))) (I.hid (α := (List UInt8)) (Go.Proofs.YtmmfcghieefoaaaDoor.txtN 16 5 (Int.toNat (I.rem n 16)))))))))) [])))))))) (by kernel_rfl) ?_
  simp only [inst_need, inst_br, inst_both, inst_fin, inst_qed, inst_stop, inst_code]
  subst hI
  simp only [alg_b2i, alg_i2b, alg_add, alg_sub, alg_mul, alg_quo, alg_rem, alg_wrap, alg_imin, alg_imax, alg_ilt, alg_ile, alg_ieq, alg_bnot, alg_beq, alg_ban, alg_seq, alg_len, alg_app, alg_cut, alg_get, alg_set, alg_rep, alg_inr, alg_inb, alg_cutb, alg_same, alg_few, alg_nne, alg_nng, alg_hid, alg_shl, alg_shr, alg_bits, decide_eq_true_eq, decide_eq_false_iff_not, beq_iff_eq, beq_eq_false_iff_ne, Bool.not_eq_true', Bool.not_eq_false', and_true, true_and, ne_eq, Int.toNat_zero, Nat.sub_zero, List.drop_zero, i64_min, i64_max, u8_min, u8_max, ofNat_b2i, b2i_inj, Int.toNat_natCast, Int.ofNat_eq_natCast, UInt8.ofNat_toNat, AOut.ret.injEq, D.v.injEq, D.tup.injEq, V0.one.injEq, C.p.injEq, P.bool.injEq, P.int.injEq, P.str.injEq, Bool.false_eq_true, Bool.true_eq_false, imp_false, Decidable.not_not, not_true_eq_false, not_false_eq_true]
  obtain ⟨m, rfl⟩ : ∃ m : Nat, n = m := ⟨n.toNat, by omega⟩
  rw [Int.toNat_natCast] at hr
  have e1 : (m : Int).tdiv 16 = ((m / 16 : Nat) : Int) := by rw [Int.tdiv_eq_ediv_of_nonneg (by omega)]; omega
  have e2 : (m : Int).tmod 16 = ((m % 16 : Nat) : Int) := by rw [Int.tmod_eq_emod_of_nonneg (by omega)]; omega
  have e3 : m < 16 → (([48, 49, 50, 51, 52, 53, 54, 55, 56, 57, 97, 98, 99, 100, 101, 102] : Str).drop m).take (((m : Int) + 1).toNat - m) = r := fun h => by
    rw [show ((m : Int) + 1).toNat - m = 1 by omega, dig16 h, ← hr, txtN_one h]
  have e4 : (([48, 49, 50, 51, 52, 53, 54, 55, 56, 57, 97, 98, 99, 100, 101, 102] : Str).drop (m % 16)).take ((((m % 16 : Nat) : Int) + 1).toNat - m % 16) = [dgN (m % 16)] := by
    rw [show (((m % 16 : Nat) : Int) + 1).toNat - m % 16 = 1 by omega, dig16 (Nat.mod_lt _ (by decide))]
  have e5 : ¬ m < 16 → txtN 16 5 (m / 16) ++ [dgN (m % 16)] = r := fun h => by rw [← hr, txtN_more h]
  have hl := txtN_len 16 5 (m / 16)
  have hl2 := txtN_len 16 5 (m % 16)
  have e6 : 0 < 5 → txtN 16 5 (m % 16) = [dgN (m % 16)] := fun h => by first | exact absurd h (by decide) | exact txtN_one (f := 4) (Nat.mod_lt _ (by decide))
  generalize hH : ([48, 49, 50, 51, 52, 53, 54, 55, 56, 57, 97, 98, 99, 100, 101, 102] : Str) = H at *
  have hHl : H.length = 16 := by rw [← hH]; rfl
  simp only [e1, e2, Int.toNat_natCast, e4, List.length_cons, List.length_nil]
  (repeat' (first | refine And.intro ?_ ?_ | intro _)) <;> try omega
  all_goals first
    | exact e3 (by omega)
    | exact e5 (by omega)
    | (rw [e6 (by decide)]; exact e5 (by omega))
    | (exfalso; omega)
def htx6__c (I : Alg) (args : List D) (hp : List HO) : Option CR := match args, hp with
  | [.v (.one (.p (.int .i64 n)))], [] => (fun (n : Int) => (some ⟨I.hid (0 ≤ n ∧ n < 16777216), (.ret (.v (.one (.p (.str (I.hid (txtN 16 6 n.toNat))))))), []⟩ : Option CR)) n
  | _, _ => none
theorem htx6__g : GoodC Tryd.prog 14 (htx6__c alg) := by
  intro args hp r h hn
  unfold htx6__c at h
  split at h
  · cases h; exact htx6_ _ hn
  · cases h
def htx6__k : Know Tryd.prog := ⟨14, htx6__c, htx6__g⟩
def htx6__l : Know Tryd.prog := ⟨14, fun I => lendC I (htx6__c I), lendC_good htx6__g⟩
end Go.Proofs.YtmmfcghieefoaaaDoor
