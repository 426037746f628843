/- A number's decimal text: strconv.Itoa, and the document's own Num (up to four digits). -/
import Derived.Test.YtjapkdcomcgamaaDoorChrC
import Derived.Lib.ItoaNum
set_option linter.all false
namespace Go.Proofs.YtjapkdcomcgamaaDoor
open Go Go.Sep Go.Ab
set_option maxRecDepth 100000

/-- A number's text to a base. -/
def txtN (base : Nat) : Nat → Nat → Str
  | 0, _ => []
  | f + 1, n => if n < base then [if n < 10 then UInt8.ofNat (48 + n) else UInt8.ofNat (87 + n)] else txtN base f (n / base) ++ [if n % base < 10 then UInt8.ofNat (48 + n % base) else UInt8.ofNat (87 + n % base)]
-- the chain
def dgN (d : Nat) : UInt8 := if d < 10 then UInt8.ofNat (48 + d) else UInt8.ofNat (87 + d)
theorem dig10 {d : Nat} (h : d < 10) : (([48, 49, 50, 51, 52, 53, 54, 55, 56, 57] : Str).drop d).take 1 = [dgN d] := (by decide +kernel : ∀ d : Fin 10, (([48, 49, 50, 51, 52, 53, 54, 55, 56, 57] : Str).drop d.1).take 1 = [dgN d.1]) ⟨d, h⟩
theorem txtN_one {base f n : Nat} (h : n < base) : txtN base (f + 1) n = [dgN n] := by rw [txtN, if_pos h]; rfl
theorem txtN_more {base f n : Nat} (h : ¬ n < base) : txtN base (f + 1) n = txtN base f (n / base) ++ [dgN (n % base)] := by rw [txtN, if_neg h]; rfl
theorem txtN_len (base : Nat) : ∀ f n, (txtN base f n).length ≤ f
  | 0, _ => Nat.le_refl _
  | f + 1, n => by
    rw [txtN]
    split
    · simp
    · have := txtN_len base f (n / base)
      rw [List.length_append]; simp; omega

theorem num0_ (n : Int) (hneed : False) : Spc Tryd.prog 44 [.v (.one (.p (.int .i64 n)))] [] (.ret (.v (.one (.p (.str ([])))))) [] := hneed.elim
def num0__c (I : Alg) (args : List D) (hp : List HO) : Option CT := match args, hp with
  | [.v (.one (.p (.int .i64 n)))], [] => (fun (n : Int) => (some (.one ⟨I.hid (False), (.ret (.v (.one (.p (.str (I.hid ([]))))))), []⟩) : Option CT)) n
  | _, _ => none
theorem num0__g : GoodC Tryd.prog 44 (num0__c alg) := by
  intro args hp r h
  unfold num0__c at h
  split at h
  · cases h; exact fun hn => num0_ _ hn
  · cases h
def num0__k : Know Tryd.prog := ⟨44, num0__c, num0__g⟩
def num0__l : Know Tryd.prog := ⟨44, fun I => lendC I (num0__c I), lendC_good num0__g⟩

theorem num1_ (n : Int) (hneed : 0 ≤ n ∧ n < 10) : Spc Tryd.prog 44 [.v (.one (.p (.int .i64 n)))] [] (.ret (.v (.one (.p (.str (txtN 10 1 n.toNat)))))) [] := by
  generalize hr : txtN 10 1 n.toNat = r
  refine spcG tab_ok mixed Tryd.func44 (by kernel_rfl) { keep := some [0, 2] } [num0__k, num0__k, num0__l] (by kernel_rfl) ?_
  intro I X hI hX
  refine ev_rule (let y0 := I.cut (α := UInt8) (Array.toList (List.toArray ([48, 49, 50, 51, 52, 53, 54, 55, 56, 57] : List UInt8))) (I.rem n 10) (I.add (I.rem n 10) 1); let y1 := I.hid (α := (List UInt8)) ([] : List UInt8); let y2 := I.len (α := UInt8) (Array.toList (List.toArray ([48, 49, 50, 51, 52, 53, 54, 55, 56, 57] : List UInt8))); .br (I.ilt n 0) (.need (I.inr Go.IntKind.i64 (I.sub 0 n)) (.need (I.hid (α := (Prop)) False) (.need (I.few (I.add (I.len (α := UInt8) (Array.toList (List.toArray ([45] : List UInt8)))) (I.len (α := UInt8) y1)) 1000000000) (.fin (.ret (.v (.one (.p (.str (I.app (α := UInt8) (Array.toList (List.toArray ([45] : List UInt8))) y1)))))) [])))) (.br (I.ilt n 10) (.need (I.inr Go.IntKind.i64 (I.add n 1)) (.need (I.cutb n (I.add n 1) y2) (.fin (.ret (.v (.one (.p (.str (I.cut (α := UInt8) (Array.toList (List.toArray ([48, 49, 50, 51, 52, 53, 54, 55, 56, 57] : List UInt8))) n (I.add n 1))))))) []))) (.need (I.nne 10) (.need (I.inr Go.IntKind.i64 (I.quo n 10)) (.need (I.nne 10) (.need (I.nne 10) (.need (I.inr Go.IntKind.i64 (I.add (I.rem n 10) 1)) (.need (I.cutb (I.rem n 10) (I.add (I.rem n 10) 1) y2) (.need (I.hid (α := (Prop)) False) (.need (I.few (I.add (I.len (α := UInt8) y1) (I.len (α := UInt8) y0)) 1000000000) (.fin (.ret (.v (.one (.p (.str (I.app (α := UInt8) y1 y0)))))) []))))))))))) (by kernel_rfl) ?_
  simp only [inst_need, inst_br, inst_both, inst_fin, inst_qed, inst_stop, inst_code]
  subst hI
  simp only [alg_b2i, alg_i2b, alg_add, alg_sub, alg_mul, alg_quo, alg_rem, alg_wrap, alg_imin, alg_imax, alg_ilt, alg_ile, alg_ieq, alg_bnot, alg_beq, alg_ban, alg_seq, alg_len, alg_app, alg_cut, alg_get, alg_set, alg_rep, alg_inr, alg_inb, alg_cutb, alg_same, alg_few, alg_nne, alg_nng, alg_hid, alg_shl, alg_shr, alg_bits, decide_eq_true_eq, decide_eq_false_iff_not, beq_iff_eq, beq_eq_false_iff_ne, Bool.not_eq_true', Bool.not_eq_false', Bool.and_eq_true, Bool.and_true, Bool.true_and, and_true, true_and, ne_eq, Int.toNat_zero, Nat.sub_zero, List.drop_zero, i64_min, i64_max, u8_min, u8_max, ofNat_b2i, b2i_inj, Int.toNat_natCast, Int.ofNat_eq_natCast, UInt8.ofNat_toNat, AOut.ret.injEq, D.v.injEq, D.tup.injEq, V0.one.injEq, C.p.injEq, P.bool.injEq, P.int.injEq, P.str.injEq, Bool.false_eq_true, Bool.true_eq_false, imp_false, Decidable.not_not, not_true_eq_false, not_false_eq_true]
  obtain ⟨m, rfl⟩ : ∃ m : Nat, n = m := ⟨n.toNat, by omega⟩
  rw [Int.toNat_natCast] at hr
  have e1 : (m : Int).tdiv 10 = ((m / 10 : Nat) : Int) := by rw [Int.tdiv_eq_ediv_of_nonneg (by omega)]; omega
  have e2 : (m : Int).tmod 10 = ((m % 10 : Nat) : Int) := by rw [Int.tmod_eq_emod_of_nonneg (by omega)]; omega
  have e3 : m < 10 → (([48, 49, 50, 51, 52, 53, 54, 55, 56, 57] : Str).drop m).take (((m : Int) + 1).toNat - m) = r := fun h => by
    rw [show ((m : Int) + 1).toNat - m = 1 by omega, dig10 h, ← hr, txtN_one h]
  have e4 : (([48, 49, 50, 51, 52, 53, 54, 55, 56, 57] : Str).drop (m % 10)).take ((((m % 10 : Nat) : Int) + 1).toNat - m % 10) = [dgN (m % 10)] := by
    rw [show (((m % 10 : Nat) : Int) + 1).toNat - m % 10 = 1 by omega, dig10 (Nat.mod_lt _ (by decide))]
  have e5 : ¬ m < 10 → txtN 10 0 (m / 10) ++ [dgN (m % 10)] = r := fun h => by rw [← hr, txtN_more h]
  have hl := txtN_len 10 0 (m / 10)
  have hl2 := txtN_len 10 0 (m % 10)
  have e6 : 0 < 0 → txtN 10 0 (m % 10) = [dgN (m % 10)] := fun h => by first | exact absurd h (by decide) | exact txtN_one (f := 0) (Nat.mod_lt _ (by decide))
  generalize hH : ([48, 49, 50, 51, 52, 53, 54, 55, 56, 57] : Str) = H at *
  have hHl : H.length = 10 := by rw [← hH]; rfl
  simp only [e1, e2, Int.toNat_natCast, e4, List.length_cons, List.length_nil]
  (repeat' (first | refine And.intro ?_ ?_ | intro _)) <;> first | omega | exact True.intro | exact False.elim ‹False› | skip
  all_goals first
    | exact e3 (by omega)
    | exact e5 (by omega)
    | (rw [e6 (by decide)]; exact e5 (by omega))
    | (exfalso; omega)
def num1__c (I : Alg) (args : List D) (hp : List HO) : Option CT := match args, hp with
  | [.v (.one (.p (.int .i64 n)))], [] => (fun (n : Int) => (some (.one ⟨I.hid (0 ≤ n ∧ n < 10), (.ret (.v (.one (.p (.str (I.hid (txtN 10 1 n.toNat))))))), []⟩) : Option CT)) n
  | _, _ => none
theorem num1__g : GoodC Tryd.prog 44 (num1__c alg) := by
  intro args hp r h
  unfold num1__c at h
  split at h
  · cases h; exact fun hn => num1_ _ hn
  · cases h
def num1__k : Know Tryd.prog := ⟨44, num1__c, num1__g⟩
def num1__l : Know Tryd.prog := ⟨44, fun I => lendC I (num1__c I), lendC_good num1__g⟩

theorem num2_ (n : Int) (hneed : 0 ≤ n ∧ n < 100) : Spc Tryd.prog 44 [.v (.one (.p (.int .i64 n)))] [] (.ret (.v (.one (.p (.str (txtN 10 2 n.toNat)))))) [] := by
  generalize hr : txtN 10 2 n.toNat = r
  refine spcG tab_ok mixed Tryd.func44 (by kernel_rfl) { keep := some [0, 2] } [num1__k, num0__k, num0__l, num1__k, num1__l] (by kernel_rfl) ?_
  intro I X hI hX
  refine ev_rule (let y0 := I.cut (α := UInt8) (Array.toList (List.toArray ([48, 49, 50, 51, 52, 53, 54, 55, 56, 57] : List UInt8))) (I.rem n 10) (I.add (I.rem n 10) 1); let y1 := I.len (α := UInt8) (Array.toList (List.toArray ([48, 49, 50, 51, 52, 53, 54, 55, 56, 57] : List UInt8))); let y2 := I.hid (α := (List UInt8)) (txtN 10 1 (Int.toNat (I.quo n 10))); let y3 := I.hid (α := (List UInt8)) (txtN 10 1 (Int.toNat (I.sub 0 n))); .br (I.ilt n 0) (.need (I.inr Go.IntKind.i64 (I.sub 0 n)) (.need (I.hid (α := (Prop)) (And (LE.le (0 : Int) (I.sub 0 n)) (LT.lt (I.sub 0 n) (10 : Int)))) (.need (I.few (I.add (I.len (α := UInt8) (Array.toList (List.toArray ([45] : List UInt8)))) (I.len (α := UInt8) y3)) 1000000000) (.fin (.ret (.v (.one (.p (.str (I.app (α := UInt8) (Array.toList (List.toArray ([45] : List UInt8))) y3)))))) [])))) (.br (I.ilt n 10) (.need (I.inr Go.IntKind.i64 (I.add n 1)) (.need (I.cutb n (I.add n 1) y1) (.fin (.ret (.v (.one (.p (.str (I.cut (α := UInt8) (Array.toList (List.toArray ([48, 49, 50, 51, 52, 53, 54, 55, 56, 57] : List UInt8))) n (I.add n 1))))))) []))) (.need (I.nne 10) (.need (I.inr Go.IntKind.i64 (I.quo n 10)) (.need (I.nne 10) (.need (I.nne 10) (.need (I.inr Go.IntKind.i64 (I.add (I.rem n 10) 1)) (.need (I.cutb (I.rem n 10) (I.add (I.rem n 10) 1) y1) (.need (I.hid (α := (Prop)) (And (LE.le (0 : Int) (I.quo n 10)) (LT.lt (I.quo n 10) (10 : Int)))) (.need (I.few (I.add (I.len (α := UInt8) y2) (I.len (α := UInt8) y0)) 1000000000) (.fin (.ret (.v (.one (.p (.str (I.app (α := UInt8) y2 y0)))))) []))))))))))) (by kernel_rfl) ?_
  simp only [inst_need, inst_br, inst_both, inst_fin, inst_qed, inst_stop, inst_code]
  subst hI
  simp only [alg_b2i, alg_i2b, alg_add, alg_sub, alg_mul, alg_quo, alg_rem, alg_wrap, alg_imin, alg_imax, alg_ilt, alg_ile, alg_ieq, alg_bnot, alg_beq, alg_ban, alg_seq, alg_len, alg_app, alg_cut, alg_get, alg_set, alg_rep, alg_inr, alg_inb, alg_cutb, alg_same, alg_few, alg_nne, alg_nng, alg_hid, alg_shl, alg_shr, alg_bits, decide_eq_true_eq, decide_eq_false_iff_not, beq_iff_eq, beq_eq_false_iff_ne, Bool.not_eq_true', Bool.not_eq_false', Bool.and_eq_true, Bool.and_true, Bool.true_and, and_true, true_and, ne_eq, Int.toNat_zero, Nat.sub_zero, List.drop_zero, i64_min, i64_max, u8_min, u8_max, ofNat_b2i, b2i_inj, Int.toNat_natCast, Int.ofNat_eq_natCast, UInt8.ofNat_toNat, AOut.ret.injEq, D.v.injEq, D.tup.injEq, V0.one.injEq, C.p.injEq, P.bool.injEq, P.int.injEq, P.str.injEq, Bool.false_eq_true, Bool.true_eq_false, imp_false, Decidable.not_not, not_true_eq_false, not_false_eq_true]
  obtain ⟨m, rfl⟩ : ∃ m : Nat, n = m := ⟨n.toNat, by omega⟩
  rw [Int.toNat_natCast] at hr
  have e1 : (m : Int).tdiv 10 = ((m / 10 : Nat) : Int) := by rw [Int.tdiv_eq_ediv_of_nonneg (by omega)]; omega
  have e2 : (m : Int).tmod 10 = ((m % 10 : Nat) : Int) := by rw [Int.tmod_eq_emod_of_nonneg (by omega)]; omega
  have e3 : m < 10 → (([48, 49, 50, 51, 52, 53, 54, 55, 56, 57] : Str).drop m).take (((m : Int) + 1).toNat - m) = r := fun h => by
    rw [show ((m : Int) + 1).toNat - m = 1 by omega, dig10 h, ← hr, txtN_one h]
  have e4 : (([48, 49, 50, 51, 52, 53, 54, 55, 56, 57] : Str).drop (m % 10)).take ((((m % 10 : Nat) : Int) + 1).toNat - m % 10) = [dgN (m % 10)] := by
    rw [show (((m % 10 : Nat) : Int) + 1).toNat - m % 10 = 1 by omega, dig10 (Nat.mod_lt _ (by decide))]
  have e5 : ¬ m < 10 → txtN 10 1 (m / 10) ++ [dgN (m % 10)] = r := fun h => by rw [← hr, txtN_more h]
  have hl := txtN_len 10 1 (m / 10)
  have hl2 := txtN_len 10 1 (m % 10)
  have e6 : 0 < 1 → txtN 10 1 (m % 10) = [dgN (m % 10)] := fun h => by first | exact absurd h (by decide) | exact txtN_one (f := 0) (Nat.mod_lt _ (by decide))
  generalize hH : ([48, 49, 50, 51, 52, 53, 54, 55, 56, 57] : Str) = H at *
  have hHl : H.length = 10 := by rw [← hH]; rfl
  simp only [e1, e2, Int.toNat_natCast, e4, List.length_cons, List.length_nil]
  (repeat' (first | refine And.intro ?_ ?_ | intro _)) <;> first | omega | exact True.intro | exact False.elim ‹False› | skip
  all_goals first
    | exact e3 (by omega)
    | exact e5 (by omega)
    | (rw [e6 (by decide)]; exact e5 (by omega))
    | (exfalso; omega)
def num2__c (I : Alg) (args : List D) (hp : List HO) : Option CT := match args, hp with
  | [.v (.one (.p (.int .i64 n)))], [] => (fun (n : Int) => (some (.one ⟨I.hid (0 ≤ n ∧ n < 100), (.ret (.v (.one (.p (.str (I.hid (txtN 10 2 n.toNat))))))), []⟩) : Option CT)) n
  | _, _ => none
theorem num2__g : GoodC Tryd.prog 44 (num2__c alg) := by
  intro args hp r h
  unfold num2__c at h
  split at h
  · cases h; exact fun hn => num2_ _ hn
  · cases h
def num2__k : Know Tryd.prog := ⟨44, num2__c, num2__g⟩
def num2__l : Know Tryd.prog := ⟨44, fun I => lendC I (num2__c I), lendC_good num2__g⟩

theorem num3_ (n : Int) (hneed : 0 ≤ n ∧ n < 1000) : Spc Tryd.prog 44 [.v (.one (.p (.int .i64 n)))] [] (.ret (.v (.one (.p (.str (txtN 10 3 n.toNat)))))) [] := by
  generalize hr : txtN 10 3 n.toNat = r
  refine spcG tab_ok mixed Tryd.func44 (by kernel_rfl) { keep := some [0, 2] } [num2__k, num0__k, num0__l, num1__k, num1__l, num2__k, num2__l] (by kernel_rfl) ?_
  intro I X hI hX
  refine ev_rule (let y0 := I.cut (α := UInt8) (Array.toList (List.toArray ([48, 49, 50, 51, 52, 53, 54, 55, 56, 57] : List UInt8))) (I.rem n 10) (I.add (I.rem n 10) 1); let y1 := I.len (α := UInt8) (Array.toList (List.toArray ([48, 49, 50, 51, 52, 53, 54, 55, 56, 57] : List UInt8))); let y2 := I.hid (α := (List UInt8)) (txtN 10 2 (Int.toNat (I.quo n 10))); let y3 := I.hid (α := (List UInt8)) (txtN 10 2 (Int.toNat (I.sub 0 n))); .br (I.ilt n 0) (.need (I.inr Go.IntKind.i64 (I.sub 0 n)) (.need (I.hid (α := (Prop)) (And (LE.le (0 : Int) (I.sub 0 n)) (LT.lt (I.sub 0 n) (100 : Int)))) (.need (I.few (I.add (I.len (α := UInt8) (Array.toList (List.toArray ([45] : List UInt8)))) (I.len (α := UInt8) y3)) 1000000000) (.fin (.ret (.v (.one (.p (.str (I.app (α := UInt8) (Array.toList (List.toArray ([45] : List UInt8))) y3)))))) [])))) (.br (I.ilt n 10) (.need (I.inr Go.IntKind.i64 (I.add n 1)) (.need (I.cutb n (I.add n 1) y1) (.fin (.ret (.v (.one (.p (.str (I.cut (α := UInt8) (Array.toList (List.toArray ([48, 49, 50, 51, 52, 53, 54, 55, 56, 57] : List UInt8))) n (I.add n 1))))))) []))) (.need (I.nne 10) (.need (I.inr Go.IntKind.i64 (I.quo n 10)) (.need (I.nne 10) (.need (I.nne 10) (.need (I.inr Go.IntKind.i64 (I.add (I.rem n 10) 1)) (.need (I.cutb (I.rem n 10) (I.add (I.rem n 10) 1) y1) (.need (I.hid (α := (Prop)) (And (LE.le (0 : Int) (I.quo n 10)) (LT.lt (I.quo n 10) (100 : Int)))) (.need (I.few (I.add (I.len (α := UInt8) y2) (I.len (α := UInt8) y0)) 1000000000) (.fin (.ret (.v (.one (.p (.str (I.app (α := UInt8) y2 y0)))))) []))))))))))) (by kernel_rfl) ?_
  simp only [inst_need, inst_br, inst_both, inst_fin, inst_qed, inst_stop, inst_code]
  subst hI
  simp only [alg_b2i, alg_i2b, alg_add, alg_sub, alg_mul, alg_quo, alg_rem, alg_wrap, alg_imin, alg_imax, alg_ilt, alg_ile, alg_ieq, alg_bnot, alg_beq, alg_ban, alg_seq, alg_len, alg_app, alg_cut, alg_get, alg_set, alg_rep, alg_inr, alg_inb, alg_cutb, alg_same, alg_few, alg_nne, alg_nng, alg_hid, alg_shl, alg_shr, alg_bits, decide_eq_true_eq, decide_eq_false_iff_not, beq_iff_eq, beq_eq_false_iff_ne, Bool.not_eq_true', Bool.not_eq_false', Bool.and_eq_true, Bool.and_true, Bool.true_and, and_true, true_and, ne_eq, Int.toNat_zero, Nat.sub_zero, List.drop_zero, i64_min, i64_max, u8_min, u8_max, ofNat_b2i, b2i_inj, Int.toNat_natCast, Int.ofNat_eq_natCast, UInt8.ofNat_toNat, AOut.ret.injEq, D.v.injEq, D.tup.injEq, V0.one.injEq, C.p.injEq, P.bool.injEq, P.int.injEq, P.str.injEq, Bool.false_eq_true, Bool.true_eq_false, imp_false, Decidable.not_not, not_true_eq_false, not_false_eq_true]
  obtain ⟨m, rfl⟩ : ∃ m : Nat, n = m := ⟨n.toNat, by omega⟩
  rw [Int.toNat_natCast] at hr
  have e1 : (m : Int).tdiv 10 = ((m / 10 : Nat) : Int) := by rw [Int.tdiv_eq_ediv_of_nonneg (by omega)]; omega
  have e2 : (m : Int).tmod 10 = ((m % 10 : Nat) : Int) := by rw [Int.tmod_eq_emod_of_nonneg (by omega)]; omega
  have e3 : m < 10 → (([48, 49, 50, 51, 52, 53, 54, 55, 56, 57] : Str).drop m).take (((m : Int) + 1).toNat - m) = r := fun h => by
    rw [show ((m : Int) + 1).toNat - m = 1 by omega, dig10 h, ← hr, txtN_one h]
  have e4 : (([48, 49, 50, 51, 52, 53, 54, 55, 56, 57] : Str).drop (m % 10)).take ((((m % 10 : Nat) : Int) + 1).toNat - m % 10) = [dgN (m % 10)] := by
    rw [show (((m % 10 : Nat) : Int) + 1).toNat - m % 10 = 1 by omega, dig10 (Nat.mod_lt _ (by decide))]
  have e5 : ¬ m < 10 → txtN 10 2 (m / 10) ++ [dgN (m % 10)] = r := fun h => by rw [← hr, txtN_more h]
  have hl := txtN_len 10 2 (m / 10)
  have hl2 := txtN_len 10 2 (m % 10)
  have e6 : 0 < 2 → txtN 10 2 (m % 10) = [dgN (m % 10)] := fun h => by first | exact absurd h (by decide) | exact txtN_one (f := 1) (Nat.mod_lt _ (by decide))
  generalize hH : ([48, 49, 50, 51, 52, 53, 54, 55, 56, 57] : Str) = H at *
  have hHl : H.length = 10 := by rw [← hH]; rfl
  simp only [e1, e2, Int.toNat_natCast, e4, List.length_cons, List.length_nil]
  (repeat' (first | refine And.intro ?_ ?_ | intro _)) <;> first | omega | exact True.intro | exact False.elim ‹False› | skip
  all_goals first
    | exact e3 (by omega)
    | exact e5 (by omega)
    | (rw [e6 (by decide)]; exact e5 (by omega))
    | (exfalso; omega)
def num3__c (I : Alg) (args : List D) (hp : List HO) : Option CT := match args, hp with
  | [.v (.one (.p (.int .i64 n)))], [] => (fun (n : Int) => (some (.one ⟨I.hid (0 ≤ n ∧ n < 1000), (.ret (.v (.one (.p (.str (I.hid (txtN 10 3 n.toNat))))))), []⟩) : Option CT)) n
  | _, _ => none
theorem num3__g : GoodC Tryd.prog 44 (num3__c alg) := by
  intro args hp r h
  unfold num3__c at h
  split at h
  · cases h; exact fun hn => num3_ _ hn
  · cases h
def num3__k : Know Tryd.prog := ⟨44, num3__c, num3__g⟩
def num3__l : Know Tryd.prog := ⟨44, fun I => lendC I (num3__c I), lendC_good num3__g⟩

theorem num4_ (n : Int) (hneed : 0 ≤ n ∧ n < 10000) : Spc Tryd.prog 44 [.v (.one (.p (.int .i64 n)))] [] (.ret (.v (.one (.p (.str (txtN 10 4 n.toNat)))))) [] := by
  generalize hr : txtN 10 4 n.toNat = r
  refine spcG tab_ok mixed Tryd.func44 (by kernel_rfl) { keep := some [0, 2] } [num3__k, num0__k, num0__l, num1__k, num1__l, num2__k, num2__l, num3__k, num3__l] (by kernel_rfl) ?_
  intro I X hI hX
  refine ev_rule (let y0 := I.cut (α := UInt8) (Array.toList (List.toArray ([48, 49, 50, 51, 52, 53, 54, 55, 56, 57] : List UInt8))) (I.rem n 10) (I.add (I.rem n 10) 1); let y1 := I.len (α := UInt8) (Array.toList (List.toArray ([48, 49, 50, 51, 52, 53, 54, 55, 56, 57] : List UInt8))); let y2 := I.hid (α := (List UInt8)) (txtN 10 3 (Int.toNat (I.quo n 10))); let y3 := I.hid (α := (List UInt8)) (txtN 10 3 (Int.toNat (I.sub 0 n))); .br (I.ilt n 0) (.need (I.inr Go.IntKind.i64 (I.sub 0 n)) (.need (I.hid (α := (Prop)) (And (LE.le (0 : Int) (I.sub 0 n)) (LT.lt (I.sub 0 n) (1000 : Int)))) (.need (I.few (I.add (I.len (α := UInt8) (Array.toList (List.toArray ([45] : List UInt8)))) (I.len (α := UInt8) y3)) 1000000000) (.fin (.ret (.v (.one (.p (.str (I.app (α := UInt8) (Array.toList (List.toArray ([45] : List UInt8))) y3)))))) [])))) (.br (I.ilt n 10) (.need (I.inr Go.IntKind.i64 (I.add n 1)) (.need (I.cutb n (I.add n 1) y1) (.fin (.ret (.v (.one (.p (.str (I.cut (α := UInt8) (Array.toList (List.toArray ([48, 49, 50, 51, 52, 53, 54, 55, 56, 57] : List UInt8))) n (I.add n 1))))))) []))) (.need (I.nne 10) (.need (I.inr Go.IntKind.i64 (I.quo n 10)) (.need (I.nne 10) (.need (I.nne 10) (.need (I.inr Go.IntKind.i64 (I.add (I.rem n 10) 1)) (.need (I.cutb (I.rem n 10) (I.add (I.rem n 10) 1) y1) (.need (I.hid (α := (Prop)) (And (LE.le (0 : Int) (I.quo n 10)) (LT.lt (I.quo n 10) (1000 : Int)))) (.need (I.few (I.add (I.len (α := UInt8) y2) (I.len (α := UInt8) y0)) 1000000000) (.fin (.ret (.v (.one (.p (.str (I.app (α := UInt8) y2 y0)))))) []))))))))))) (by kernel_rfl) ?_
  simp only [inst_need, inst_br, inst_both, inst_fin, inst_qed, inst_stop, inst_code]
  subst hI
  simp only [alg_b2i, alg_i2b, alg_add, alg_sub, alg_mul, alg_quo, alg_rem, alg_wrap, alg_imin, alg_imax, alg_ilt, alg_ile, alg_ieq, alg_bnot, alg_beq, alg_ban, alg_seq, alg_len, alg_app, alg_cut, alg_get, alg_set, alg_rep, alg_inr, alg_inb, alg_cutb, alg_same, alg_few, alg_nne, alg_nng, alg_hid, alg_shl, alg_shr, alg_bits, decide_eq_true_eq, decide_eq_false_iff_not, beq_iff_eq, beq_eq_false_iff_ne, Bool.not_eq_true', Bool.not_eq_false', Bool.and_eq_true, Bool.and_true, Bool.true_and, and_true, true_and, ne_eq, Int.toNat_zero, Nat.sub_zero, List.drop_zero, i64_min, i64_max, u8_min, u8_max, ofNat_b2i, b2i_inj, Int.toNat_natCast, Int.ofNat_eq_natCast, UInt8.ofNat_toNat, AOut.ret.injEq, D.v.injEq, D.tup.injEq, V0.one.injEq, C.p.injEq, P.bool.injEq, P.int.injEq, P.str.injEq, Bool.false_eq_true, Bool.true_eq_false, imp_false, Decidable.not_not, not_true_eq_false, not_false_eq_true]
  obtain ⟨m, rfl⟩ : ∃ m : Nat, n = m := ⟨n.toNat, by omega⟩
  rw [Int.toNat_natCast] at hr
  have e1 : (m : Int).tdiv 10 = ((m / 10 : Nat) : Int) := by rw [Int.tdiv_eq_ediv_of_nonneg (by omega)]; omega
  have e2 : (m : Int).tmod 10 = ((m % 10 : Nat) : Int) := by rw [Int.tmod_eq_emod_of_nonneg (by omega)]; omega
  have e3 : m < 10 → (([48, 49, 50, 51, 52, 53, 54, 55, 56, 57] : Str).drop m).take (((m : Int) + 1).toNat - m) = r := fun h => by
    rw [show ((m : Int) + 1).toNat - m = 1 by omega, dig10 h, ← hr, txtN_one h]
  have e4 : (([48, 49, 50, 51, 52, 53, 54, 55, 56, 57] : Str).drop (m % 10)).take ((((m % 10 : Nat) : Int) + 1).toNat - m % 10) = [dgN (m % 10)] := by
    rw [show (((m % 10 : Nat) : Int) + 1).toNat - m % 10 = 1 by omega, dig10 (Nat.mod_lt _ (by decide))]
  have e5 : ¬ m < 10 → txtN 10 3 (m / 10) ++ [dgN (m % 10)] = r := fun h => by rw [← hr, txtN_more h]
  have hl := txtN_len 10 3 (m / 10)
  have hl2 := txtN_len 10 3 (m % 10)
  have e6 : 0 < 3 → txtN 10 3 (m % 10) = [dgN (m % 10)] := fun h => by first | exact absurd h (by decide) | exact txtN_one (f := 2) (Nat.mod_lt _ (by decide))
  generalize hH : ([48, 49, 50, 51, 52, 53, 54, 55, 56, 57] : Str) = H at *
  have hHl : H.length = 10 := by rw [← hH]; rfl
  simp only [e1, e2, Int.toNat_natCast, e4, List.length_cons, List.length_nil]
  (repeat' (first | refine And.intro ?_ ?_ | intro _)) <;> first | omega | exact True.intro | exact False.elim ‹False› | skip
  all_goals first
    | exact e3 (by omega)
    | exact e5 (by omega)
    | (rw [e6 (by decide)]; exact e5 (by omega))
    | (exfalso; omega)
def num4__c (I : Alg) (args : List D) (hp : List HO) : Option CT := match args, hp with
  | [.v (.one (.p (.int .i64 n)))], [] => (fun (n : Int) => (some (.one ⟨I.hid (0 ≤ n ∧ n < 10000), (.ret (.v (.one (.p (.str (I.hid (txtN 10 4 n.toNat))))))), []⟩) : Option CT)) n
  | _, _ => none
theorem num4__g : GoodC Tryd.prog 44 (num4__c alg) := by
  intro args hp r h
  unfold num4__c at h
  split at h
  · cases h; exact fun hn => num4_ _ hn
  · cases h
def num4__k : Know Tryd.prog := ⟨44, num4__c, num4__g⟩
def num4__l : Know Tryd.prog := ⟨44, fun I => lendC I (num4__c I), lendC_good num4__g⟩

theorem itoa_txt : ∀ (k n : Nat), n < 10 ^ (k + 1) → Lib.decDigits n = txtN 10 (k + 1) n
  | 0, n, h => by
    rw [Lib.decDigits, dif_pos (by omega), txtN_one (by omega)]
    unfold dgN
    rw [if_pos (by omega)]
  | k + 1, n, h => by
    rw [Lib.decDigits]
    by_cases hn : n < 10
    · rw [dif_pos hn, txtN_one hn]
      unfold dgN
      rw [if_pos hn]
    · rw [dif_neg hn, txtN_more hn, itoa_txt k (n / 10) (by rw [Nat.pow_succ] at h; omega)]
      unfold dgN
      rw [if_pos (Nat.mod_lt _ (by decide))]
/-- A number's decimal text. -/
def decS (n : Int) : Str := txtN 10 4 n.toNat
theorem itoa_dec {n : Int} (h0 : 0 ≤ n) (h1 : n < 10000) : Lib.itoa n = decS n := by
  unfold Lib.itoa decS
  rw [if_neg (by omega), itoa_txt 3 n.toNat (by omega)]
theorem decS_len (n : Int) : (decS n).length ≤ 4 := txtN_len 10 4 _

theorem itoa_ (n : Int) (hneed : 0 ≤ n ∧ n < 10000) : Spc Tryd.prog 72 [.v (.one (.p (.int .i64 n)))] [] (.ret (.v (.one (.p (.str (decS n)))))) [] := by
  refine Spc.of_below ⟨_, Tryd.func72, by kernel_rfl, by kernel_rfl⟩ fun S bs w vs hW hM => ?_
  obtain ⟨v, r, rfl⟩ : ∃ v r, vs = v :: r := by cases vs with | nil => exact hM.elim | cons v r => exact ⟨v, r, rfl⟩
  obtain ⟨h1, hM⟩ := hM
  obtain rfl : r = [] := by cases r with | nil => rfl | cons v r => exact hM.elim
  cases h1 with
  | int _ _ =>
    refine ⟨.string (Sep.S (decS n)), .str _ (by have := decS_len n; unfold maxLen; omega), ?_⟩
    rw [← itoa_dec hneed.1 hneed.2]
    refine (Tryd.strconv_Itoa n (by omega) (by omega) w (by first | exact hW | exact hW.1)).mono fun e w' h => ?_
    obtain ⟨he, k, os, rfl⟩ := h
    refine ⟨he, ?_⟩
    exact ⟨rfl, rfl, rfl, (show w.heap.size ≤ (w.heap ++ os).size by rw [Array.size_append]; omega), fun j hj => show (w.heap ++ os)[j]? = w.heap[j]? from Array.getElem?_append_left hj⟩
def itoa__c (I : Alg) (args : List D) (hp : List HO) : Option CT := match args, hp with
  | [.v (.one (.p (.int .i64 n)))], [] => (fun (n : Int) => (some (.one ⟨I.hid (0 ≤ n ∧ n < 10000), (.ret (.v (.one (.p (.str (I.hid (decS n))))))), []⟩) : Option CT)) n
  | _, _ => none
theorem itoa__g : GoodC Tryd.prog 72 (itoa__c alg) := by
  intro args hp r h
  unfold itoa__c at h
  split at h
  · cases h; exact fun hn => itoa_ _ hn
  · cases h
def itoa__k : Know Tryd.prog := ⟨72, itoa__c, itoa__g⟩
def itoa__l : Know Tryd.prog := ⟨72, fun I => lendC I (itoa__c I), lendC_good itoa__g⟩
theorem num_ (n : Int) (hneed : 0 ≤ n ∧ n < 10000) : Spc Tryd.prog 44 [.v (.one (.p (.int .i64 n)))] [] (.ret (.v (.one (.p (.str (decS n)))))) [] := num4_ n hneed

def num__c (I : Alg) (args : List D) (hp : List HO) : Option CT := match args, hp with
  | [.v (.one (.p (.int .i64 n)))], [] => (fun (n : Int) => (some (.one ⟨I.hid (0 ≤ n ∧ n < 10000), (.ret (.v (.one (.p (.str (I.hid (decS n))))))), []⟩) : Option CT)) n
  | _, _ => none
theorem num__g : GoodC Tryd.prog 44 (num__c alg) := by
  intro args hp r h
  unfold num__c at h
  split at h
  · cases h; exact fun hn => num_ _ hn
  · cases h
def num__k : Know Tryd.prog := ⟨44, num__c, num__g⟩
def num__l : Know Tryd.prog := ⟨44, fun I => lendC I (num__c I), lendC_good num__g⟩
end Go.Proofs.YtjapkdcomcgamaaDoor
