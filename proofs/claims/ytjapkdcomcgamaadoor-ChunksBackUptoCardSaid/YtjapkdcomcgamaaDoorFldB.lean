/- Fields of a head: the document's own. -/
import Derived.Test.YtjapkdcomcgamaaDoorFldA
set_option linter.all false
namespace Go.Proofs.YtjapkdcomcgamaaDoor
open Go Go.Sep Go.Ab
set_option maxRecDepth 100000

theorem findAt_one (c : UInt8) : ∀ (s : Str) (i : Int), findAt [c] s i = if Lib.indexByte s c = -1 then -1 else i + Lib.indexByte s c
  | [], i => by simp [findAt, Lib.indexByte, List.isPrefixOf]
  | x :: l, i => by
    have ih := findAt_one c l (i + 1)
    have hb := indexByte_le l c
    have hp : ([c] : Str).isPrefixOf (x :: l) = (c == x) := by simp [List.isPrefixOf]
    rw [findAt, hp, ih, Lib.indexByte]
    by_cases h : x = c
    · subst h; simp
    · have h1 : (c == x) = false := by simpa using fun e => h e.symm
      have h2 : (x == c) = false := by simpa using h
      simp only [h1, h2, Bool.false_eq_true, if_false]
      by_cases h3 : Lib.indexByte l c = -1
      · simp [h3]
      · simp only [h3, beq_iff_eq, if_false]
        rw [if_neg (by omega)]
        omega
theorem findAt_cut (s : Str) : findAt [58] s 0 = Lib.indexByte s 58 := by
  rw [findAt_one]
  split
  · rename_i h; rw [h]
  · omega

theorem fieldOf_ (s : Str) (hneed : s.length ≤ 1000000) : Spc Tryd.prog 45 [.v (.one (.p (.str s)))] [] (.ret (.tup [(.agg [(.p (.str ((parseF s).1.name))), (.p (.str ((parseF s).1.value)))]), (.one (.p (.int .i64 ((parseF s).2))))])) [] := by
  generalize hr : parseF s = r
  obtain ⟨⟨a, b⟩, d⟩ := r
  refine spcG tab_ok mixed Tryd.func45 (by kernel_rfl) { keep := some [0, 2, 3, 4] } [tokenText__k, tokenText__l, seenText__k, seenText__l, trimmed__k, trimmed__l, findFirst__k, findFirst__l] (by kernel_rfl) ?_
  intro I X hI hX
  refine ev_rule (let y0 := I.hid (α := Int) (findAt (Array.toList (List.toArray ([58] : List UInt8))) s (0 : Int)); let y1 := I.cut (α := UInt8) s (I.add y0 1) (I.len (α := UInt8) s); let y2 := I.cutb (I.add y0 1) (I.len (α := UInt8) s) (I.len (α := UInt8) s); let y3 := I.hid (α := (Prop)) (LE.le (List.length y1) 1000000); let y4 := I.cutb 0 y0 (I.len (α := UInt8) s); let y5 := I.inr Go.IntKind.i64 (I.add y0 1); .need (I.hid (α := (Prop)) (And (LE.le (List.length s) 1000000) (LE.le (List.length (Array.toList (List.toArray ([58] : List UInt8)))) 1000000))) (.br (I.ilt y0 0) (.fin (.ret (.tup [(.agg [(.p (.str ([] : List UInt8))), (.p (.str ([] : List UInt8)))]), (.one (.p (.int .i64 5)))])) []) (.need y4 (.need (I.hid (α := (Prop)) (LE.le (List.length (I.cut (α := UInt8) s 0 y0)) 1000000)) (.br (I.bnot (I.hid (α := Bool) (tokenA (I.cut (α := UInt8) s 0 y0)))) (.fin (.ret (.tup [(.agg [(.p (.str ([] : List UInt8))), (.p (.str ([] : List UInt8)))]), (.one (.p (.int .i64 6)))])) []) (.br (I.ilt 40 y0) (.fin (.ret (.tup [(.agg [(.p (.str ([] : List UInt8))), (.p (.str ([] : List UInt8)))]), (.one (.p (.int .i64 4)))])) []) (.need y5 (.need y2 (.need y3 (.br (I.bnot (I.hid (α := Bool) (seenA y1))) (.fin (.ret (.tup [(.agg [(.p (.str ([] : List UInt8))), (.p (.str ([] : List UInt8)))]), (.one (.p (.int .i64 3)))])) []) (.need y4 (.need y5 (.need y2 (.need y3 (.fin (.ret (.tup [(.agg [(.p (.str (I.cut (α := UInt8) s 0 y0))), (.p (.str (I.hid (α := (List UInt8)) (Go.Lib.trimS y1 ([32, 9] : List UInt8)))))]), (.one (.p (.int .i64 0)))])) []))))))))))))))) (by kernel_rfl) ?_
  simp only [inst_need, inst_br, inst_both, inst_fin, inst_qed, inst_stop, inst_code]
  subst hI
  simp only [alg_b2i, alg_i2b, alg_add, alg_sub, alg_mul, alg_quo, alg_rem, alg_wrap, alg_imin, alg_imax, alg_ilt, alg_ile, alg_ieq, alg_bnot, alg_beq, alg_ban, alg_seq, alg_len, alg_app, alg_cut, alg_get, alg_set, alg_rep, alg_inr, alg_inb, alg_cutb, alg_same, alg_few, alg_nne, alg_nng, alg_hid, alg_shl, alg_shr, alg_bits, decide_eq_true_eq, decide_eq_false_iff_not, beq_iff_eq, beq_eq_false_iff_ne, Bool.not_eq_true', Bool.not_eq_false', Bool.and_eq_true, Bool.and_true, Bool.true_and, and_true, true_and, ne_eq, Int.toNat_zero, Nat.sub_zero, List.drop_zero, i64_min, i64_max, u8_min, u8_max, ofNat_b2i, b2i_inj, Int.toNat_natCast, Int.ofNat_eq_natCast, UInt8.ofNat_toNat, AOut.ret.injEq, D.v.injEq, D.tup.injEq, V0.one.injEq, C.p.injEq, P.bool.injEq, P.int.injEq, P.str.injEq, Bool.false_eq_true, Bool.true_eq_false, imp_false, Decidable.not_not, not_true_eq_false, not_false_eq_true]
  rw [findAt_cut]
  have hx := indexByte_le s 58
  simp only [List.length_cons, List.length_nil]
  by_cases h : 0 ≤ Lib.indexByte s 58
  · have hcb : cutB s 58 = (s.take (Lib.indexByte s 58).toNat, s.drop ((Lib.indexByte s 58).toNat + 1), true) := by rw [cutB, if_pos h]
    have e : List.take (s.length - ((Lib.indexByte s 58).toNat + 1)) (List.drop ((Lib.indexByte s 58).toNat + 1) s) = List.drop ((Lib.indexByte s 58).toNat + 1) s := List.take_of_length_le (by rw [List.length_drop]; exact Nat.le_refl _)
    rw [parseF, hcb] at hr
    simp only at hr
    rw [show (Lib.indexByte s 58 + 1).toNat = (Lib.indexByte s 58).toNat + 1 by omega, e]
    have l1 : (s.take (Lib.indexByte s 58).toNat).length = (Lib.indexByte s 58).toNat := by rw [List.length_take]; omega
    have l2 : (s.drop ((Lib.indexByte s 58).toNat + 1)).length ≤ s.length := by rw [List.length_drop]; omega
    generalize s.take (Lib.indexByte s 58).toNat = nm at *
    generalize s.drop ((Lib.indexByte s 58).toNat + 1) = vl at *
    rw [if_neg (by decide)] at hr
    (repeat' (first | refine And.intro ?_ ?_ | intro _)) <;> first | omega | exact True.intro | exact False.elim ‹False› | skip
    all_goals first
      | (rw [if_pos (by assumption)] at hr; cases hr; rfl)
      | (rw [if_neg (by simp [*]), if_pos (by omega)] at hr; cases hr; rfl)
      | (rw [if_neg (by simp [*]), if_neg (by omega), if_pos (by assumption)] at hr; cases hr; rfl)
      | (rw [if_neg (by simp [*]), if_neg (by omega), if_neg (by simp [*])] at hr; cases hr; rfl)
  · have hcb : cutB s 58 = (s, [], false) := by rw [cutB, if_neg h]
    rw [parseF, hcb] at hr
    simp only [if_true] at hr
    cases hr
    exact ⟨⟨hneed, by omega⟩, fun _ => rfl, fun h' => absurd h (by omega)⟩
def fieldOf__c (I : Alg) (args : List D) (hp : List HO) : Option CT := match args, hp with
  | [.v (.one (.p (.str s)))], [] => (fun (s : Str) => (some (.one ⟨I.hid (s.length ≤ 1000000), (.ret (.tup [(.agg [(.p (.str (I.hid ((parseF s).1.name)))), (.p (.str (I.hid ((parseF s).1.value))))]), (.one (.p (.int .i64 (I.hid ((parseF s).2)))))])), []⟩) : Option CT)) s
  | _, _ => none
theorem fieldOf__g : GoodC Tryd.prog 45 (fieldOf__c alg) := by
  intro args hp r h
  unfold fieldOf__c at h
  split at h
  · cases h; exact fun hn => fieldOf_ _ hn
  · cases h
def fieldOf__k : Know Tryd.prog := ⟨45, fieldOf__c, fieldOf__g⟩
def fieldOf__l : Know Tryd.prog := ⟨45, fun I => lendC I (fieldOf__c I), lendC_good fieldOf__g⟩

theorem fieldText_ (n v : Str) (hneed : n.length ≤ 1000000 ∧ v.length ≤ 1000000) : Spc Tryd.prog 75 [.v (.agg [(.p (.str n)), (.p (.str v))])] [] (.ret (.tup [(.one (.p (.str ((textF ⟨n, v⟩).1)))), (.one (.p (.int .i64 ((textF ⟨n, v⟩).2))))])) [] := by
  generalize hr : textF ⟨n, v⟩ = r
  obtain ⟨a, d⟩ := r
  refine spcG tab_ok mixed Tryd.func75 (by kernel_rfl) { keep := some [0, 1, 2, 3] } [tokenText__k, tokenText__l, seenText__k, seenText__l, trimmed__k, trimmed__l] (by kernel_rfl) ?_
  intro I X hI hX
  refine ev_rule (let y0 := I.add (I.add (I.len (α := UInt8) n) 2) (I.len (α := UInt8) v); let y1 := I.hid (α := (Prop)) (LE.le (List.length v) 1000000); .need (I.hid (α := (Prop)) (LE.le (List.length n) 1000000)) (.br (I.bnot (I.hid (α := Bool) (tokenA n))) (.fin (.ret (.tup [(.one (.p (.str (Array.toList (List.toArray ([] : List UInt8)))))), (.one (.p (.int .i64 6)))])) []) (.br (I.ilt 40 (I.len (α := UInt8) n)) (.fin (.ret (.tup [(.one (.p (.str (Array.toList (List.toArray ([] : List UInt8)))))), (.one (.p (.int .i64 4)))])) []) (.need (I.inr Go.IntKind.i64 (I.add (I.len (α := UInt8) n) 2)) (.need (I.inr Go.IntKind.i64 y0) (.br (I.ilt 200 y0) (.fin (.ret (.tup [(.one (.p (.str (Array.toList (List.toArray ([] : List UInt8)))))), (.one (.p (.int .i64 4)))])) []) (.need y1 (.br (I.bnot (I.hid (α := Bool) (seenA v))) (.fin (.ret (.tup [(.one (.p (.str (Array.toList (List.toArray ([] : List UInt8)))))), (.one (.p (.int .i64 3)))])) []) (.need y1 (.br (I.bnot (I.seq (I.hid (α := (List UInt8)) (Go.Lib.trimS v ([32, 9] : List UInt8))) v)) (.fin (.ret (.tup [(.one (.p (.str (Array.toList (List.toArray ([] : List UInt8)))))), (.one (.p (.int .i64 3)))])) []) (.need (I.few (I.add (I.len (α := UInt8) n) (I.len (α := UInt8) (Array.toList (List.toArray ([58, 32] : List UInt8))))) 1000000000) (.need (I.few (I.add (I.len (α := UInt8) (I.app (α := UInt8) n (Array.toList (List.toArray ([58, 32] : List UInt8))))) (I.len (α := UInt8) v)) 1000000000) (.fin (.ret (.tup [(.one (.p (.str (I.app (α := UInt8) (I.app (α := UInt8) n (Array.toList (List.toArray ([58, 32] : List UInt8)))) v)))), (.one (.p (.int .i64 0)))])) []))))))))))))) (by kernel_rfl) ?_
  simp only [inst_need, inst_br, inst_both, inst_fin, inst_qed, inst_stop, inst_code]
  subst hI
  simp only [alg_b2i, alg_i2b, alg_add, alg_sub, alg_mul, alg_quo, alg_rem, alg_wrap, alg_imin, alg_imax, alg_ilt, alg_ile, alg_ieq, alg_bnot, alg_beq, alg_ban, alg_seq, alg_len, alg_app, alg_cut, alg_get, alg_set, alg_rep, alg_inr, alg_inb, alg_cutb, alg_same, alg_few, alg_nne, alg_nng, alg_hid, alg_shl, alg_shr, alg_bits, decide_eq_true_eq, decide_eq_false_iff_not, beq_iff_eq, beq_eq_false_iff_ne, Bool.not_eq_true', Bool.not_eq_false', Bool.and_eq_true, Bool.and_true, Bool.true_and, and_true, true_and, ne_eq, Int.toNat_zero, Nat.sub_zero, List.drop_zero, i64_min, i64_max, u8_min, u8_max, ofNat_b2i, b2i_inj, Int.toNat_natCast, Int.ofNat_eq_natCast, UInt8.ofNat_toNat, AOut.ret.injEq, D.v.injEq, D.tup.injEq, V0.one.injEq, C.p.injEq, P.bool.injEq, P.int.injEq, P.str.injEq, Bool.false_eq_true, Bool.true_eq_false, imp_false, Decidable.not_not, not_true_eq_false, not_false_eq_true]
  simp only [List.length_append, List.length_cons, List.length_nil]
  unfold textF at hr
  simp only at hr
  (repeat' (first | refine And.intro ?_ ?_ | intro _)) <;> first | omega | exact True.intro | exact False.elim ‹False› | skip
  all_goals first
    | (rw [if_pos (by assumption)] at hr; cases hr; rfl)
    | (rw [if_neg (by simp [*]), if_pos (by omega)] at hr; cases hr; rfl)
    | (rw [if_neg (by simp [*]), if_neg (by omega), if_pos (.inl (by assumption))] at hr; cases hr; rfl)
    | (rw [if_neg (by simp [*]), if_neg (by omega), if_pos (.inr (by assumption))] at hr; cases hr; rfl)
    | (rw [if_neg (by simp [*]), if_neg (by omega), if_neg (by simp [*])] at hr; cases hr; rfl)
def fieldText__c (I : Alg) (args : List D) (hp : List HO) : Option CT := match args, hp with
  | [.v (.agg [(.p (.str n)), (.p (.str v))])], [] => (fun (n v : Str) => (some (.one ⟨I.hid (n.length ≤ 1000000 ∧ v.length ≤ 1000000), (.ret (.tup [(.one (.p (.str (I.hid ((textF ⟨n, v⟩).1))))), (.one (.p (.int .i64 (I.hid ((textF ⟨n, v⟩).2)))))])), []⟩) : Option CT)) n v
  | _, _ => none
theorem fieldText__g : GoodC Tryd.prog 75 (fieldText__c alg) := by
  intro args hp r h
  unfold fieldText__c at h
  split at h
  · cases h; exact fun hn => fieldText_ _ _ hn
  · cases h
def fieldText__k : Know Tryd.prog := ⟨75, fieldText__c, fieldText__g⟩
def fieldText__l : Know Tryd.prog := ⟨75, fun I => lendC I (fieldText__c I), lendC_good fieldText__g⟩

def greatF (l : List Fld) : Bool := decide (100 < l.length) || l.any fun f => decide (1000 < f.name.length + f.value.length)
theorem great_ (l : List Fld) (hneed : ∀ f ∈ l, f.name.length ≤ 140737488355328 ∧ f.value.length ≤ 140737488355328) : Spc Tryd.prog 37 [.v (.one (.p (.list .fld l)))] [] (.ret (.v (.one (.p (.bool (greatF l)))))) [] := by
  generalize hr : greatF l = r
  refine spcG tab_ok mixed Tryd.func37 (by kernel_rfl) { keep := some [0, 2, 3] } [] (by kernel_rfl) ?_
  intro I X hI hX
  refine ev_rule (.br (I.ilt 100 (I.len (α := Go.Ab.Fld) l)) (.fin (.ret (.v (.one (.p (.bool Bool.true))))) []) (.code 0 [1, 1, 0, 1, 0] ⟨[(3, (.v (.one (.p (.int .i64 0))))), (2, (.v (.one (.p (.val (.bool .false)))))), (0, (.v (.one (.p (.list .fld l)))))], [], 27⟩)) (by kernel_rfl) ?_
  simp only [inst_need, inst_br, inst_both, inst_fin, inst_qed, inst_stop, inst_code]
  refine ⟨fun c1 => ?_, fun c1 => ?_⟩
  · subst hI
    simp only [alg_b2i, alg_i2b, alg_add, alg_sub, alg_mul, alg_quo, alg_rem, alg_wrap, alg_imin, alg_imax, alg_ilt, alg_ile, alg_ieq, alg_bnot, alg_beq, alg_ban, alg_seq, alg_len, alg_app, alg_cut, alg_get, alg_set, alg_rep, alg_inr, alg_inb, alg_cutb, alg_same, alg_few, alg_nne, alg_nng, alg_hid, alg_shl, alg_shr, alg_bits, decide_eq_true_eq, decide_eq_false_iff_not, beq_iff_eq, beq_eq_false_iff_ne, Bool.not_eq_true', Bool.not_eq_false', Bool.and_eq_true, Bool.and_true, Bool.true_and, and_true, true_and, ne_eq, Int.toNat_zero, Nat.sub_zero, List.drop_zero, i64_min, i64_max, u8_min, u8_max, ofNat_b2i, b2i_inj, Int.toNat_natCast, Int.ofNat_eq_natCast, UInt8.ofNat_toNat, AOut.ret.injEq, D.v.injEq, D.tup.injEq, V0.one.injEq, C.p.injEq, P.bool.injEq, P.int.injEq, P.str.injEq, Bool.false_eq_true, Bool.true_eq_false, imp_false, Decidable.not_not, not_true_eq_false, not_false_eq_true] at c1
    simp only [alg_b2i, alg_i2b, alg_add, alg_sub, alg_mul, alg_quo, alg_rem, alg_wrap, alg_imin, alg_imax, alg_ilt, alg_ile, alg_ieq, alg_bnot, alg_beq, alg_ban, alg_seq, alg_len, alg_app, alg_cut, alg_get, alg_set, alg_rep, alg_inr, alg_inb, alg_cutb, alg_same, alg_few, alg_nne, alg_nng, alg_hid, alg_shl, alg_shr, alg_bits, decide_eq_true_eq, decide_eq_false_iff_not, beq_iff_eq, beq_eq_false_iff_ne, Bool.not_eq_true', Bool.not_eq_false', Bool.and_eq_true, Bool.and_true, Bool.true_and, and_true, true_and, ne_eq, Int.toNat_zero, Nat.sub_zero, List.drop_zero, i64_min, i64_max, u8_min, u8_max, ofNat_b2i, b2i_inj, Int.toNat_natCast, Int.ofNat_eq_natCast, UInt8.ofNat_toNat, AOut.ret.injEq, D.v.injEq, D.tup.injEq, V0.one.injEq, C.p.injEq, P.bool.injEq, P.int.injEq, P.str.injEq, Bool.false_eq_true, Bool.true_eq_false, imp_false, Decidable.not_not, not_true_eq_false, not_false_eq_true]
    rw [← hr, greatF, decide_eq_true (by omega), Bool.true_or]
  have hl : l.length ≤ 100 := by
    subst hI
    simp only [alg_b2i, alg_i2b, alg_add, alg_sub, alg_mul, alg_quo, alg_rem, alg_wrap, alg_imin, alg_imax, alg_ilt, alg_ile, alg_ieq, alg_bnot, alg_beq, alg_ban, alg_seq, alg_len, alg_app, alg_cut, alg_get, alg_set, alg_rep, alg_inr, alg_inb, alg_cutb, alg_same, alg_few, alg_nne, alg_nng, alg_hid, alg_shl, alg_shr, alg_bits, decide_eq_true_eq, decide_eq_false_iff_not, beq_iff_eq, beq_eq_false_iff_ne, Bool.not_eq_true', Bool.not_eq_false', Bool.and_eq_true, Bool.and_true, Bool.true_and, and_true, true_and, ne_eq, Int.toNat_zero, Nat.sub_zero, List.drop_zero, i64_min, i64_max, u8_min, u8_max, ofNat_b2i, b2i_inj, Int.toNat_natCast, Int.ofNat_eq_natCast, UInt8.ofNat_toNat, AOut.ret.injEq, D.v.injEq, D.tup.injEq, V0.one.injEq, C.p.injEq, P.bool.injEq, P.int.injEq, P.str.injEq, Bool.false_eq_true, Bool.true_eq_false, imp_false, Decidable.not_not, not_true_eq_false, not_false_eq_true] at c1
    omega
  have hr2 : (l.any fun f => decide (1000 < f.name.length + f.value.length)) = r := by rw [← hr, greatF, decide_eq_false (by omega), Bool.false_or]
  refine loop_inv hI tab_ok mixed [] hX [0, 3] (fun (i : Nat) => i ≤ l.length ∧ ((l.drop i).any fun f => decide (1000 < f.name.length + f.value.length)) = r) (fun (i : Nat) => ⟨[(0, .v (.one (.p (.list .fld l)))), (3, .v (.one (.p (.int .i64 i))))], [], 27⟩) (fun (i : Nat) => l.length - i) 0 (by kernel_rfl) (by kernel_rfl) ?_ ?_
  · exact ⟨Nat.zero_le _, hr2⟩
  rintro i ⟨h1, h2⟩ A hA
  refine ev_rule (let y0 := I.add (I.len (α := UInt8) (Go.Ab.Fld.name (I.get (α := Go.Ab.Fld) l (Go.Ab.Fld.mk ([] : List UInt8) ([] : List UInt8)) (Nat.cast i)))) (I.len (α := UInt8) (Go.Ab.Fld.value (I.get (α := Go.Ab.Fld) l (Go.Ab.Fld.mk ([] : List UInt8) ([] : List UInt8)) (Nat.cast i)))); let y1 := I.inb (Nat.cast i) (I.len (α := Go.Ab.Fld) l); .br (I.ilt (Nat.cast i) (I.len (α := Go.Ab.Fld) l)) (.need y1 (.need y1 (.need y1 (.need y1 (.need (I.inr Go.IntKind.i64 y0) (.br (I.ilt 1000 y0) (.fin (.ret (.v (.one (.p (.bool Bool.true))))) []) (.need (I.inr Go.IntKind.i64 (I.add (Nat.cast i) 1)) (.need (A ⟨[(0, (.v (.one (.p (.list .fld l))))), (3, (.v (.one (.p (.int .i64 (I.add (Nat.cast i) 1))))))], [], 27⟩) .qed)))))))) (.fin (.ret (.v (.one (.p (.bool Bool.false))))) [])) (by kernel_rfl) ?_
  simp only [inst_need, inst_br, inst_both, inst_fin, inst_qed, inst_stop, inst_code]
  subst hI
  simp only [alg_b2i, alg_i2b, alg_add, alg_sub, alg_mul, alg_quo, alg_rem, alg_wrap, alg_imin, alg_imax, alg_ilt, alg_ile, alg_ieq, alg_bnot, alg_beq, alg_ban, alg_seq, alg_len, alg_app, alg_cut, alg_get, alg_set, alg_rep, alg_inr, alg_inb, alg_cutb, alg_same, alg_few, alg_nne, alg_nng, alg_hid, alg_shl, alg_shr, alg_bits, decide_eq_true_eq, decide_eq_false_iff_not, beq_iff_eq, beq_eq_false_iff_ne, Bool.not_eq_true', Bool.not_eq_false', Bool.and_eq_true, Bool.and_true, Bool.true_and, and_true, true_and, ne_eq, Int.toNat_zero, Nat.sub_zero, List.drop_zero, i64_min, i64_max, u8_min, u8_max, ofNat_b2i, b2i_inj, Int.toNat_natCast, Int.ofNat_eq_natCast, UInt8.ofNat_toNat, AOut.ret.injEq, D.v.injEq, D.tup.injEq, V0.one.injEq, C.p.injEq, P.bool.injEq, P.int.injEq, P.str.injEq, Bool.false_eq_true, Bool.true_eq_false, imp_false, Decidable.not_not, not_true_eq_false, not_false_eq_true]
  have hd : i < l.length → ((l.drop i).any fun f => decide (1000 < f.name.length + f.value.length)) = (decide (1000 < (l.getD i ⟨[], []⟩).name.length + (l.getD i ⟨[], []⟩).value.length) || ((l.drop (i + 1)).any fun f => decide (1000 < f.name.length + f.value.length))) := fun h => by
    rw [List.drop_eq_getElem_cons h, List.any_cons]; simp [h]
  have hxl : i < l.length → (l.getD i ⟨[], []⟩).name.length ≤ 140737488355328 ∧ (l.getD i ⟨[], []⟩).value.length ≤ 140737488355328 := fun h => hneed _ (by
    rw [show l.getD i ⟨[], []⟩ = l[i] by simp [h]]
    exact List.getElem_mem h)
  generalize l.getD i ⟨[], []⟩ = x at *
  (repeat' (first | refine And.intro ?_ ?_ | intro _)) <;> first | omega | exact True.intro | exact False.elim ‹False› | skip
  all_goals first
    | (have := hxl (by omega); omega)
    | (rw [← h2, hd (by omega), decide_eq_true (by omega), Bool.true_or])
    | (refine hA (i + 1) ⟨by omega, ?_⟩ (by omega); rw [← h2, hd (by omega), decide_eq_false (by omega), Bool.false_or])
    | (rw [← h2, List.drop_of_length_le (by omega)]; rfl)
def great__c (I : Alg) (args : List D) (hp : List HO) : Option CT := match args, hp with
  | [.v (.one (.p (.list .fld l)))], [] => (fun (l : List Fld) => (some (.one ⟨I.hid (∀ f ∈ l, f.name.length ≤ 140737488355328 ∧ f.value.length ≤ 140737488355328), (.ret (.v (.one (.p (.bool (I.hid (greatF l))))))), []⟩) : Option CT)) l
  | _, _ => none
theorem great__g : GoodC Tryd.prog 37 (great__c alg) := by
  intro args hp r h
  unfold great__c at h
  split at h
  · cases h; exact fun hn => great_ _ hn
  · cases h
def great__k : Know Tryd.prog := ⟨37, great__c, great__g⟩
def great__l : Know Tryd.prog := ⟨37, fun I => lendC I (great__c I), lendC_good great__g⟩
end Go.Proofs.YtjapkdcomcgamaaDoor
