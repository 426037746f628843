/- Fields of a head: the walks. -/
import Derived.Test.YtjapkdcomcgamaaDoorChrC
import Derived.Test.YtjapkdcomcgamaaDoorFnd
set_option linter.all false
namespace Go.Proofs.YtjapkdcomcgamaaDoor
open Go Go.Sep Go.Ab
set_option maxRecDepth 100000

def cutB (s : Str) (c : UInt8) : Str × Str × Bool :=
  if 0 ≤ Lib.indexByte s c then (s.take (Lib.indexByte s c).toNat, s.drop ((Lib.indexByte s c).toNat + 1), true) else (s, [], false)
def parseF (s : Str) : Fld × Int :=
  if (cutB s 58).2.2 = false then (⟨[], []⟩, 5)
  else if tokenA (cutB s 58).1 = false then (⟨[], []⟩, 6)
  else if 40 < (cutB s 58).1.length then (⟨[], []⟩, 4)
  else if seenA (cutB s 58).2.1 = false then (⟨[], []⟩, 3)
  else (⟨(cutB s 58).1, Lib.trimS (cutB s 58).2.1 [32, 9]⟩, 0)
def textF (f : Fld) : Str × Int :=
  if tokenA f.name = false then ([], 6)
  else if 40 < f.name.length ∨ 200 < f.name.length + 2 + f.value.length then ([], 4)
  else if seenA f.value = false ∨ ¬ Lib.trimS f.value [32, 9] = f.value then ([], 3)
  else (f.name ++ [58, 32] ++ f.value, 0)

theorem cutB_len (s : Str) (c : UInt8) : (cutB s c).1.length ≤ s.length ∧ (cutB s c).2.1.length ≤ s.length := by
  unfold cutB
  split
  · simp only [List.length_take, List.length_drop]; omega
  · simp

theorem slCut_ (s : Str) (c : UInt8) (hneed : s.length ≤ 1000000) : Spc Tryd.prog 156 [.v (.one (.p (.str s))), .v (.one (.p (.str ([c]))))] [] (.ret (.tup [(.one (.p (.str ((cutB s c).1)))), (.one (.p (.str ((cutB s c).2.1)))), (.one (.p (.bool ((cutB s c).2.2))))])) [] := by
  generalize hr : cutB s c = r
  obtain ⟨a, b, d⟩ := r
  refine spcG tab_ok mixed Tryd.func156 (by kernel_rfl) { keep := some [0, 1, 4, 5, 6, 7] } [index1__k, index1__l] (by kernel_rfl) ?_
  intro I X hI hX
  refine ev_rule (let y0 := I.hid (α := Int) (Go.Lib.indexByte s c); let y1 := I.add y0 (I.len (α := UInt8) ([c] : List UInt8)); .need (I.hid (α := (Prop)) True) (.br (I.ile 0 y0) (.need (I.cutb 0 y0 (I.len (α := UInt8) s)) (.need (I.inr Go.IntKind.i64 y1) (.need (I.cutb y1 (I.len (α := UInt8) s) (I.len (α := UInt8) s)) (.fin (.ret (.tup [(.one (.p (.str (I.cut (α := UInt8) s 0 y0)))), (.one (.p (.str (I.cut (α := UInt8) s y1 (I.len (α := UInt8) s))))), (.one (.p (.bool Bool.true)))])) [])))) (.fin (.ret (.tup [(.one (.p (.str s))), (.one (.p (.str (Array.toList (List.toArray ([] : List UInt8)))))), (.one (.p (.bool Bool.false)))])) []))) (by kernel_rfl) ?_
  simp only [inst_need, inst_br, inst_both, inst_fin, inst_qed, inst_stop, inst_code]
  subst hI
  simp only [alg_b2i, alg_i2b, alg_add, alg_sub, alg_mul, alg_quo, alg_rem, alg_wrap, alg_imin, alg_imax, alg_ilt, alg_ile, alg_ieq, alg_bnot, alg_beq, alg_ban, alg_seq, alg_len, alg_app, alg_cut, alg_get, alg_set, alg_rep, alg_inr, alg_inb, alg_cutb, alg_same, alg_few, alg_nne, alg_nng, alg_hid, alg_shl, alg_shr, alg_bits, decide_eq_true_eq, decide_eq_false_iff_not, beq_iff_eq, beq_eq_false_iff_ne, Bool.not_eq_true', Bool.not_eq_false', Bool.and_eq_true, Bool.and_true, Bool.true_and, and_true, true_and, ne_eq, Int.toNat_zero, Nat.sub_zero, List.drop_zero, i64_min, i64_max, u8_min, u8_max, ofNat_b2i, b2i_inj, Int.toNat_natCast, Int.ofNat_eq_natCast, UInt8.ofNat_toNat, AOut.ret.injEq, D.v.injEq, D.tup.injEq, V0.one.injEq, C.p.injEq, P.bool.injEq, P.int.injEq, P.str.injEq, Bool.false_eq_true, Bool.true_eq_false, imp_false, Decidable.not_not, not_true_eq_false, not_false_eq_true]
  have hx := indexByte_le s c
  simp only [List.length_cons, List.length_nil]
  refine ⟨fun h => ?_, fun h => ?_⟩
  · rw [cutB, if_pos h] at hr
    simp only [Prod.mk.injEq] at hr
    obtain ⟨rfl, rfl, rfl⟩ := hr
    refine ⟨by omega, by omega, by omega, ?_⟩
    rw [show (Lib.indexByte s c + ((0 + 1 : Nat) : Int)).toNat = (Lib.indexByte s c).toNat + 1 by omega]
    have e : List.take (s.length - ((Lib.indexByte s c).toNat + 1)) (List.drop ((Lib.indexByte s c).toNat + 1) s) = List.drop ((Lib.indexByte s c).toNat + 1) s := List.take_of_length_le (by rw [List.length_drop]; exact Nat.le_refl _)
    rw [e]
  · rw [cutB, if_neg h] at hr
    simp only [Prod.mk.injEq] at hr
    obtain ⟨rfl, rfl, rfl⟩ := hr
    rfl
def slCut__c (I : Alg) (args : List D) (hp : List HO) : Option CT := match args, hp with
  | [.v (.one (.p (.str s))), .v (.one (.p (.str ([c]))))], [] => (fun (s : Str) (c : UInt8) => (some (.one ⟨I.hid (s.length ≤ 1000000), (.ret (.tup [(.one (.p (.str (I.hid ((cutB s c).1))))), (.one (.p (.str (I.hid ((cutB s c).2.1))))), (.one (.p (.bool (I.hid ((cutB s c).2.2)))))])), []⟩) : Option CT)) s c
  | _, _ => none
theorem slCut__g : GoodC Tryd.prog 156 (slCut__c alg) := by
  intro args hp r h
  unfold slCut__c at h
  split at h
  · cases h; exact fun hn => slCut_ _ _ hn
  · cases h
def slCut__k : Know Tryd.prog := ⟨156, slCut__c, slCut__g⟩
def slCut__l : Know Tryd.prog := ⟨156, fun I => lendC I (slCut__c I), lendC_good slCut__g⟩

theorem sCut_ (s : Str) (c : UInt8) (hneed : s.length ≤ 1000000) : Spc Tryd.prog 139 [.v (.one (.p (.str s))), .v (.one (.p (.str ([c]))))] [] (.ret (.tup [(.one (.p (.str ((cutB s c).1)))), (.one (.p (.str ((cutB s c).2.1)))), (.one (.p (.bool ((cutB s c).2.2))))])) [] := by
  refine spcG tab_ok mixed Tryd.func139 (by kernel_rfl) { keep := some [0, 1, 4, 5, 6] } [slCut__k, slCut__l] (by kernel_rfl) ?_
  intro I X hI hX
  refine ev_rule (.need (I.hid (α := (Prop)) (LE.le (List.length s) 1000000)) (.fin (.ret (.tup [(.one (.p (.str (I.hid (α := (List UInt8)) (Prod.fst (cutB s c)))))), (.one (.p (.str (I.hid (α := (List UInt8)) (Prod.fst (Prod.snd (cutB s c))))))), (.one (.p (.bool (I.hid (α := Bool) (Prod.snd (Prod.snd (cutB s c)))))))])) [])) (by kernel_rfl) ?_
  simp only [inst_need, inst_br, inst_both, inst_fin, inst_qed, inst_stop, inst_code]
  subst hI
  simp only [alg_b2i, alg_i2b, alg_add, alg_sub, alg_mul, alg_quo, alg_rem, alg_wrap, alg_imin, alg_imax, alg_ilt, alg_ile, alg_ieq, alg_bnot, alg_beq, alg_ban, alg_seq, alg_len, alg_app, alg_cut, alg_get, alg_set, alg_rep, alg_inr, alg_inb, alg_cutb, alg_same, alg_few, alg_nne, alg_nng, alg_hid, alg_shl, alg_shr, alg_bits, decide_eq_true_eq, decide_eq_false_iff_not, beq_iff_eq, beq_eq_false_iff_ne, Bool.not_eq_true', Bool.not_eq_false', Bool.and_eq_true, Bool.and_true, Bool.true_and, and_true, true_and, ne_eq, Int.toNat_zero, Nat.sub_zero, List.drop_zero, i64_min, i64_max, u8_min, u8_max, ofNat_b2i, b2i_inj, Int.toNat_natCast, Int.ofNat_eq_natCast, UInt8.ofNat_toNat, AOut.ret.injEq, D.v.injEq, D.tup.injEq, V0.one.injEq, C.p.injEq, P.bool.injEq, P.int.injEq, P.str.injEq, Bool.false_eq_true, Bool.true_eq_false, imp_false, Decidable.not_not, not_true_eq_false, not_false_eq_true]
  exact hneed
def sCut__c (I : Alg) (args : List D) (hp : List HO) : Option CT := match args, hp with
  | [.v (.one (.p (.str s))), .v (.one (.p (.str ([c]))))], [] => (fun (s : Str) (c : UInt8) => (some (.one ⟨I.hid (s.length ≤ 1000000), (.ret (.tup [(.one (.p (.str (I.hid ((cutB s c).1))))), (.one (.p (.str (I.hid ((cutB s c).2.1))))), (.one (.p (.bool (I.hid ((cutB s c).2.2)))))])), []⟩) : Option CT)) s c
  | _, _ => none
theorem sCut__g : GoodC Tryd.prog 139 (sCut__c alg) := by
  intro args hp r h
  unfold sCut__c at h
  split at h
  · cases h; exact fun hn => sCut_ _ _ hn
  · cases h
def sCut__k : Know Tryd.prog := ⟨139, sCut__c, sCut__g⟩
def sCut__l : Know Tryd.prog := ⟨139, fun I => lendC I (sCut__c I), lendC_good sCut__g⟩

theorem parse_ (s : Str) (hneed : s.length ≤ 1000000) : Spc Tryd.prog 120 [.v (.one (.p (.str s)))] [] (.ret (.tup [(.agg [(.p (.str ((parseF s).1.name))), (.p (.str ((parseF s).1.value)))]), (.one (.p (.int .i64 ((parseF s).2))))])) [] := by
  generalize hr : parseF s = r
  obtain ⟨⟨a, b⟩, d⟩ := r
  refine spcG tab_ok mixed Tryd.func120 (by kernel_rfl) { keep := some [0, 2, 3, 4, 5, 6] } [isToken__k, isToken__l, isVisible__k, isVisible__l, cTrim__k, cTrim__l, sCut__k, sCut__l] (by kernel_rfl) ?_
  intro I X hI hX
  refine ev_rule (let y0 := I.hid (α := (List UInt8)) (Prod.fst (cutB s (58 : UInt8))); let y1 := I.hid (α := (List UInt8)) (Prod.fst (Prod.snd (cutB s (58 : UInt8)))); .need (I.hid (α := (Prop)) (LE.le (List.length s) 1000000)) (.br (I.bnot (I.hid (α := Bool) (Prod.snd (Prod.snd (cutB s (58 : UInt8)))))) (.fin (.ret (.tup [(.agg [(.p (.str ([] : List UInt8))), (.p (.str ([] : List UInt8)))]), (.one (.p (.int .i64 5)))])) []) (.need (I.hid (α := (Prop)) (LE.le (List.length y0) 1000000)) (.br (I.bnot (I.hid (α := Bool) (tokenA y0))) (.fin (.ret (.tup [(.agg [(.p (.str ([] : List UInt8))), (.p (.str ([] : List UInt8)))]), (.one (.p (.int .i64 6)))])) []) (.br (I.ilt 40 (I.len (α := UInt8) y0)) (.fin (.ret (.tup [(.agg [(.p (.str ([] : List UInt8))), (.p (.str ([] : List UInt8)))]), (.one (.p (.int .i64 4)))])) []) (.need (I.hid (α := (Prop)) (LE.le (List.length y1) 1000000)) (.br (I.bnot (I.hid (α := Bool) (seenA y1))) (.fin (.ret (.tup [(.agg [(.p (.str ([] : List UInt8))), (.p (.str ([] : List UInt8)))]), (.one (.p (.int .i64 3)))])) []) (.need (I.hid (α := (Prop)) True) (.fin (.ret (.tup [(.agg [(.p (.str y0)), (.p (.str (I.hid (α := (List UInt8)) (Go.Lib.trimS y1 ([32, 9] : List UInt8)))))]), (.one (.p (.int .i64 0)))])) []))))))))) (by kernel_rfl) ?_
  simp only [inst_need, inst_br, inst_both, inst_fin, inst_qed, inst_stop, inst_code]
  subst hI
  simp only [alg_b2i, alg_i2b, alg_add, alg_sub, alg_mul, alg_quo, alg_rem, alg_wrap, alg_imin, alg_imax, alg_ilt, alg_ile, alg_ieq, alg_bnot, alg_beq, alg_ban, alg_seq, alg_len, alg_app, alg_cut, alg_get, alg_set, alg_rep, alg_inr, alg_inb, alg_cutb, alg_same, alg_few, alg_nne, alg_nng, alg_hid, alg_shl, alg_shr, alg_bits, decide_eq_true_eq, decide_eq_false_iff_not, beq_iff_eq, beq_eq_false_iff_ne, Bool.not_eq_true', Bool.not_eq_false', Bool.and_eq_true, Bool.and_true, Bool.true_and, and_true, true_and, ne_eq, Int.toNat_zero, Nat.sub_zero, List.drop_zero, i64_min, i64_max, u8_min, u8_max, ofNat_b2i, b2i_inj, Int.toNat_natCast, Int.ofNat_eq_natCast, UInt8.ofNat_toNat, AOut.ret.injEq, D.v.injEq, D.tup.injEq, V0.one.injEq, C.p.injEq, P.bool.injEq, P.int.injEq, P.str.injEq, Bool.false_eq_true, Bool.true_eq_false, imp_false, Decidable.not_not, not_true_eq_false, not_false_eq_true]
  have hl := cutB_len s 58
  unfold parseF at hr
  (repeat' (first | refine And.intro ?_ ?_ | intro _)) <;> first | omega | exact True.intro | exact False.elim ‹False› | skip
  all_goals first
    | (rw [if_pos (by assumption)] at hr; cases hr; rfl)
    | (rw [if_neg (by simp [*]), if_pos (by assumption)] at hr; cases hr; rfl)
    | (rw [if_neg (by simp [*]), if_neg (by simp [*]), if_pos (by omega)] at hr; cases hr; rfl)
    | (rw [if_neg (by simp [*]), if_neg (by simp [*]), if_neg (by omega), if_pos (by assumption)] at hr; cases hr; rfl)
    | (rw [if_neg (by simp [*]), if_neg (by simp [*]), if_neg (by omega), if_neg (by simp [*])] at hr; cases hr; rfl)
def parse__c (I : Alg) (args : List D) (hp : List HO) : Option CT := match args, hp with
  | [.v (.one (.p (.str s)))], [] => (fun (s : Str) => (some (.one ⟨I.hid (s.length ≤ 1000000), (.ret (.tup [(.agg [(.p (.str (I.hid ((parseF s).1.name)))), (.p (.str (I.hid ((parseF s).1.value))))]), (.one (.p (.int .i64 (I.hid ((parseF s).2)))))])), []⟩) : Option CT)) s
  | _, _ => none
theorem parse__g : GoodC Tryd.prog 120 (parse__c alg) := by
  intro args hp r h
  unfold parse__c at h
  split at h
  · cases h; exact fun hn => parse_ _ hn
  · cases h
def parse__k : Know Tryd.prog := ⟨120, parse__c, parse__g⟩
def parse__l : Know Tryd.prog := ⟨120, fun I => lendC I (parse__c I), lendC_good parse__g⟩

theorem text_ (n v : Str) (hneed : n.length ≤ 1000000 ∧ v.length ≤ 1000000) : Spc Tryd.prog 73 [.v (.agg [(.p (.str n)), (.p (.str v))])] [] (.ret (.tup [(.one (.p (.str ((textF ⟨n, v⟩).1)))), (.one (.p (.int .i64 ((textF ⟨n, v⟩).2))))])) [] := by
  generalize hr : textF ⟨n, v⟩ = r
  obtain ⟨a, d⟩ := r
  refine spcG tab_ok mixed Tryd.func73 (by kernel_rfl) { keep := some [0, 1, 2, 3, 4] } [isToken__k, isToken__l, isVisible__k, isVisible__l, cTrim__k, cTrim__l] (by kernel_rfl) ?_
  intro I X hI hX
  refine ev_rule (.need (I.few (I.add (I.len (α := UInt8) n) (I.len (α := UInt8) (Array.toList (List.toArray ([58, 32] : List UInt8))))) 1000000000) (.need (I.few (I.add (I.len (α := UInt8) (I.app (α := UInt8) n (Array.toList (List.toArray ([58, 32] : List UInt8))))) (I.len (α := UInt8) v)) 1000000000) (.need (I.hid (α := (Prop)) (LE.le (List.length n) 1000000)) (.br (I.bnot (I.hid (α := Bool) (tokenA n))) (.fin (.ret (.tup [(.one (.p (.str (Array.toList (List.toArray ([] : List UInt8)))))), (.one (.p (.int .i64 6)))])) []) (.br (I.ilt 40 (I.len (α := UInt8) n)) (.fin (.ret (.tup [(.one (.p (.str (Array.toList (List.toArray ([] : List UInt8)))))), (.one (.p (.int .i64 4)))])) []) (.br (I.ilt 200 (I.len (α := UInt8) (I.app (α := UInt8) (I.app (α := UInt8) n (Array.toList (List.toArray ([58, 32] : List UInt8)))) v))) (.fin (.ret (.tup [(.one (.p (.str (Array.toList (List.toArray ([] : List UInt8)))))), (.one (.p (.int .i64 4)))])) []) (.need (I.hid (α := (Prop)) (LE.le (List.length v) 1000000)) (.br (I.bnot (I.hid (α := Bool) (seenA v))) (.fin (.ret (.tup [(.one (.p (.str (Array.toList (List.toArray ([] : List UInt8)))))), (.one (.p (.int .i64 3)))])) []) (.need (I.hid (α := (Prop)) True) (.br (I.bnot (I.seq (I.hid (α := (List UInt8)) (Go.Lib.trimS v ([32, 9] : List UInt8))) v)) (.fin (.ret (.tup [(.one (.p (.str (Array.toList (List.toArray ([] : List UInt8)))))), (.one (.p (.int .i64 3)))])) []) (.fin (.ret (.tup [(.one (.p (.str (I.app (α := UInt8) (I.app (α := UInt8) n (Array.toList (List.toArray ([58, 32] : List UInt8)))) v)))), (.one (.p (.int .i64 0)))])) []))))))))))) (by kernel_rfl) ?_
  simp only [inst_need, inst_br, inst_both, inst_fin, inst_qed, inst_stop, inst_code]
  subst hI
  simp only [alg_b2i, alg_i2b, alg_add, alg_sub, alg_mul, alg_quo, alg_rem, alg_wrap, alg_imin, alg_imax, alg_ilt, alg_ile, alg_ieq, alg_bnot, alg_beq, alg_ban, alg_seq, alg_len, alg_app, alg_cut, alg_get, alg_set, alg_rep, alg_inr, alg_inb, alg_cutb, alg_same, alg_few, alg_nne, alg_nng, alg_hid, alg_shl, alg_shr, alg_bits, decide_eq_true_eq, decide_eq_false_iff_not, beq_iff_eq, beq_eq_false_iff_ne, Bool.not_eq_true', Bool.not_eq_false', Bool.and_eq_true, Bool.and_true, Bool.true_and, and_true, true_and, ne_eq, Int.toNat_zero, Nat.sub_zero, List.drop_zero, i64_min, i64_max, u8_min, u8_max, ofNat_b2i, b2i_inj, Int.toNat_natCast, Int.ofNat_eq_natCast, UInt8.ofNat_toNat, AOut.ret.injEq, D.v.injEq, D.tup.injEq, V0.one.injEq, C.p.injEq, P.bool.injEq, P.int.injEq, P.str.injEq, Bool.false_eq_true, Bool.true_eq_false, imp_false, Decidable.not_not, not_true_eq_false, not_false_eq_true]
  simp only [List.length_append, List.length_cons, List.length_nil]
  unfold textF at hr
  simp only at hr
  (repeat' (first | refine And.intro ?_ ?_ | intro _)) <;> first | omega | exact True.intro | exact False.elim ‹False› | skip
  all_goals first
    | (rw [if_pos (by assumption)] at hr; cases hr; rfl)
    | (rw [if_neg (by simp [*]), if_pos (by omega)] at hr; cases hr; rfl)
    | (rw [if_neg (by simp [*]), if_neg (by omega), if_pos (.inl (by assumption))] at hr; cases hr; rfl)
    | (rw [if_neg (by simp [*]), if_neg (by omega), if_pos (.inr (by assumption))] at hr; cases hr; rfl)
    | (rw [if_neg (by simp [*]), if_neg (by omega), if_neg (by simp [*])] at hr; cases hr; rfl)
def text__c (I : Alg) (args : List D) (hp : List HO) : Option CT := match args, hp with
  | [.v (.agg [(.p (.str n)), (.p (.str v))])], [] => (fun (n v : Str) => (some (.one ⟨I.hid (n.length ≤ 1000000 ∧ v.length ≤ 1000000), (.ret (.tup [(.one (.p (.str (I.hid ((textF ⟨n, v⟩).1))))), (.one (.p (.int .i64 (I.hid ((textF ⟨n, v⟩).2)))))])), []⟩) : Option CT)) n v
  | _, _ => none
theorem text__g : GoodC Tryd.prog 73 (text__c alg) := by
  intro args hp r h
  unfold text__c at h
  split at h
  · cases h; exact fun hn => text_ _ _ hn
  · cases h
def text__k : Know Tryd.prog := ⟨73, text__c, text__g⟩
def text__l : Know Tryd.prog := ⟨73, fun I => lendC I (text__c I), lendC_good text__g⟩
end Go.Proofs.YtjapkdcomcgamaaDoor
