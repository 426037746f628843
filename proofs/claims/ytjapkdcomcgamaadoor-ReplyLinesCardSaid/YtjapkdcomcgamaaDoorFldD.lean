/- Fields of a head: values of a name. -/
import Derived.Test.YtjapkdcomcgamaaDoorFldB
set_option linter.all false
namespace Go.Proofs.YtjapkdcomcgamaaDoor
open Go Go.Sep Go.Ab
set_option maxRecDepth 100000

def valsF (l : List Fld) (n : Str) : List Str := (l.filter fun f => decide (lowS f.name = lowS n)).map (·.value)

theorem fAll_ (l : List Fld) (n : Str) (hneed : l.length ≤ 1000 ∧ n.length ≤ 1000000 ∧ ∀ f ∈ l, f.name.length ≤ 1000000 ∧ f.value.length ≤ 1000000) : Spc Tryd.prog 71 [.v (.one (.p (.list .fld l))), .v (.one (.p (.str n)))] [] (.ret (.v (.one (.row 0)))) [.row .str 9 ((valsF l n))] := by
  refine spcG tab_ok mixed Tryd.func71 (by kernel_rfl) { nr := [5], keep := some [0, 1, 4, 5, 7, 8, 9, 10] } [cLower__k, cLower__l] (by kernel_rfl) ?_
  intro I X hI hX
  refine ev_rule (.code 0 [1, 1, 0, 1, 0] ⟨[(10, (.v (.one (.p (.int .i64 0))))), (9, (.v (.one (.p (.int .i64 (I.len (α := Go.Ab.Fld) l)))))), (8, (.v (.one (.p (.list .fld l))))), (5, (.v (.one (.row 0)))), (4, (.v (.one .nilS))), (0, (.v (.one (.p (.list .fld l))))), (1, (.v (.one (.p (.str n)))))], [(.row .str 9 ([] : List (List UInt8)))], 27⟩) (by kernel_rfl) ?_
  simp only [inst_need, inst_br, inst_both, inst_fin, inst_qed, inst_stop, inst_code]
  refine loop_inv hI tab_ok mixed [cLower__k, cLower__l] hX [0, 1, 5, 8, 9, 10] (fun (g : Nat × List Str) => match g with | (i, o) => i ≤ l.length ∧ o = valsF (l.take i) n) (fun (g : Nat × List Str) => match g with | (i, o) => ⟨[(0, .v (.one (.p (.list .fld l)))), (1, .v (.one (.p (.str n)))), (5, .v (.one (.row 0))), (8, .v (.one (.p (.list .fld l)))), (9, .v (.one (.p (.int .i64 ((I.len (α := Fld) l)))))), (10, .v (.one (.p (.int .i64 i))))], [.row .str 9 o], 27⟩) (fun (g : Nat × List Str) => match g with | (i, o) => l.length - i) (0, []) (by kernel_rfl) (by kernel_rfl) ?_ ?_
  · exact ⟨Nat.zero_le _, rfl⟩
  rintro ⟨i, o⟩ ⟨h1, h2⟩ A hA
  simp only at hA
  refine ev_rule (.br (I.ilt (Nat.cast i) (I.len (α := Go.Ab.Fld) l)) (.need (I.inb (Nat.cast i) (I.len (α := Go.Ab.Fld) l)) (.need (I.inb (Nat.cast i) (I.len (α := Go.Ab.Fld) l)) (.need (I.hid (α := (Prop)) (LE.le (List.length (Go.Ab.Fld.name (I.get (α := Go.Ab.Fld) l (Go.Ab.Fld.mk ([] : List UInt8) ([] : List UInt8)) (Nat.cast i)))) 1000000)) (.need (I.hid (α := (Prop)) (LE.le (List.length n) 1000000)) (.br (I.seq (I.hid (α := (List UInt8)) (Go.Proofs.YtjapkdcomcgamaaDoor.lowS (Go.Ab.Fld.name (I.get (α := Go.Ab.Fld) l (Go.Ab.Fld.mk ([] : List UInt8) ([] : List UInt8)) (Nat.cast i))))) (I.hid (α := (List UInt8)) (Go.Proofs.YtjapkdcomcgamaaDoor.lowS n))) (.need (I.few (I.add (I.len (α := (List UInt8)) o) (I.len (α := (List UInt8)) ([(Go.Ab.Fld.value (I.get (α := Go.Ab.Fld) l (Go.Ab.Fld.mk ([] : List UInt8) ([] : List UInt8)) (Nat.cast i)))] : List (List UInt8)))) 100000000) (.need (I.inr Go.IntKind.i64 (I.add (Nat.cast i) 1)) (.need (A ⟨[(0, (.v (.one (.p (.list .fld l))))), (1, (.v (.one (.p (.str n))))), (5, (.v (.one (.row 0)))), (8, (.v (.one (.p (.list .fld l))))), (9, (.v (.one (.p (.int .i64 (I.len (α := Go.Ab.Fld) l)))))), (10, (.v (.one (.p (.int .i64 (I.add (Nat.cast i) 1))))))], [(.row .str 9 (I.app (α := (List UInt8)) o ([(Go.Ab.Fld.value (I.get (α := Go.Ab.Fld) l (Go.Ab.Fld.mk ([] : List UInt8) ([] : List UInt8)) (Nat.cast i)))] : List (List UInt8))))], 27⟩) .qed))) (.need (I.inr Go.IntKind.i64 (I.add (Nat.cast i) 1)) (.need (A ⟨[(0, (.v (.one (.p (.list .fld l))))), (1, (.v (.one (.p (.str n))))), (5, (.v (.one (.row 0)))), (8, (.v (.one (.p (.list .fld l))))), (9, (.v (.one (.p (.int .i64 (I.len (α := Go.Ab.Fld) l)))))), (10, (.v (.one (.p (.int .i64 (I.add (Nat.cast i) 1))))))], [(.row .str 9 o)], 27⟩) .qed))))))) (.fin (.ret (.v (.one (.row 0)))) [(.row .str 9 o)])) (by kernel_rfl) ?_
  simp only [inst_need, inst_br, inst_both, inst_fin, inst_qed, inst_stop, inst_code]
  subst hI
  simp only [alg_b2i, alg_i2b, alg_add, alg_sub, alg_mul, alg_quo, alg_rem, alg_wrap, alg_imin, alg_imax, alg_ilt, alg_ile, alg_ieq, alg_bnot, alg_beq, alg_ban, alg_seq, alg_len, alg_app, alg_cut, alg_get, alg_set, alg_rep, alg_inr, alg_inb, alg_cutb, alg_same, alg_few, alg_nne, alg_nng, alg_hid, alg_shl, alg_shr, alg_bits, decide_eq_true_eq, decide_eq_false_iff_not, beq_iff_eq, beq_eq_false_iff_ne, Bool.not_eq_true', Bool.not_eq_false', Bool.and_eq_true, Bool.and_true, Bool.true_and, and_true, true_and, ne_eq, Int.toNat_zero, Nat.sub_zero, List.drop_zero, i64_min, i64_max, u8_min, u8_max, ofNat_b2i, b2i_inj, Int.toNat_natCast, Int.ofNat_eq_natCast, UInt8.ofNat_toNat, AOut.ret.injEq, D.v.injEq, D.tup.injEq, V0.one.injEq, C.p.injEq, P.bool.injEq, P.int.injEq, P.str.injEq, Bool.false_eq_true, Bool.true_eq_false, imp_false, Decidable.not_not, not_true_eq_false, not_false_eq_true]
  have hx : i < l.length → (l.getD i ⟨[], []⟩) ∈ l := fun h => by rw [show l.getD i ⟨[], []⟩ = l[i] by simp [h]]; exact List.getElem_mem h
  have hs : i < l.length → valsF (l.take (i + 1)) n = if lowS (l.getD i ⟨[], []⟩).name = lowS n then o ++ [(l.getD i ⟨[], []⟩).value] else o := fun h => by
    rw [show l.getD i ⟨[], []⟩ = l[i] by simp [h], List.take_succ_eq_append_getElem h, h2]
    unfold valsF
    rw [List.filter_append, List.map_append]
    by_cases hc : lowS l[i].name = lowS n <;> simp [hc]
  have hol : o.length ≤ i := by
    rw [h2]
    unfold valsF
    rw [List.length_map]
    exact Nat.le_trans (List.length_filter_le _ _) (by rw [List.length_take]; omega)
  have hn := fun h => hneed.2.2 _ (hx h)
  generalize l.getD i ⟨[], []⟩ = x at *
  simp only [List.length_cons, List.length_nil]
  (repeat' (first | refine And.intro ?_ ?_ | intro _)) <;> first | omega | exact True.intro | exact False.elim ‹False› | skip
  all_goals first
    | (have := hn (by omega); omega)
    | exact hA (i + 1, _) ⟨by simp only; omega, by simp only; rw [hs (by omega), if_pos (by assumption)]⟩ (by simp only; omega)
    | exact hA (i + 1, _) ⟨by simp only; omega, by simp only; rw [hs (by omega), if_neg (by assumption)]⟩ (by simp only; omega)
    | (rw [h2, List.take_of_length_le (by omega)])
def fAll__c (I : Alg) (args : List D) (hp : List HO) : Option CT := match args, hp with
  | [.v (.one (.p (.list .fld l))), .v (.one (.p (.str n)))], [] => (fun (l : List Fld) (n : Str) => (some (.one ⟨I.hid (l.length ≤ 1000 ∧ n.length ≤ 1000000 ∧ ∀ f ∈ l, f.name.length ≤ 1000000 ∧ f.value.length ≤ 1000000), (.ret (.v (.one (.row 0)))), [.row .str 9 (I.hid ((valsF l n)))]⟩) : Option CT)) l n
  | _, _ => none
theorem fAll__g : GoodC Tryd.prog 71 (fAll__c alg) := by
  intro args hp r h
  unfold fAll__c at h
  split at h
  · cases h; exact fun hn => fAll_ _ _ hn
  · cases h
def fAll__k : Know Tryd.prog := ⟨71, fAll__c, fAll__g⟩
def fAll__l : Know Tryd.prog := ⟨71, fun I => lendC I (fAll__c I), lendC_good fAll__g⟩

theorem valuesOf_ (l : List Fld) (n : Str) (hneed : l.length ≤ 1000 ∧ n.length ≤ 1000000 ∧ ∀ f ∈ l, f.name.length ≤ 1000000 ∧ f.value.length ≤ 1000000) : Spc Tryd.prog 74 [.v (.one (.p (.list .fld l))), .v (.one (.p (.str n)))] [] (.ret (.v (.one (.row 0)))) [.row .str 9 ((valsF l n))] := by
  refine spcG tab_ok mixed Tryd.func74 (by kernel_rfl) { nr := [5], keep := some [0, 1, 4, 5, 6] } [small__k, small__l] (by kernel_rfl) ?_
  intro I X hI hX
  refine ev_rule (.code 0 [1, 1, 0, 1, 0] ⟨[(6, (.v (.one (.p (.int .i64 0))))), (5, (.v (.one (.row 0)))), (4, (.v (.one .nilS))), (0, (.v (.one (.p (.list .fld l))))), (1, (.v (.one (.p (.str n)))))], [(.row .str 9 ([] : List (List UInt8)))], 31⟩) (by kernel_rfl) ?_
  simp only [inst_need, inst_br, inst_both, inst_fin, inst_qed, inst_stop, inst_code]
  refine loop_inv hI tab_ok mixed [small__k, small__l] hX [0, 1, 5, 6] (fun (g : Nat × List Str) => match g with | (i, o) => i ≤ l.length ∧ o = valsF (l.take i) n) (fun (g : Nat × List Str) => match g with | (i, o) => ⟨[(0, .v (.one (.p (.list .fld l)))), (1, .v (.one (.p (.str n)))), (5, .v (.one (.row 0))), (6, .v (.one (.p (.int .i64 i))))], [.row .str 9 o], 31⟩) (fun (g : Nat × List Str) => match g with | (i, o) => l.length - i) (0, []) (by kernel_rfl) (by kernel_rfl) ?_ ?_
  · exact ⟨Nat.zero_le _, rfl⟩
  rintro ⟨i, o⟩ ⟨h1, h2⟩ A hA
  simp only at hA
  refine ev_rule (.br (I.ilt (Nat.cast i) (I.len (α := Go.Ab.Fld) l)) (.need (I.inb (Nat.cast i) (I.len (α := Go.Ab.Fld) l)) (.need (I.inb (Nat.cast i) (I.len (α := Go.Ab.Fld) l)) (.need (I.hid (α := (Prop)) (LE.le (List.length (Go.Ab.Fld.name (I.get (α := Go.Ab.Fld) l (Go.Ab.Fld.mk ([] : List UInt8) ([] : List UInt8)) (Nat.cast i)))) 1000000)) (.need (I.hid (α := (Prop)) (LE.le (List.length n) 1000000)) (.br (I.seq (I.hid (α := (List UInt8)) (Go.Proofs.YtjapkdcomcgamaaDoor.lowS (Go.Ab.Fld.name (I.get (α := Go.Ab.Fld) l (Go.Ab.Fld.mk ([] : List UInt8) ([] : List UInt8)) (Nat.cast i))))) (I.hid (α := (List UInt8)) (Go.Proofs.YtjapkdcomcgamaaDoor.lowS n))) (.need (I.inb (Nat.cast i) (I.len (α := Go.Ab.Fld) l)) (.need (I.inb (Nat.cast i) (I.len (α := Go.Ab.Fld) l)) (.need (I.few (I.add (I.len (α := (List UInt8)) o) (I.len (α := (List UInt8)) ([(Go.Ab.Fld.value (I.get (α := Go.Ab.Fld) l (Go.Ab.Fld.mk ([] : List UInt8) ([] : List UInt8)) (Nat.cast i)))] : List (List UInt8)))) 100000000) (.need (I.inr Go.IntKind.i64 (I.add (Nat.cast i) 1)) (.need (A ⟨[(0, (.v (.one (.p (.list .fld l))))), (1, (.v (.one (.p (.str n))))), (5, (.v (.one (.row 0)))), (6, (.v (.one (.p (.int .i64 (I.add (Nat.cast i) 1))))))], [(.row .str 9 (I.app (α := (List UInt8)) o ([(Go.Ab.Fld.value (I.get (α := Go.Ab.Fld) l (Go.Ab.Fld.mk ([] : List UInt8) ([] : List UInt8)) (Nat.cast i)))] : List (List UInt8))))], 31⟩) .qed))))) (.need (I.inr Go.IntKind.i64 (I.add (Nat.cast i) 1)) (.need (A ⟨[(0, (.v (.one (.p (.list .fld l))))), (1, (.v (.one (.p (.str n))))), (5, (.v (.one (.row 0)))), (6, (.v (.one (.p (.int .i64 (I.add (Nat.cast i) 1))))))], [(.row .str 9 o)], 31⟩) .qed))))))) (.fin (.ret (.v (.one (.row 0)))) [(.row .str 9 o)])) (by kernel_rfl) ?_
  simp only [inst_need, inst_br, inst_both, inst_fin, inst_qed, inst_stop, inst_code]
  subst hI
  simp only [alg_b2i, alg_i2b, alg_add, alg_sub, alg_mul, alg_quo, alg_rem, alg_wrap, alg_imin, alg_imax, alg_ilt, alg_ile, alg_ieq, alg_bnot, alg_beq, alg_ban, alg_seq, alg_len, alg_app, alg_cut, alg_get, alg_set, alg_rep, alg_inr, alg_inb, alg_cutb, alg_same, alg_few, alg_nne, alg_nng, alg_hid, alg_shl, alg_shr, alg_bits, decide_eq_true_eq, decide_eq_false_iff_not, beq_iff_eq, beq_eq_false_iff_ne, Bool.not_eq_true', Bool.not_eq_false', Bool.and_eq_true, Bool.and_true, Bool.true_and, and_true, true_and, ne_eq, Int.toNat_zero, Nat.sub_zero, List.drop_zero, i64_min, i64_max, u8_min, u8_max, ofNat_b2i, b2i_inj, Int.toNat_natCast, Int.ofNat_eq_natCast, UInt8.ofNat_toNat, AOut.ret.injEq, D.v.injEq, D.tup.injEq, V0.one.injEq, C.p.injEq, P.bool.injEq, P.int.injEq, P.str.injEq, Bool.false_eq_true, Bool.true_eq_false, imp_false, Decidable.not_not, not_true_eq_false, not_false_eq_true]
  have hx : i < l.length → (l.getD i ⟨[], []⟩) ∈ l := fun h => by rw [show l.getD i ⟨[], []⟩ = l[i] by simp [h]]; exact List.getElem_mem h
  have hs : i < l.length → valsF (l.take (i + 1)) n = if lowS (l.getD i ⟨[], []⟩).name = lowS n then o ++ [(l.getD i ⟨[], []⟩).value] else o := fun h => by
    rw [show l.getD i ⟨[], []⟩ = l[i] by simp [h], List.take_succ_eq_append_getElem h, h2]
    unfold valsF
    rw [List.filter_append, List.map_append]
    by_cases hc : lowS l[i].name = lowS n <;> simp [hc]
  have hol : o.length ≤ i := by
    rw [h2]
    unfold valsF
    rw [List.length_map]
    exact Nat.le_trans (List.length_filter_le _ _) (by rw [List.length_take]; omega)
  have hn := fun h => hneed.2.2 _ (hx h)
  generalize l.getD i ⟨[], []⟩ = x at *
  simp only [List.length_cons, List.length_nil]
  (repeat' (first | refine And.intro ?_ ?_ | intro _)) <;> first | omega | exact True.intro | exact False.elim ‹False› | skip
  all_goals first
    | (have := hn (by omega); omega)
    | exact hA (i + 1, _) ⟨by simp only; omega, by simp only; rw [hs (by omega), if_pos (by assumption)]⟩ (by simp only; omega)
    | exact hA (i + 1, _) ⟨by simp only; omega, by simp only; rw [hs (by omega), if_neg (by assumption)]⟩ (by simp only; omega)
    | (rw [h2, List.take_of_length_le (by omega)])
def valuesOf__c (I : Alg) (args : List D) (hp : List HO) : Option CT := match args, hp with
  | [.v (.one (.p (.list .fld l))), .v (.one (.p (.str n)))], [] => (fun (l : List Fld) (n : Str) => (some (.one ⟨I.hid (l.length ≤ 1000 ∧ n.length ≤ 1000000 ∧ ∀ f ∈ l, f.name.length ≤ 1000000 ∧ f.value.length ≤ 1000000), (.ret (.v (.one (.row 0)))), [.row .str 9 (I.hid ((valsF l n)))]⟩) : Option CT)) l n
  | _, _ => none
theorem valuesOf__g : GoodC Tryd.prog 74 (valuesOf__c alg) := by
  intro args hp r h
  unfold valuesOf__c at h
  split at h
  · cases h; exact fun hn => valuesOf_ _ _ hn
  · cases h
def valuesOf__k : Know Tryd.prog := ⟨74, valuesOf__c, valuesOf__g⟩
def valuesOf__l : Know Tryd.prog := ⟨74, fun I => lendC I (valuesOf__c I), lendC_good valuesOf__g⟩
end Go.Proofs.YtjapkdcomcgamaaDoor
