/- A reply: the law ReplyDoes. -/
import Derived.Test.YtjapkdcomcgamaaDoorRplA
import Derived.Test.YtjapkdcomcgamaaDoorBase
set_option linter.all false
namespace Go.Proofs.YtjapkdcomcgamaaDoor
open Go Go.Sep Go.Ab
set_option maxRecDepth 100000

theorem rBegun_  : Spc Tryd.prog 36 [] [] (.ret (.v (.one (.p (.bool true))))) [] := by
  refine spcG tab_ok mixed Tryd.func36 (by kernel_rfl) { fz := [38], keep := some [0, 1, 2] } [word__k, word__l, rWrite__k, rWrite__l] (by kernel_rfl) ?_
  intro I X hI hX
  refine ev_rule (.need (I.hid (α := (Prop)) (And (And (LE.le (List.length ([(Go.Ab.Fld.mk (Array.toList (List.toArray ([65] : List UInt8))) (Array.toList (List.toArray ([98] : List UInt8))))] : List Go.Ab.Fld)) 100) (∀ (f : Fld),
    f ∈ [Fld.mk (ByteArray.mk #[65]).data.toList (ByteArray.mk #[98]).data.toList] →
      List.length f.name ≤ 1000000 ∧ List.length f.value ≤ 1000000)) (LE.le (List.length ([] : List UInt8)) 9000))) (.br (I.ieq (I.hid (α := Int) (Go.Proofs.YtjapkdcomcgamaaDoor.writeC (204 : Int) ([(Go.Ab.Fld.mk (Array.toList (List.toArray ([65] : List UInt8))) (Array.toList (List.toArray ([98] : List UInt8))))] : List Go.Ab.Fld))) 0) (.br (I.seq (I.hid (α := (List UInt8)) (Go.Proofs.YtjapkdcomcgamaaDoor.writeT (204 : Int) ([(Go.Ab.Fld.mk (Array.toList (List.toArray ([65] : List UInt8))) (Array.toList (List.toArray ([98] : List UInt8))))] : List Go.Ab.Fld) ([] : List UInt8))) (Array.toList (List.toArray ([72, 84, 84, 80, 47, 49, 46, 49, 32, 50, 48, 52, 32, 78, 111, 32, 67, 111, 110, 116, 101, 110, 116, 13, 10, 65, 58, 32, 98, 13, 10, 67, 111, 110, 116, 101, 110, 116, 45, 76, 101, 110, 103, 116, 104, 58, 32, 48, 13, 10, 13, 10] : List UInt8)))) (.need (I.hid (α := (Prop)) True) (.fin (.ret (.v (.one (.p (.bool (I.seq (I.hid (α := (List UInt8)) (Go.Proofs.YtjapkdcomcgamaaDoor.wordM (200 : Int))) (Array.toList (List.toArray ([79, 75] : List UInt8))))))))) [])) (.fin (.ret (.v (.one (.p (.bool Bool.false))))) [])) (.fin (.ret (.v (.one (.p (.bool Bool.false))))) []))) (by kernel_rfl) ?_
  simp only [inst_need, inst_br, inst_both, inst_fin, inst_qed, inst_stop, inst_code]
  subst hI
  simp only [alg_b2i, alg_i2b, alg_add, alg_sub, alg_mul, alg_quo, alg_rem, alg_wrap, alg_imin, alg_imax, alg_ilt, alg_ile, alg_ieq, alg_bnot, alg_beq, alg_ban, alg_seq, alg_len, alg_app, alg_cut, alg_get, alg_set, alg_rep, alg_inr, alg_inb, alg_cutb, alg_same, alg_few, alg_nne, alg_nng, alg_hid, alg_shl, alg_shr, alg_bits, decide_eq_true_eq, decide_eq_false_iff_not, beq_iff_eq, beq_eq_false_iff_ne, Bool.not_eq_true', Bool.not_eq_false', Bool.and_eq_true, Bool.and_true, Bool.true_and, and_true, true_and, ne_eq, Int.toNat_zero, Nat.sub_zero, List.drop_zero, i64_min, i64_max, u8_min, u8_max, ofNat_b2i, b2i_inj, Int.toNat_natCast, Int.ofNat_eq_natCast, UInt8.ofNat_toNat, AOut.ret.injEq, D.v.injEq, D.tup.injEq, V0.one.injEq, C.p.injEq, P.bool.injEq, P.int.injEq, P.str.injEq, Bool.false_eq_true, Bool.true_eq_false, imp_false, Decidable.not_not, not_true_eq_false, not_false_eq_true, List.cons.injEq, P.list.injEq, HO.row.injEq, heq_eq_eq, reduceCtorEq, false_and, and_false]
  refine ⟨⟨⟨by decide, fun f hf => by rw [List.mem_singleton.1 hf]; decide⟩, by decide⟩, ?_⟩
  decide +kernel
def rBegun__c (I : Alg) (args : List D) (hp : List HO) : Option CT := match args, hp with
  | [], [] => (fun (_ : Unit) => (some (.one ⟨I.hid (True), (.ret (.v (.one (.p (.bool true))))), []⟩) : Option CT)) ()
  | _, _ => none
theorem rBegun__g : GoodC Tryd.prog 36 (rBegun__c alg) := by
  intro args hp r h
  unfold rBegun__c at h
  split at h
  · cases h; exact fun hn => rBegun_ 
  · cases h
def rBegun__k : Know Tryd.prog := ⟨36, rBegun__c, rBegun__g⟩
def rBegun__l : Know Tryd.prog := ⟨36, fun I => lendC I (rBegun__c I), lendC_good rBegun__g⟩

theorem greatF_of {l : List Fld} (h : greatF l = false) : l.length ≤ 100 ∧ ∀ f ∈ l, f.name.length ≤ 1000000 ∧ f.value.length ≤ 1000000 := by
  unfold greatF at h
  simp only [Bool.or_eq_false_iff, decide_eq_false_iff_not, List.any_eq_false, decide_eq_true_eq] at h
  exact ⟨by omega, fun f hf => by have := h.2 f hf; omega⟩

set_option maxHeartbeats 4000000 in
theorem rDoes_ (st : Int) (fs : List Fld) (b : Str) (n : Int) (hneed : ∀ f ∈ fs, f.name.length ≤ 140737488355328 ∧ f.value.length ≤ 140737488355328) : Spc Tryd.prog 5 [.v (.agg [(.p (.int .i64 st)), (.p (.list .fld fs)), (.p (.list .byte b))]), .v (.one (.p (.int .i64 n)))] [] (.ret (.v (.one (.p (.bool true))))) [] := by
  have hg := greatF_of (l := fs)
  refine spcG tab_ok mixed Tryd.func5 (by kernel_rfl) { keep := some [0, 1, 2, 4, 5, 6, 7, 8] } [great__k, great__l, word__k, word__l, statusWord__k, statusWord__l, rWrite__k, rWrite__l, replyText__k, replyText__l, sameBytes__k, sameBytes__l, rBegun__k, rBegun__l] (by kernel_rfl) ?_
  intro I X hI hX
  refine ev_rule (.need (I.hid (α := (Prop)) True) (.br (I.bnot Bool.true) (.fin (.ret (.v (.one (.p (.bool Bool.false))))) []) (.need (I.hid (α := (Prop)) (∀ (f : Fld), f ∈ fs → List.length f.name ≤ 140737488355328 ∧ List.length f.value ≤ 140737488355328)) (.br (I.hid (α := Bool) (Go.Proofs.YtjapkdcomcgamaaDoor.greatF fs)) (.fin (.ret (.v (.one (.p (.bool Bool.true))))) []) (.br (I.ilt 9000 (I.len (α := UInt8) b)) (.fin (.ret (.v (.one (.p (.bool Bool.true))))) []) (.need (I.hid (α := (Prop)) (And (And (LE.le (List.length fs) 100) (∀ (f : Fld), f ∈ fs → List.length f.name ≤ 1000000 ∧ List.length f.value ≤ 1000000)) (LE.le (List.length b) 9000))) (.need (I.hid (α := (Prop)) (And (And (LE.le (List.length fs) 100) (∀ (f : Fld), f ∈ fs → List.length f.name ≤ 1000000 ∧ List.length f.value ≤ 1000000)) (LE.le (List.length b) 9000))) (.need (I.hid (α := (Prop)) True) (.br (I.hid (α := Bool) (BEq.beq (I.hid (α := (List UInt8)) (Go.Proofs.YtjapkdcomcgamaaDoor.writeT st fs b)) (I.hid (α := (List UInt8)) (Go.Proofs.YtjapkdcomcgamaaDoor.writeT st fs b)))) (.br (I.ieq (I.hid (α := Int) (Go.Proofs.YtjapkdcomcgamaaDoor.writeC st fs)) (I.hid (α := Int) (Go.Proofs.YtjapkdcomcgamaaDoor.writeC st fs))) (.need (I.hid (α := (Prop)) True) (.need (I.hid (α := (Prop)) True) (.fin (.ret (.v (.one (.p (.bool (I.seq (I.hid (α := (List UInt8)) (Go.Proofs.YtjapkdcomcgamaaDoor.wordM n)) (I.hid (α := (List UInt8)) (Go.Proofs.YtjapkdcomcgamaaDoor.wordM n)))))))) []))) (.fin (.ret (.v (.one (.p (.bool Bool.false))))) [])) (.fin (.ret (.v (.one (.p (.bool Bool.false))))) [])))))))))) (by kernel_rfl) ?_
  simp only [inst_need, inst_br, inst_both, inst_fin, inst_qed, inst_stop, inst_code]
  subst hI
  simp only [alg_b2i, alg_i2b, alg_add, alg_sub, alg_mul, alg_quo, alg_rem, alg_wrap, alg_imin, alg_imax, alg_ilt, alg_ile, alg_ieq, alg_bnot, alg_beq, alg_ban, alg_seq, alg_len, alg_app, alg_cut, alg_get, alg_set, alg_rep, alg_inr, alg_inb, alg_cutb, alg_same, alg_few, alg_nne, alg_nng, alg_hid, alg_shl, alg_shr, alg_bits, decide_eq_true_eq, decide_eq_false_iff_not, beq_iff_eq, beq_eq_false_iff_ne, Bool.not_eq_true', Bool.not_eq_false', Bool.and_eq_true, Bool.and_true, Bool.true_and, and_true, true_and, ne_eq, Int.toNat_zero, Nat.sub_zero, List.drop_zero, i64_min, i64_max, u8_min, u8_max, ofNat_b2i, b2i_inj, Int.toNat_natCast, Int.ofNat_eq_natCast, UInt8.ofNat_toNat, AOut.ret.injEq, D.v.injEq, D.tup.injEq, V0.one.injEq, C.p.injEq, P.bool.injEq, P.int.injEq, P.str.injEq, Bool.false_eq_true, Bool.true_eq_false, imp_false, Decidable.not_not, not_true_eq_false, not_false_eq_true, List.cons.injEq, P.list.injEq, HO.row.injEq, heq_eq_eq, reduceCtorEq, false_and, and_false]
  (repeat' (first | refine And.intro ?_ ?_ | intro _)) <;> first | omega | exact True.intro | exact False.elim ‹False› | skip
  all_goals first
    | trivial
    | exact (hneed _ ‹_›).1
    | exact (hneed _ ‹_›).2
    | exact (hg ‹_›).1
    | exact ((hg ‹_›).2 _ ‹_›).1
    | exact ((hg ‹_›).2 _ ‹_›).2
    | contradiction
end Go.Proofs.YtjapkdcomcgamaaDoor
