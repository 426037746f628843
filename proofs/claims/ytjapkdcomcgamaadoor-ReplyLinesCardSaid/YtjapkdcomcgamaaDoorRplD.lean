/- A reply: the law ReplyLines. -/
import Derived.Test.YtjapkdcomcgamaaDoorRplB
import Derived.Test.YtjapkdcomcgamaaDoorRplC
import Derived.Test.YtjapkdcomcgamaaDoorRplP
set_option linter.all false
namespace Go.Proofs.YtjapkdcomcgamaaDoor
open Go Go.Sep Go.Ab
set_option maxRecDepth 100000

set_option maxHeartbeats 4000000 in
theorem rLines_ (st : Int) (fs : List Fld) (b : Str) (hneed : ∀ f ∈ fs, f.name.length ≤ 140737488355328 ∧ f.value.length ≤ 140737488355328) : Spc Tryd.prog 6 [.v (.agg [(.p (.int .i64 st)), (.p (.list .fld fs)), (.p (.list .byte b))])] [] (.ret (.v (.one (.p (.bool true))))) [] := by
  have hg := greatF_of (l := fs)
  have hlr := lnsR (st := st) (fs := fs) (b.length : Int)
  have hwl := writeT_lines (st := st) (fs := fs) (body := b)
  have hwn : ¬ writeC st fs = 0 → writeT st fs b = [] := fun h => by unfold writeT; rw [if_neg h]
  have hwo := writeC_ok (st := st) (fs := fs)
  generalize hwt : writeT st fs b = t at *
  generalize hwc : writeC st fs = c at *
  refine spcG tab_ok mixed Tryd.func6 (by kernel_rfl) { nr := [6], fz := [43], keep := some [0, 1, 2, 3, 4, 5, 6, 7, 8, 9, 10, 11, 12, 13] } [fieldOf__k, fieldOf__l, great__k, great__l, num__k, num__l, word__k, word__l, rWrite__k, rWrite__l, sameBytes__k, sameBytes__l, rBegun__k, rBegun__l, lineOf__k, lineOf__l, sameF__k, sameF__l] (by kernel_rfl) ?_
  intro I X hI hX
  refine ev_rule (.need (I.hid (α := (Prop)) True) (.br (I.bnot Bool.true) (.fin (.ret (.v (.one (.p (.bool Bool.false))))) []) (.need (I.hid (α := (Prop)) (∀ (f : Fld), f ∈ fs → List.length f.name ≤ 140737488355328 ∧ List.length f.value ≤ 140737488355328)) (.br (I.hid (α := Bool) (Go.Proofs.YtjapkdcomcgamaaDoor.greatF fs)) (.fin (.ret (.v (.one (.p (.bool Bool.true))))) []) (.br (I.ilt 9000 (I.len (α := UInt8) b)) (.fin (.ret (.v (.one (.p (.bool Bool.true))))) []) (.need (I.hid (α := (Prop)) (And (And (LE.le (List.length fs) 100) (∀ (f : Fld), f ∈ fs → List.length f.name ≤ 1000000 ∧ List.length f.value ≤ 1000000)) (LE.le (List.length b) 9000))) (.br (I.bnot (I.ieq (I.hid (α := Int) (Go.Proofs.YtjapkdcomcgamaaDoor.writeC st fs)) 0)) (.fin (.ret (.v (.one (.p (.bool (I.ieq (I.len (α := UInt8) (I.hid (α := (List UInt8)) (Go.Proofs.YtjapkdcomcgamaaDoor.writeT st fs b))) 0)))))) []) (.code 0 [1, 1, 1, 1, 1, 1, 1, 0, 1, 0] ⟨[(7, (.v (.one (.p (.int .i64 0))))), (6, (.v (.one (.row 1)))), (5, (.v (.one (.p (.int .i64 0))))), (4, (.v (.one (.p (.int .i64 (I.hid (α := Int) (Go.Proofs.YtjapkdcomcgamaaDoor.writeC st fs))))))), (3, (.v (.one (.p (.list .byte (I.hid (α := (List UInt8)) (Go.Proofs.YtjapkdcomcgamaaDoor.writeT st fs b))))))), (2, (.v (.one (.p (.val (.bool .false)))))), (1, (.v (.one (.ptr 0 0)))), (0, (.v (.agg [(.p (.int .i64 st)), (.p (.list .fld fs)), (.p (.list .byte b))])))], [(.obj 50 [(.p (.int .i64 st)), (.p (.list .fld fs)), (.p (.list .byte b))]), (.row .fld 60 ([] : List Go.Ab.Fld))], 117⟩)))))))) (by kernel_rfl) ?_
  simp only [inst_need, inst_br, inst_both, inst_fin, inst_qed, inst_stop, inst_code]
  rw [show I.hid (writeT st fs b) = t by subst hI; exact hwt, show I.hid (writeC st fs) = c by subst hI; exact hwc]
  (repeat' (first | refine And.intro ?_ ?_ | intro _))
  all_goals try (subst hI; (simp only [alg_b2i, alg_i2b, alg_add, alg_sub, alg_mul, alg_quo, alg_rem, alg_wrap, alg_imin, alg_imax, alg_ilt, alg_ile, alg_ieq, alg_bnot, alg_beq, alg_ban, alg_seq, alg_len, alg_app, alg_cut, alg_get, alg_set, alg_rep, alg_inr, alg_inb, alg_cutb, alg_same, alg_few, alg_nne, alg_nng, alg_hid, alg_shl, alg_shr, alg_bits, decide_eq_true_eq, decide_eq_false_iff_not, beq_iff_eq, beq_eq_false_iff_ne, Bool.not_eq_true', Bool.not_eq_false', Bool.and_eq_true, Bool.and_true, Bool.true_and, and_true, true_and, ne_eq, Int.toNat_zero, Nat.sub_zero, List.drop_zero, i64_min, i64_max, u8_min, u8_max, ofNat_b2i, b2i_inj, Int.toNat_natCast, Int.ofNat_eq_natCast, UInt8.ofNat_toNat, AOut.ret.injEq, D.v.injEq, D.tup.injEq, V0.one.injEq, C.p.injEq, P.bool.injEq, P.int.injEq, P.str.injEq, Bool.false_eq_true, Bool.true_eq_false, imp_false, Decidable.not_not, not_true_eq_false, not_false_eq_true] at *); first | done | trivial | exact hneed | contradiction | (simp at *; done) | exact ⟨hg ‹_›, by omega⟩ | (rw [hwn ‹_›]; rfl))
  have hc0 : c = 0 ∧ b.length ≤ 9000 ∧ fs.length ≤ 100 ∧ ∀ f ∈ fs, f.name.length ≤ 1000000 ∧ f.value.length ≤ 1000000 := by
    subst hI
    simp only [alg_b2i, alg_i2b, alg_add, alg_sub, alg_mul, alg_quo, alg_rem, alg_wrap, alg_imin, alg_imax, alg_ilt, alg_ile, alg_ieq, alg_bnot, alg_beq, alg_ban, alg_seq, alg_len, alg_app, alg_cut, alg_get, alg_set, alg_rep, alg_inr, alg_inb, alg_cutb, alg_same, alg_few, alg_nne, alg_nng, alg_hid, alg_shl, alg_shr, alg_bits, decide_eq_true_eq, decide_eq_false_iff_not, beq_iff_eq, beq_eq_false_iff_ne, Bool.not_eq_true', Bool.not_eq_false', Bool.and_eq_true, Bool.and_true, Bool.true_and, and_true, true_and, ne_eq, Int.toNat_zero, Nat.sub_zero, List.drop_zero, i64_min, i64_max, u8_min, u8_max, ofNat_b2i, b2i_inj, Int.toNat_natCast, Int.ofNat_eq_natCast, UInt8.ofNat_toNat, AOut.ret.injEq, D.v.injEq, D.tup.injEq, V0.one.injEq, C.p.injEq, P.bool.injEq, P.int.injEq, P.str.injEq, Bool.false_eq_true, Bool.true_eq_false, imp_false, Decidable.not_not, not_true_eq_false, not_false_eq_true] at *
    exact ⟨by assumption, by omega, hg ‹_›⟩
  obtain ⟨rfl, hb9, hf1, hf2⟩ := hc0
  have hlr := hlr rfl
  have hwl := hwl rfl
  obtain ⟨hw1, hw2, hw3⟩ := hwo rfl
  have hst := wordM_few hw1
  generalize hLL : linesR st fs (b.length : Int) = LL at *
  have hlen : LL.length = fs.length + 3 := by rw [← hLL]; exact hlr.len
  have hdrop : ∀ i (h : i < LL.length), t.drop (joinR (LL.take i)).length = LL[i] ++ 13 :: 10 :: (joinR (LL.drop (i + 1)) ++ b) := fun i h => by rw [hwl]; exact join_drop b h
  have hok : ∀ i (h : i < LL.length), seenA LL[i] = true ∧ LL[i].length ≤ 200 := by rw [← hLL]; exact hlr.ok
  have hzero : LL[0]? = some (statS st) := by rw [← hLL]; exact hlr.zero
  have hfld : ∀ i f, (fs ++ [clenF b.length])[i]? = some f → ∃ s, LL[i + 1]? = some s ∧ s ≠ [] ∧ parseF s = (f, 0) := by rw [← hLL]; exact hlr.fld
  have hlast : LL[fs.length + 2]? = some [] := by rw [← hLL]; exact hlr.last
  have hline : ∀ i (h : i < LL.length), lineOf (t.drop (joinR (LL.take i)).length) = (LL[i], (LL[i].length : Int) + 2, true, 0) := fun i h => by rw [hdrop i h]; exact lineOf_app _ (hok i h).1 (hok i h).2
  have hall : (joinR LL).length + b.length = t.length := by rw [hwl, List.length_append]
  have htl : t.length ≤ 20000 := by
    rw [hwl, List.length_append]
    have : ∀ l : List Str, (∀ i (h : i < l.length), l[i].length ≤ 200) → (joinR l).length ≤ 202 * l.length := by
      intro l
      induction l with
      | nil => intro _; simp [joinR]
      | cons s l ih =>
        intro h
        have h0 := h 0 (by simp)
        have h1 := ih (fun i hi => by have := h (i + 1) (by simpa using hi); simpa using this)
        simp only [List.getElem_cons_zero] at h0
        simp only [joinR, List.length_append, List.length_cons]; omega
    have := this LL (fun i h => (hok i h).2)
    omega
  have hat : ∀ i, (joinR (LL.take i)).length ≤ (joinR LL).length := fun i => by
    have := congrArg (fun l => (joinR l).length) (List.take_append_drop i LL)
    simp only [joinR_app, List.length_append] at this
    omega
  refine loop_inv hI tab_ok mixed [fieldOf__k, fieldOf__l, great__k, great__l, num__k, num__l, word__k, word__l, rWrite__k, rWrite__l, sameBytes__k, sameBytes__l, rBegun__k, rBegun__l, lineOf__k, lineOf__l, sameF__k, sameF__l] hX [1, 3, 5, 6, 7] (fun (g : Nat × Nat × List Fld) => match g with | (i, k, l) => i ≤ fs.length + 2 ∧ k = (joinR (LL.take i)).length ∧ l = (fs ++ [clenF b.length]).take (i - 1)) (fun (g : Nat × Nat × List Fld) => match g with | (i, k, l) => ⟨[(1, .v (.one (.ptr 0 0))), (3, .v (.one (.p (.list .byte t)))), (5, .v (.one (.p (.int .i64 k)))), (6, .v (.one (.row 1))), (7, .v (.one (.p (.int .i64 i))))], [.pack [.obj 50 [(.p (.int .i64 st)), (.p (.list .fld fs)), (.p (.list .byte b))]], .row .fld 60 l], 117⟩) (fun (g : Nat × Nat × List Fld) => match g with | (i, k, l) => fs.length + 3 - i) (0, 0, []) (by kernel_rfl) (by kernel_rfl) ?_ ?_
  · exact ⟨Nat.zero_le _, rfl, rfl⟩
  rintro ⟨i, k, l⟩ ⟨h1, h2, h3⟩ A hA
  simp only at hA h1 h2 h3
  refine ev_rule (.need (I.cutb (Int.ofNat k) (I.len (α := UInt8) t) (I.len (α := UInt8) t)) (.need (I.hid (α := (Prop)) (LE.le (List.length (I.cut (α := UInt8) t (Int.ofNat k) (I.len (α := UInt8) t))) 1000000)) (.br (I.bnot (I.hid (α := Bool) (Prod.fst (Prod.snd (Prod.snd (Go.Proofs.YtjapkdcomcgamaaDoor.lineOf (I.cut (α := UInt8) t (Int.ofNat k) (I.len (α := UInt8) t)))))))) (.fin (.ret (.v (.one (.p (.bool Bool.false))))) []) (.br (I.bnot (I.ieq (I.hid (α := Int) (Prod.snd (Prod.snd (Prod.snd (Go.Proofs.YtjapkdcomcgamaaDoor.lineOf (I.cut (α := UInt8) t (Int.ofNat k) (I.len (α := UInt8) t))))))) 0)) (.fin (.ret (.v (.one (.p (.bool Bool.false))))) []) (.need (I.inr Go.IntKind.i64 (I.add (Nat.cast k) (I.hid (α := Int) (Prod.fst (Prod.snd (Go.Proofs.YtjapkdcomcgamaaDoor.lineOf (I.cut (α := UInt8) t (Int.ofNat k) (I.len (α := UInt8) t)))))))) (.br (I.ieq (Nat.cast i) 0) (.need (I.hid (α := (Prop)) (And (LE.le (0 : Int) st) (LT.lt st (10000 : Int)))) (.need (I.few (I.add (I.len (α := UInt8) (Array.toList (List.toArray ([72, 84, 84, 80, 47, 49, 46, 49, 32] : List UInt8)))) (I.len (α := UInt8) (I.hid (α := (List UInt8)) (Go.Proofs.YtjapkdcomcgamaaDoor.decS st)))) 1000000000) (.need (I.few (I.add (I.len (α := UInt8) (I.app (α := UInt8) (Array.toList (List.toArray ([72, 84, 84, 80, 47, 49, 46, 49, 32] : List UInt8))) (I.hid (α := (List UInt8)) (Go.Proofs.YtjapkdcomcgamaaDoor.decS st)))) (I.len (α := UInt8) (Array.toList (List.toArray ([32] : List UInt8))))) 1000000000) (.need (I.hid (α := (Prop)) True) (.need (I.few (I.add (I.len (α := UInt8) (I.app (α := UInt8) (I.app (α := UInt8) (Array.toList (List.toArray ([72, 84, 84, 80, 47, 49, 46, 49, 32] : List UInt8))) (I.hid (α := (List UInt8)) (Go.Proofs.YtjapkdcomcgamaaDoor.decS st))) (Array.toList (List.toArray ([32] : List UInt8))))) (I.len (α := UInt8) (I.hid (α := (List UInt8)) (Go.Proofs.YtjapkdcomcgamaaDoor.wordM st)))) 1000000000) (.br (I.bnot (I.seq (I.hid (α := (List UInt8)) (Prod.fst (Go.Proofs.YtjapkdcomcgamaaDoor.lineOf (I.cut (α := UInt8) t (Int.ofNat k) (I.len (α := UInt8) t))))) (I.app (α := UInt8) (I.app (α := UInt8) (I.app (α := UInt8) (Array.toList (List.toArray ([72, 84, 84, 80, 47, 49, 46, 49, 32] : List UInt8))) (I.hid (α := (List UInt8)) (Go.Proofs.YtjapkdcomcgamaaDoor.decS st))) (Array.toList (List.toArray ([32] : List UInt8)))) (I.hid (α := (List UInt8)) (Go.Proofs.YtjapkdcomcgamaaDoor.wordM st))))) (.fin (.ret (.v (.one (.p (.bool Bool.false))))) []) (.need (I.inr Go.IntKind.i64 (I.add (Nat.cast i) 1)) (.need (A ⟨[(1, (.v (.one (.ptr 0 0)))), (3, (.v (.one (.p (.list .byte t))))), (5, (.v (.one (.p (.int .i64 (I.add (Nat.cast k) (I.hid (α := Int) (Prod.fst (Prod.snd (Go.Proofs.YtjapkdcomcgamaaDoor.lineOf (I.cut (α := UInt8) t (Int.ofNat k) (I.len (α := UInt8) t)))))))))))), (6, (.v (.one (.row 1)))), (7, (.v (.one (.p (.int .i64 (I.add (Nat.cast i) 1))))))], [(.pack [(.obj 50 [(.p (.int .i64 st)), (.p (.list .fld fs)), (.p (.list .byte b))])]), (.row .fld 60 l)], 117⟩) .qed)))))))) (.br (I.seq (I.hid (α := (List UInt8)) (Prod.fst (Go.Proofs.YtjapkdcomcgamaaDoor.lineOf (I.cut (α := UInt8) t (Int.ofNat k) (I.len (α := UInt8) t))))) (Array.toList (List.toArray ([] : List UInt8)))) (.need (I.inr Go.IntKind.i64 (I.sub (I.len (α := Go.Ab.Fld) l) 1)) (.br (I.ieq (I.sub (I.len (α := Go.Ab.Fld) l) 1) (I.len (α := Go.Ab.Fld) fs)) (.need (I.cutb 0 (I.sub (I.len (α := Go.Ab.Fld) l) 1) (I.len (α := Go.Ab.Fld) l)) (.need (I.hid (α := (Prop)) (And (LE.le (List.length (I.cut (α := Go.Ab.Fld) l 0 (I.sub (I.len (α := Go.Ab.Fld) l) 1))) 1000000) (LE.le (List.length fs) 1000000))) (.br (I.hid (α := Bool) (Decidable.decide (Eq (I.cut (α := Go.Ab.Fld) l 0 (I.sub (I.len (α := Go.Ab.Fld) l) 1)) fs))) (.need (I.inb (I.sub (I.len (α := Go.Ab.Fld) l) 1) (I.len (α := Go.Ab.Fld) l)) (.need (I.inb (I.sub (I.len (α := Go.Ab.Fld) l) 1) (I.len (α := Go.Ab.Fld) l)) (.need (I.hid (α := (Prop)) (And (LE.le (0 : Int) (I.len (α := UInt8) b)) (LT.lt (I.len (α := UInt8) b) (10000 : Int)))) (.br (I.ban (I.seq (Go.Ab.Fld.name (I.get (α := Go.Ab.Fld) l (Go.Ab.Fld.mk ([] : List UInt8) ([] : List UInt8)) (I.sub (I.len (α := Go.Ab.Fld) l) 1))) (Array.toList (List.toArray ([67, 111, 110, 116, 101, 110, 116, 45, 76, 101, 110, 103, 116, 104] : List UInt8)))) (I.seq (Go.Ab.Fld.value (I.get (α := Go.Ab.Fld) l (Go.Ab.Fld.mk ([] : List UInt8) ([] : List UInt8)) (I.sub (I.len (α := Go.Ab.Fld) l) 1))) (I.hid (α := (List UInt8)) (Go.Proofs.YtjapkdcomcgamaaDoor.decS (I.len (α := UInt8) b))))) (.need (I.cutb (I.add (Nat.cast k) (I.hid (α := Int) (Prod.fst (Prod.snd (Go.Proofs.YtjapkdcomcgamaaDoor.lineOf (I.cut (α := UInt8) t (Int.ofNat k) (I.len (α := UInt8) t))))))) (I.len (α := UInt8) t) (I.len (α := UInt8) t)) (.need (I.hid (α := (Prop)) True) (.fin (.ret (.v (.one (.p (.bool (I.hid (α := Bool) (BEq.beq (I.cut (α := UInt8) t (I.add (Nat.cast k) (I.hid (α := Int) (Prod.fst (Prod.snd (Go.Proofs.YtjapkdcomcgamaaDoor.lineOf (I.cut (α := UInt8) t (Int.ofNat k) (I.len (α := UInt8) t))))))) (I.len (α := UInt8) t)) b))))))) []))) (.fin (.ret (.v (.one (.p (.bool Bool.false))))) []))))) (.fin (.ret (.v (.one (.p (.bool Bool.false))))) [])))) (.fin (.ret (.v (.one (.p (.bool Bool.false))))) []))) (.need (I.hid (α := (Prop)) (LE.le (List.length (I.hid (α := (List UInt8)) (Prod.fst (Go.Proofs.YtjapkdcomcgamaaDoor.lineOf (I.cut (α := UInt8) t (Int.ofNat k) (I.len (α := UInt8) t)))))) 1000000)) (.br (I.bnot (I.ieq (I.hid (α := Int) (Prod.snd (Go.Proofs.YtjapkdcomcgamaaDoor.parseF (I.hid (α := (List UInt8)) (Prod.fst (Go.Proofs.YtjapkdcomcgamaaDoor.lineOf (I.cut (α := UInt8) t (Int.ofNat k) (I.len (α := UInt8) t)))))))) 0)) (.fin (.ret (.v (.one (.p (.bool Bool.false))))) []) (.need (I.few (I.add (I.len (α := Go.Ab.Fld) l) (I.len (α := Go.Ab.Fld) ([(Go.Ab.Fld.mk (I.hid (α := (List UInt8)) (Go.Ab.Fld.name (Prod.fst (Go.Proofs.YtjapkdcomcgamaaDoor.parseF (I.hid (α := (List UInt8)) (Prod.fst (Go.Proofs.YtjapkdcomcgamaaDoor.lineOf (I.cut (α := UInt8) t (Int.ofNat k) (I.len (α := UInt8) t))))))))) (I.hid (α := (List UInt8)) (Go.Ab.Fld.value (Prod.fst (Go.Proofs.YtjapkdcomcgamaaDoor.parseF (I.hid (α := (List UInt8)) (Prod.fst (Go.Proofs.YtjapkdcomcgamaaDoor.lineOf (I.cut (α := UInt8) t (Int.ofNat k) (I.len (α := UInt8) t))))))))))] : List Go.Ab.Fld))) 100000000) (.need (I.inr Go.IntKind.i64 (I.add (Nat.cast i) 1)) (.need (A ⟨[(1, (.v (.one (.ptr 0 0)))), (3, (.v (.one (.p (.list .byte t))))), (5, (.v (.one (.p (.int .i64 (I.add (Nat.cast k) (I.hid (α := Int) (Prod.fst (Prod.snd (Go.Proofs.YtjapkdcomcgamaaDoor.lineOf (I.cut (α := UInt8) t (Int.ofNat k) (I.len (α := UInt8) t)))))))))))), (6, (.v (.one (.row 1)))), (7, (.v (.one (.p (.int .i64 (I.add (Nat.cast i) 1))))))], [(.pack [(.obj 50 [(.p (.int .i64 st)), (.p (.list .fld fs)), (.p (.list .byte b))])]), (.row .fld 60 (I.app (α := Go.Ab.Fld) l ([(Go.Ab.Fld.mk (I.hid (α := (List UInt8)) (Go.Ab.Fld.name (Prod.fst (Go.Proofs.YtjapkdcomcgamaaDoor.parseF (I.hid (α := (List UInt8)) (Prod.fst (Go.Proofs.YtjapkdcomcgamaaDoor.lineOf (I.cut (α := UInt8) t (Int.ofNat k) (I.len (α := UInt8) t))))))))) (I.hid (α := (List UInt8)) (Go.Ab.Fld.value (Prod.fst (Go.Proofs.YtjapkdcomcgamaaDoor.parseF (I.hid (α := (List UInt8)) (Prod.fst (Go.Proofs.YtjapkdcomcgamaaDoor.lineOf (I.cut (α := UInt8) t (Int.ofNat k) (I.len (α := UInt8) t))))))))))] : List Go.Ab.Fld)))], 117⟩) .qed)))))))))))) (by kernel_rfl) ?_
  simp only [inst_need, inst_br, inst_both, inst_fin, inst_qed, inst_stop, inst_code]
  subst hI
  simp only [alg_b2i, alg_i2b, alg_add, alg_sub, alg_mul, alg_quo, alg_rem, alg_wrap, alg_imin, alg_imax, alg_ilt, alg_ile, alg_ieq, alg_bnot, alg_beq, alg_ban, alg_seq, alg_len, alg_app, alg_cut, alg_get, alg_set, alg_rep, alg_inr, alg_inb, alg_cutb, alg_same, alg_few, alg_nne, alg_nng, alg_hid, alg_shl, alg_shr, alg_bits, decide_eq_true_eq, decide_eq_false_iff_not, beq_iff_eq, beq_eq_false_iff_ne, Bool.not_eq_true', Bool.not_eq_false', Bool.and_eq_true, Bool.and_true, Bool.true_and, and_true, true_and, ne_eq, Int.toNat_zero, Nat.sub_zero, List.drop_zero, i64_min, i64_max, u8_min, u8_max, ofNat_b2i, b2i_inj, Int.toNat_natCast, Int.ofNat_eq_natCast, UInt8.ofNat_toNat, AOut.ret.injEq, D.v.injEq, D.tup.injEq, V0.one.injEq, C.p.injEq, P.bool.injEq, P.int.injEq, P.str.injEq, Bool.false_eq_true, Bool.true_eq_false, imp_false, Decidable.not_not, not_true_eq_false, not_false_eq_true, List.cons.injEq, P.list.injEq, HO.row.injEq, heq_eq_eq, reduceCtorEq, false_and, and_false]
  have hi : i < LL.length := by omega
  have hli := hline i hi
  rw [← h2] at hli
  have e : (t.drop k).take (t.length - k) = t.drop k := List.take_of_length_le (by rw [List.length_drop]; exact Nat.le_refl _)
  rw [e, hli]
  simp only
  have hstep : (joinR (LL.take (i + 1))).length = k + LL[i].length + 2 := by rw [join_take hi, h2]
  have hat0 := hat i
  have hat1 := hat (i + 1)
  have e2 : (k : Int) + ((LL[i].length : Int) + 2) = ((joinR (LL.take (i + 1))).length : Int) := by omega
  rw [e2]
  have hz : i = 0 → LL[i] = statS st := fun h => by
    subst h
    have := hzero
    rw [List.getElem?_eq_getElem hi] at this
    exact Option.some.inj this
  have hf : ∀ f, 1 ≤ i → (fs ++ [clenF b.length])[i - 1]? = some f → LL[i] ≠ [] ∧ parseF LL[i] = (f, 0) := fun f h1 hf => by
    obtain ⟨s, hs1, hs2, hs3⟩ := hfld (i - 1) f hf
    rw [show i - 1 + 1 = i by omega, List.getElem?_eq_getElem hi] at hs1
    cases hs1
    exact ⟨hs2, hs3⟩
  have hl : i = fs.length + 2 → LL[i] = [] := fun h => by
    subst h
    have := hlast
    rw [List.getElem?_eq_getElem hi] at this
    exact Option.some.inj this
  have hsl := (hok i hi).2
  generalize LL[i] = s at *
  have hdl := decS_len st
  have hbl := decS_len (b.length : Int)
  have hstat : statS st = [72, 84, 84, 80, 47, 49, 46, 49, 32] ++ decS st ++ [32] ++ wordM st := rfl
  generalize hm : (joinR (LL.take (i + 1))).length = m at *
  refine ⟨⟨by omega, by omega, by omega⟩, by rw [List.length_drop]; omega, by simp, fun _ => ⟨trivial, fun _ => ⟨⟨by omega, by omega⟩, fun hi0 => ?_, fun hi0 => ?_⟩⟩⟩
  · have hs := hz (by omega)
    refine ⟨⟨by omega, by omega⟩, by simp only [List.length_cons, List.length_nil]; omega, by simp only [List.length_append, List.length_cons, List.length_nil]; omega, by simp only [List.length_append, List.length_cons, List.length_nil]; omega, hs.trans hstat, fun _ => ⟨⟨by omega, by omega⟩, ?_⟩⟩
    refine hA (i + 1, m, l) ⟨by simp only; omega, by simp only; exact hm.symm, ?_⟩ (by simp only; omega)
    simp only
    rw [h3, show i = 0 by omega]
  · refine ⟨fun hs => ?_, fun hs => ?_⟩
    · have hi2 : i = fs.length + 2 := by
        rcases Nat.lt_or_ge i (fs.length + 2) with h | h
        · exfalso
          have hg := List.getElem?_eq_getElem (l := fs ++ [clenF (b.length : Int)]) (i := i - 1) (by simp; omega)
          exact (hf _ (by omega) hg).1 hs
        · omega
      have hl2 : l = fs ++ [clenF (b.length : Int)] := by rw [h3, List.take_of_length_le (by simp; omega)]
      have hll : (l.length : Int) - 1 = (fs.length : Int) := by rw [hl2]; simp
      have hll2 : l.length = fs.length + 1 := by omega
      have hgd : l.getD fs.length ⟨[], []⟩ = clenF (b.length : Int) := by rw [hl2]; simp
      have htk : l.take fs.length = fs := by rw [hl2]; simp
      have hmm : m = (joinR LL).length := by rw [← hm, List.take_of_length_le (by omega)]
      have hdb : t.drop m = b := by rw [hmm, hwl]; simp
      have htb : (t.drop m).take (t.length - m) = b := by rw [hdb, List.take_of_length_le (by omega)]
      rw [hll]
      simp only [Int.toNat_natCast, htk, hgd, htb]
      (repeat' (first | refine And.intro ?_ ?_ | intro _)) <;> first | omega | exact True.intro | exact False.elim ‹False› | skip
      all_goals first
        | rfl
        | trivial
        | omega
        | (rename_i hb; simp [clenF, clenN] at hb)
    · have hlt : i - 1 < (fs ++ [clenF (b.length : Int)]).length := by
        rw [List.length_append]
        rcases Nat.lt_or_ge i (fs.length + 2) with h | h
        · simp; omega
        · exact absurd (hl (by omega)) hs
      have hg := List.getElem?_eq_getElem hlt
      obtain ⟨-, hp⟩ := hf _ (by omega) hg
      rw [hp]
      have htk : l ++ [(fs ++ [clenF (b.length : Int)])[i - 1]] = (fs ++ [clenF (b.length : Int)]).take (i + 1 - 1) := by
        rw [h3, show i + 1 - 1 = (i - 1) + 1 by omega, List.take_succ_eq_append_getElem hlt]
      have hil : i ≤ fs.length + 1 := by rw [List.length_append] at hlt; simp at hlt; omega
      have hll : l.length ≤ 16 := by rw [h3, List.length_take]; omega
      have hfin := hA (i + 1, m, _) ⟨by simp only; omega, by simp only; exact hm.symm, htk⟩ (by simp only; omega)
      generalize (fs ++ [clenF (b.length : Int)])[i - 1] = f at *
      (repeat' (first | refine And.intro ?_ ?_ | intro _)) <;> first | omega | exact True.intro | exact False.elim ‹False› | skip
      all_goals first
        | exact hfin
        | trivial
        | omega
        | (simp only [List.length_cons, List.length_nil]; omega)
        | trace_state
end Go.Proofs.YtjapkdcomcgamaaDoor
