/- A body in chunks: the walks of the machine. -/
import Derived.Test.YtjapkdcomcgamaaDoorChkL
import Derived.Test.YtjapkdcomcgamaaDoorLnA
set_option linter.all false
namespace Go.Proofs.YtjapkdcomcgamaaDoor
open Go Go.Sep Go.Ab
set_option maxRecDepth 100000

def cfgCk : Cfg := { sl := [⟨146, 0, .byte, some 5⟩] }


theorem ckNew_  : Spc Tryd.prog 59 [] [] (.ret (.v (.one (.ptr 0 0)))) [.pack [.obj 129 [(.ptr 1 0), (.p (.int .i64 0)), (.p (.int .i64 0)), (.p (.int .i64 0)), (.p (.int .i64 0)), (.p (.int .i64 0))], .pack [.obj 146 [(.row 1), (.p (.bool false)), (.p (.int .i64 0))], .row .byte 5 ([])]]] := by
  refine spcG tab_ok mixed Tryd.func59 (by kernel_rfl) { cfgCk with keep := some [0] } [lnNew__k, lnNew__l] (by kernel_rfl) ?_
  intro I X hI hX
  refine ev_rule (.need (I.hid (α := (Prop)) True) (.fin (.ret (.v (.one (.ptr 0 0)))) [(.pack [(.obj 129 [(.ptr 1 0), (.p (.int .i64 0)), (.p (.int .i64 0)), (.p (.int .i64 0)), (.p (.int .i64 0)), (.p (.int .i64 0))]), (.pack [(.obj 146 [(.row 1), (.p (.bool Bool.false)), (.p (.int .i64 0))]), (.row .byte 5 (I.hid (α := (List UInt8)) ([] : List UInt8)))])])])) (by kernel_rfl) ?_
  simp only [inst_need, inst_br, inst_both, inst_fin, inst_qed, inst_stop, inst_code]
  subst hI
  exact ⟨trivial, trivial, rfl⟩
def ckNew__c (I : Alg) (args : List D) (hp : List HO) : Option CT := match args, hp with
  | [], [] => (fun (_ : Unit) => (some (.one ⟨I.hid (True), (.ret (.v (.one (.ptr 0 0)))), [.pack [.obj 129 [(.ptr 1 0), (.p (.int .i64 0)), (.p (.int .i64 0)), (.p (.int .i64 0)), (.p (.int .i64 0)), (.p (.int .i64 0))], .pack [.obj 146 [(.row 1), (.p (.bool false)), (.p (.int .i64 0))], .row .byte 5 (I.hid ([]))]]]⟩) : Option CT)) ()
  | _, _ => none
theorem ckNew__g : GoodC Tryd.prog 59 (ckNew__c alg) := by
  intro args hp r h
  unfold ckNew__c at h
  split at h
  · cases h; exact fun hn => ckNew_ 
  · cases h
def ckNew__k : Know Tryd.prog := ⟨59, ckNew__c, ckNew__g⟩
def ckNew__l : Know Tryd.prog := ⟨59, fun I => lendC I (ckNew__c I), lendC_good ckNew__g⟩

theorem ckFail_ (lb : Str) (lc : Bool) (lo p l a t c k : Int) : Spc Tryd.prog 99 [.v (.one (.ptr 0 0)), .v (.one (.p (.int .i64 k)))] [.pack [.obj 129 [(.ptr 1 0), (.p (.int .i64 p)), (.p (.int .i64 l)), (.p (.int .i64 a)), (.p (.int .i64 t)), (.p (.int .i64 c))], .pack [.obj 146 [(.row 1), (.p (.bool lc)), (.p (.int .i64 lo))], .row .byte 5 lb]]] (.ret (.tup [(.one (.row 1)), (.one (.p (.bool false))), (.one (.p (.int .i64 k)))])) [.pack [.obj 129 [(.ptr 1 0), (.p (.int .i64 p)), (.p (.int .i64 l)), (.p (.int .i64 a)), (.p (.int .i64 t)), (.p (.int .i64 k))], .pack [.obj 146 [(.row 1), (.p (.bool lc)), (.p (.int .i64 lo))], .row .byte 5 lb]], .row .byte 5 ([])] := by
  refine spcG tab_ok mixed Tryd.func99 (by kernel_rfl) { cfgCk with nr := [4], keep := some [0, 1, 4, 5, 6] } [] (by kernel_rfl) ?_
  intro I X hI hX
  refine ev_rule (.fin (.ret (.tup [(.one (.row 1)), (.one (.p (.bool Bool.false))), (.one (.p (.int .i64 k)))])) [(.pack [(.obj 129 [(.ptr 1 0), (.p (.int .i64 p)), (.p (.int .i64 l)), (.p (.int .i64 a)), (.p (.int .i64 t)), (.p (.int .i64 k))]), (.pack [(.obj 146 [(.row 1), (.p (.bool lc)), (.p (.int .i64 lo))]), (.row .byte 5 lb)])]), (.row .byte 5 ([] : List UInt8))]) (by kernel_rfl) ?_
  simp only [inst_need, inst_br, inst_both, inst_fin, inst_qed, inst_stop, inst_code]
  subst hI
  simp only [alg_b2i, alg_i2b, alg_add, alg_sub, alg_mul, alg_quo, alg_rem, alg_wrap, alg_imin, alg_imax, alg_ilt, alg_ile, alg_ieq, alg_bnot, alg_beq, alg_ban, alg_seq, alg_len, alg_app, alg_cut, alg_get, alg_set, alg_rep, alg_inr, alg_inb, alg_cutb, alg_same, alg_few, alg_nne, alg_nng, alg_hid, alg_shl, alg_shr, alg_bits, decide_eq_true_eq, decide_eq_false_iff_not, beq_iff_eq, beq_eq_false_iff_ne, Bool.not_eq_true', Bool.not_eq_false', Bool.and_eq_true, Bool.and_true, Bool.true_and, and_true, true_and, ne_eq, Int.toNat_zero, Nat.sub_zero, List.drop_zero, i64_min, i64_max, u8_min, u8_max, ofNat_b2i, b2i_inj, Int.toNat_natCast, Int.ofNat_eq_natCast, UInt8.ofNat_toNat, AOut.ret.injEq, D.v.injEq, D.tup.injEq, V0.one.injEq, C.p.injEq, P.bool.injEq, P.int.injEq, P.str.injEq, Bool.false_eq_true, Bool.true_eq_false, imp_false, Decidable.not_not, not_true_eq_false, not_false_eq_true, List.cons.injEq, P.list.injEq, HO.row.injEq, heq_eq_eq, reduceCtorEq, false_and, and_false, HO.pack.injEq, HO.obj.injEq]
  try trivial
def ckFail__c (I : Alg) (args : List D) (hp : List HO) : Option CT := match args, hp with
  | [.v (.one (.ptr 0 0)), .v (.one (.p (.int .i64 k)))], [.pack [.obj 129 [(.ptr 1 0), (.p (.int .i64 p)), (.p (.int .i64 l)), (.p (.int .i64 a)), (.p (.int .i64 t)), (.p (.int .i64 c))], .pack [.obj 146 [(.row 1), (.p (.bool lc)), (.p (.int .i64 lo))], .row .byte 5 lb]]] => (fun (lb : Str) (lc : Bool) (lo p l a t c k : Int) => (some (.one ⟨I.hid (True), (.ret (.tup [(.one (.row 1)), (.one (.p (.bool false))), (.one (.p (.int .i64 k)))])), [.pack [.obj 129 [(.ptr 1 0), (.p (.int .i64 p)), (.p (.int .i64 l)), (.p (.int .i64 a)), (.p (.int .i64 t)), (.p (.int .i64 k))], .pack [.obj 146 [(.row 1), (.p (.bool lc)), (.p (.int .i64 lo))], .row .byte 5 lb]], .row .byte 5 (I.hid ([]))]⟩) : Option CT)) lb lc lo p l a t c k
  | _, _ => none
theorem ckFail__g : GoodC Tryd.prog 99 (ckFail__c alg) := by
  intro args hp r h
  unfold ckFail__c at h
  split at h
  · cases h; exact fun hn => ckFail_ _ _ _ _ _ _ _ _ _
  · cases h
def ckFail__k : Know Tryd.prog := ⟨99, ckFail__c, ckFail__g⟩
def ckFail__l : Know Tryd.prog := ⟨99, fun I => lendC I (ckFail__c I), lendC_good ckFail__g⟩

theorem ckLength_ (s : Str) (hneed : s.length ≤ 1000000) : Spc Tryd.prog 119 [.v (.one (.p (.str s)))] [] (.ret (.tup [(.one (.p (.int .i64 ((if (sizeC s).2 then (sizeC s).1 else 0))))), (.one (.p (.int .i64 ((if (sizeC s).2 then 0 else 7)))))])) [] := by
  generalize hr : sizeC s = r
  obtain ⟨n, ok⟩ := r
  unfold sizeC at hr
  have hl := (cutB_len s 59).1
  refine spcG tab_ok mixed Tryd.func119 (by kernel_rfl) { keep := some [0, 2, 3, 4, 7, 8] } [cTrim__k, cTrim__l, sCut__k, sCut__l, cHexNumber__k, cHexNumber__l] (by kernel_rfl) ?_
  intro I X hI hX
  refine ev_rule (let y0 := I.hid (α := (List UInt8)) (Go.Lib.trimS (I.hid (α := (List UInt8)) (Prod.fst (cutB s (59 : UInt8)))) ([32, 9] : List UInt8)); .need (I.hid (α := (Prop)) (LE.le (List.length s) 1000000)) (.need (I.hid (α := (Prop)) True) (.need (I.hid (α := (Prop)) True) (.br (I.bnot (I.hid (α := Bool) (Prod.snd (numA y0 (16 : Int) (6 : Int))))) (.fin (.ret (.tup [(.one (.p (.int .i64 0))), (.one (.p (.int .i64 7)))])) []) (.fin (.ret (.tup [(.one (.p (.int .i64 (I.hid (α := Int) (Prod.fst (numA y0 (16 : Int) (6 : Int))))))), (.one (.p (.int .i64 0)))])) []))))) (by kernel_rfl) ?_
  simp only [inst_need, inst_br, inst_both, inst_fin, inst_qed, inst_stop, inst_code]
  subst hI
  simp only [alg_b2i, alg_i2b, alg_add, alg_sub, alg_mul, alg_quo, alg_rem, alg_wrap, alg_imin, alg_imax, alg_ilt, alg_ile, alg_ieq, alg_bnot, alg_beq, alg_ban, alg_seq, alg_len, alg_app, alg_cut, alg_get, alg_set, alg_rep, alg_inr, alg_inb, alg_cutb, alg_same, alg_few, alg_nne, alg_nng, alg_hid, alg_shl, alg_shr, alg_bits, decide_eq_true_eq, decide_eq_false_iff_not, beq_iff_eq, beq_eq_false_iff_ne, Bool.not_eq_true', Bool.not_eq_false', Bool.and_eq_true, Bool.and_true, Bool.true_and, and_true, true_and, ne_eq, Int.toNat_zero, Nat.sub_zero, List.drop_zero, i64_min, i64_max, u8_min, u8_max, ofNat_b2i, b2i_inj, Int.toNat_natCast, Int.ofNat_eq_natCast, UInt8.ofNat_toNat, AOut.ret.injEq, D.v.injEq, D.tup.injEq, V0.one.injEq, C.p.injEq, P.bool.injEq, P.int.injEq, P.str.injEq, Bool.false_eq_true, Bool.true_eq_false, imp_false, Decidable.not_not, not_true_eq_false, not_false_eq_true, List.cons.injEq, P.list.injEq, HO.row.injEq, heq_eq_eq, reduceCtorEq, false_and, and_false]
  rw [hr]
  cases ok
  all_goals (repeat' (first | refine And.intro ?_ ?_ | intro _)) <;> first | omega | exact True.intro | exact False.elim ‹False› | skip
  all_goals first
    | exact hneed
    | trivial
    | omega
    | (simp at *; done)
    | trace_state
def ckLength__c (I : Alg) (args : List D) (hp : List HO) : Option CT := match args, hp with
  | [.v (.one (.p (.str s)))], [] => (fun (s : Str) => (some (.one ⟨I.hid (s.length ≤ 1000000), (.ret (.tup [(.one (.p (.int .i64 (I.hid ((if (sizeC s).2 then (sizeC s).1 else 0)))))), (.one (.p (.int .i64 (I.hid ((if (sizeC s).2 then 0 else 7))))))])), []⟩) : Option CT)) s
  | _, _ => none
theorem ckLength__g : GoodC Tryd.prog 119 (ckLength__c alg) := by
  intro args hp r h
  unfold ckLength__c at h
  split at h
  · cases h; exact fun hn => ckLength_ _ hn
  · cases h
def ckLength__k : Know Tryd.prog := ⟨119, ckLength__c, ckLength__g⟩
def ckLength__l : Know Tryd.prog := ⟨119, fun I => lendC I (ckLength__c I), lendC_good ckLength__g⟩

set_option maxHeartbeats 4000000 in
theorem ckLine_ (lb : Str) (lc : Bool) (lo p l a t c : Int) (s : Str) (hneed : s.length ≤ 1000000 ∧ (0 ≤ a ∧ a ≤ 1000000) ∧ 0 ≤ t ∧ t ≤ 1000000) : Spc Tryd.prog 101 [.v (.one (.ptr 0 0)), .v (.one (.p (.str s)))] [.pack [.obj 129 [(.ptr 1 0), (.p (.int .i64 p)), (.p (.int .i64 l)), (.p (.int .i64 a)), (.p (.int .i64 t)), (.p (.int .i64 c))], .pack [.obj 146 [(.row 1), (.p (.bool lc)), (.p (.int .i64 lo))], .row .byte 5 lb]]] (.ret (.v (.one (.p (.int .i64 ((chL ⟨⟨lb, lc, lo⟩, p, l, a, t, c⟩ s).2)))))) [.pack [.obj 129 [(.ptr 1 0), (.p (.int .i64 ((chL ⟨⟨lb, lc, lo⟩, p, l, a, t, c⟩ s).1.pos))), (.p (.int .i64 ((chL ⟨⟨lb, lc, lo⟩, p, l, a, t, c⟩ s).1.left))), (.p (.int .i64 ((chL ⟨⟨lb, lc, lo⟩, p, l, a, t, c⟩ s).1.all))), (.p (.int .i64 ((chL ⟨⟨lb, lc, lo⟩, p, l, a, t, c⟩ s).1.tails))), (.p (.int .i64 c))], .pack [.obj 146 [(.row 1), (.p (.bool lc)), (.p (.int .i64 lo))], .row .byte 5 lb]]] := by
  obtain ⟨hs, ⟨ha0, ha1⟩, ht0, ht1⟩ := hneed
  generalize hr : chL ⟨⟨lb, lc, lo⟩, p, l, a, t, c⟩ s = r
  unfold chL at hr
  simp only at hr
  have hsz := sizeC_nonneg s
  have hsz2 : (sizeC s).2 = false ∨ (sizeC s).2 = true := by cases (sizeC s).2 <;> simp
  obtain ⟨⟨⟨rb, rc, ro⟩, rp, rl, ra, rt, rc2⟩, re⟩ := r
  refine spcG tab_ok mixed Tryd.func101 (by kernel_rfl) { cfgCk with keep := some [0, 1, 4, 5, 6, 8, 12] } [parse__k, parse__l, ckLength__k, ckLength__l] (by kernel_rfl) ?_
  intro I X hI hX
  refine ev_rule (let y0 := I.hid (α := Int) (ite (Eq (Prod.snd (sizeC s)) Bool.true) (Prod.fst (sizeC s)) (0 : Int)); let y1 := I.hid (α := Int) (ite (Eq (Prod.snd (sizeC s)) Bool.true) (0 : Int) (7 : Int)); let y2 := I.seq s (Array.toList (List.toArray ([] : List UInt8))); let y3 := I.hid (α := (Prop)) (LE.le (List.length s) 1000000); .br (I.ieq p 2) (.br (I.bnot y2) (.fin (.ret (.v (.one (.p (.int .i64 5))))) [(.pack [(.obj 129 [(.ptr 1 0), (.p (.int .i64 p)), (.p (.int .i64 l)), (.p (.int .i64 a)), (.p (.int .i64 t)), (.p (.int .i64 c))]), (.pack [(.obj 146 [(.row 1), (.p (.bool lc)), (.p (.int .i64 lo))]), (.row .byte 5 lb)])])]) (.fin (.ret (.v (.one (.p (.int .i64 0))))) [(.pack [(.obj 129 [(.ptr 1 0), (.p (.int .i64 0)), (.p (.int .i64 l)), (.p (.int .i64 a)), (.p (.int .i64 t)), (.p (.int .i64 c))]), (.pack [(.obj 146 [(.row 1), (.p (.bool lc)), (.p (.int .i64 lo))]), (.row .byte 5 lb)])])])) (.br (I.ieq p 0) (.need y3 (.br (I.bnot (I.ieq y1 0)) (.fin (.ret (.v (.one (.p (.int .i64 y1))))) [(.pack [(.obj 129 [(.ptr 1 0), (.p (.int .i64 p)), (.p (.int .i64 l)), (.p (.int .i64 a)), (.p (.int .i64 t)), (.p (.int .i64 c))]), (.pack [(.obj 146 [(.row 1), (.p (.bool lc)), (.p (.int .i64 lo))]), (.row .byte 5 lb)])])]) (.need (I.inr Go.IntKind.i64 (I.sub 4000 a)) (.br (I.ilt (I.sub 4000 a) y0) (.fin (.ret (.v (.one (.p (.int .i64 4))))) [(.pack [(.obj 129 [(.ptr 1 0), (.p (.int .i64 p)), (.p (.int .i64 l)), (.p (.int .i64 a)), (.p (.int .i64 t)), (.p (.int .i64 c))]), (.pack [(.obj 146 [(.row 1), (.p (.bool lc)), (.p (.int .i64 lo))]), (.row .byte 5 lb)])])]) (.br (I.ieq y0 0) (.fin (.ret (.v (.one (.p (.int .i64 0))))) [(.pack [(.obj 129 [(.ptr 1 0), (.p (.int .i64 3)), (.p (.int .i64 l)), (.p (.int .i64 a)), (.p (.int .i64 t)), (.p (.int .i64 c))]), (.pack [(.obj 146 [(.row 1), (.p (.bool lc)), (.p (.int .i64 lo))]), (.row .byte 5 lb)])])]) (.fin (.ret (.v (.one (.p (.int .i64 0))))) [(.pack [(.obj 129 [(.ptr 1 0), (.p (.int .i64 1)), (.p (.int .i64 y0)), (.p (.int .i64 a)), (.p (.int .i64 t)), (.p (.int .i64 c))]), (.pack [(.obj 146 [(.row 1), (.p (.bool lc)), (.p (.int .i64 lo))]), (.row .byte 5 lb)])])])))))) (.br (I.ieq p 3) (.br y2 (.fin (.ret (.v (.one (.p (.int .i64 0))))) [(.pack [(.obj 129 [(.ptr 1 0), (.p (.int .i64 4)), (.p (.int .i64 l)), (.p (.int .i64 a)), (.p (.int .i64 t)), (.p (.int .i64 c))]), (.pack [(.obj 146 [(.row 1), (.p (.bool lc)), (.p (.int .i64 lo))]), (.row .byte 5 lb)])])]) (.br (I.ieq t 16) (.fin (.ret (.v (.one (.p (.int .i64 8))))) [(.pack [(.obj 129 [(.ptr 1 0), (.p (.int .i64 p)), (.p (.int .i64 l)), (.p (.int .i64 a)), (.p (.int .i64 t)), (.p (.int .i64 c))]), (.pack [(.obj 146 [(.row 1), (.p (.bool lc)), (.p (.int .i64 lo))]), (.row .byte 5 lb)])])]) (.need (I.inr Go.IntKind.i64 (I.add t 1)) (.need y3 (.fin (.ret (.v (.one (.p (.int .i64 (I.hid (α := Int) (Prod.snd (parseF s)))))))) [(.pack [(.obj 129 [(.ptr 1 0), (.p (.int .i64 p)), (.p (.int .i64 l)), (.p (.int .i64 a)), (.p (.int .i64 (I.add t 1))), (.p (.int .i64 c))]), (.pack [(.obj 146 [(.row 1), (.p (.bool lc)), (.p (.int .i64 lo))]), (.row .byte 5 lb)])])]))))) (.fin (.ret (.v (.one (.p (.int .i64 0))))) [(.pack [(.obj 129 [(.ptr 1 0), (.p (.int .i64 p)), (.p (.int .i64 l)), (.p (.int .i64 a)), (.p (.int .i64 t)), (.p (.int .i64 c))]), (.pack [(.obj 146 [(.row 1), (.p (.bool lc)), (.p (.int .i64 lo))]), (.row .byte 5 lb)])])])))) (by kernel_rfl) ?_
  simp only [inst_need, inst_br, inst_both, inst_fin, inst_qed, inst_stop, inst_code]
  subst hI
  simp only [alg_b2i, alg_i2b, alg_add, alg_sub, alg_mul, alg_quo, alg_rem, alg_wrap, alg_imin, alg_imax, alg_ilt, alg_ile, alg_ieq, alg_bnot, alg_beq, alg_ban, alg_seq, alg_len, alg_app, alg_cut, alg_get, alg_set, alg_rep, alg_inr, alg_inb, alg_cutb, alg_same, alg_few, alg_nne, alg_nng, alg_hid, alg_shl, alg_shr, alg_bits, decide_eq_true_eq, decide_eq_false_iff_not, beq_iff_eq, beq_eq_false_iff_ne, Bool.not_eq_true', Bool.not_eq_false', Bool.and_eq_true, Bool.and_true, Bool.true_and, and_true, true_and, ne_eq, Int.toNat_zero, Nat.sub_zero, List.drop_zero, i64_min, i64_max, u8_min, u8_max, ofNat_b2i, b2i_inj, Int.toNat_natCast, Int.ofNat_eq_natCast, UInt8.ofNat_toNat, AOut.ret.injEq, D.v.injEq, D.tup.injEq, V0.one.injEq, C.p.injEq, P.bool.injEq, P.int.injEq, P.str.injEq, Bool.false_eq_true, Bool.true_eq_false, imp_false, Decidable.not_not, not_true_eq_false, not_false_eq_true, List.cons.injEq, P.list.injEq, HO.row.injEq, heq_eq_eq, reduceCtorEq, false_and, and_false, HO.pack.injEq, HO.obj.injEq]
  generalize sizeC s = z at *
  obtain ⟨n, ok⟩ := z
  simp only at *
  cases ok
  all_goals simp only [Bool.false_eq_true, if_false, if_true] at *
  all_goals (repeat' (first | refine And.intro ?_ ?_ | intro _)) <;> first | omega | exact True.intro | exact False.elim ‹False› | skip
  all_goals first
    | exact hs
    | omega
    | (exfalso; simp at *; done)
    | (((repeat (first | rewrite [if_pos (by first | omega | assumption | (simp only [*, or_self, or_true, true_or, or_false, false_or, not_true_eq_false, not_false_eq_true, Bool.false_eq_true, Bool.true_eq_false, and_self, and_true, true_and]; done) | (simp only [*]; omega) | (simp [*]; done) | (simp [*]; omega))] at hr | rewrite [if_neg (by first | omega | assumption | (simp only [*, or_self, or_true, true_or, or_false, false_or, not_true_eq_false, not_false_eq_true, Bool.false_eq_true, Bool.true_eq_false, and_self, and_true, true_and]; done) | (simp only [*]; omega) | (simp [*]; done) | (simp [*]; omega))] at hr))); cases hr; first | rfl | done | with_reducible assumption | exact ⟨rfl, rfl, rfl⟩ | (simp; done) | (simp; omega))
    | trace_state
def ckLine__c (I : Alg) (args : List D) (hp : List HO) : Option CT := match args, hp with
  | [.v (.one (.ptr 0 0)), .v (.one (.p (.str s)))], [.pack [.obj 129 [(.ptr 1 0), (.p (.int .i64 p)), (.p (.int .i64 l)), (.p (.int .i64 a)), (.p (.int .i64 t)), (.p (.int .i64 c))], .pack [.obj 146 [(.row 1), (.p (.bool lc)), (.p (.int .i64 lo))], .row .byte 5 lb]]] => (fun (lb : Str) (lc : Bool) (lo p l a t c : Int) (s : Str) => (some (.one ⟨I.hid (s.length ≤ 1000000 ∧ (0 ≤ a ∧ a ≤ 1000000) ∧ 0 ≤ t ∧ t ≤ 1000000), (.ret (.v (.one (.p (.int .i64 (I.hid ((chL ⟨⟨lb, lc, lo⟩, p, l, a, t, c⟩ s).2))))))), [.pack [.obj 129 [(.ptr 1 0), (.p (.int .i64 (I.hid ((chL ⟨⟨lb, lc, lo⟩, p, l, a, t, c⟩ s).1.pos)))), (.p (.int .i64 (I.hid ((chL ⟨⟨lb, lc, lo⟩, p, l, a, t, c⟩ s).1.left)))), (.p (.int .i64 (I.hid ((chL ⟨⟨lb, lc, lo⟩, p, l, a, t, c⟩ s).1.all)))), (.p (.int .i64 (I.hid ((chL ⟨⟨lb, lc, lo⟩, p, l, a, t, c⟩ s).1.tails)))), (.p (.int .i64 c))], .pack [.obj 146 [(.row 1), (.p (.bool lc)), (.p (.int .i64 lo))], .row .byte 5 lb]]]⟩) : Option CT)) lb lc lo p l a t c s
  | _, _ => none
theorem ckLine__g : GoodC Tryd.prog 101 (ckLine__c alg) := by
  intro args hp r h
  unfold ckLine__c at h
  split at h
  · cases h; exact fun hn => ckLine_ _ _ _ _ _ _ _ _ _ hn
  · cases h
def ckLine__k : Know Tryd.prog := ⟨101, ckLine__c, ckLine__g⟩
def ckLine__l : Know Tryd.prog := ⟨101, fun I => lendC I (ckLine__c I), lendC_good ckLine__g⟩
theorem chL_keep (s : Ch) (t : Str) : (chL s t).1.ln = s.ln ∧ (chL s t).1.code = s.code := by
  unfold chL
  split
  · split <;> exact ⟨rfl, rfl⟩
  split
  · split
    · exact ⟨rfl, rfl⟩
    split
    · exact ⟨rfl, rfl⟩
    split <;> exact ⟨rfl, rfl⟩
  split
  · split
    · exact ⟨rfl, rfl⟩
    split <;> exact ⟨rfl, rfl⟩
  · exact ⟨rfl, rfl⟩

theorem lnF_len (s : Ln) (c : UInt8) : (lnF s c).2.1.length ≤ s.b.length := by
  unfold lnF
  repeat' split
  all_goals simp
set_option maxHeartbeats 8000000 in
theorem ckFeed_ (lb : Str) (lc : Bool) (lo p l a t c k : Int) (hneed : (0 ≤ k ∧ k ≤ 255) ∧ lb.length ≤ 1000000 ∧ (-1000000 ≤ l ∧ l ≤ 100000000) ∧ (0 ≤ a ∧ a ≤ 1000000) ∧ 0 ≤ t ∧ t ≤ 1000000) : Spc Tryd.prog 60 [.v (.one (.ptr 0 0)), .v (.one (.p (.int .u8 k)))] [.pack [.obj 129 [(.ptr 1 0), (.p (.int .i64 p)), (.p (.int .i64 l)), (.p (.int .i64 a)), (.p (.int .i64 t)), (.p (.int .i64 c))], .pack [.obj 146 [(.row 1), (.p (.bool lc)), (.p (.int .i64 lo))], .row .byte 5 lb]]] (.ret (.tup [(.one (.row 1)), (.one (.p (.bool ((chF ⟨⟨lb, lc, lo⟩, p, l, a, t, c⟩ (UInt8.ofNat k.toNat)).2.2.1)))), (.one (.p (.int .i64 ((chF ⟨⟨lb, lc, lo⟩, p, l, a, t, c⟩ (UInt8.ofNat k.toNat)).2.2.2))))])) [.pack [.obj 129 [(.ptr 1 0), (.p (.int .i64 ((chF ⟨⟨lb, lc, lo⟩, p, l, a, t, c⟩ (UInt8.ofNat k.toNat)).1.pos))), (.p (.int .i64 ((chF ⟨⟨lb, lc, lo⟩, p, l, a, t, c⟩ (UInt8.ofNat k.toNat)).1.left))), (.p (.int .i64 ((chF ⟨⟨lb, lc, lo⟩, p, l, a, t, c⟩ (UInt8.ofNat k.toNat)).1.all))), (.p (.int .i64 ((chF ⟨⟨lb, lc, lo⟩, p, l, a, t, c⟩ (UInt8.ofNat k.toNat)).1.tails))), (.p (.int .i64 ((chF ⟨⟨lb, lc, lo⟩, p, l, a, t, c⟩ (UInt8.ofNat k.toNat)).1.code)))], .pack [.obj 146 [(.row 1), (.p (.bool ((chF ⟨⟨lb, lc, lo⟩, p, l, a, t, c⟩ (UInt8.ofNat k.toNat)).1.ln.cr))), (.p (.int .i64 ((chF ⟨⟨lb, lc, lo⟩, p, l, a, t, c⟩ (UInt8.ofNat k.toNat)).1.ln.code)))], .row .byte 5 ((chF ⟨⟨lb, lc, lo⟩, p, l, a, t, c⟩ (UInt8.ofNat k.toNat)).1.ln.b)]], .row .byte 5 ((chF ⟨⟨lb, lc, lo⟩, p, l, a, t, c⟩ (UInt8.ofNat k.toNat)).2.1)] := by
  obtain ⟨⟨hk0, hk1⟩, hlb, ⟨hl0, hl1⟩, ⟨ha0, ha1⟩, ht0, ht1⟩ := hneed
  generalize hr : chF ⟨⟨lb, lc, lo⟩, p, l, a, t, c⟩ (UInt8.ofNat k.toNat) = r
  unfold chF at hr
  simp only at hr
  have hkeep := chL_keep ⟨(lnF ⟨lb, lc, lo⟩ (UInt8.ofNat k.toNat)).1, p, l, a, t, c⟩ (lnF ⟨lb, lc, lo⟩ (UInt8.ofNat k.toNat)).2.1
  have hlen := lnF_len ⟨lb, lc, lo⟩ (UInt8.ofNat k.toNat)
  obtain ⟨⟨⟨rb, rc, ro⟩, rp, rl, ra, rt, rc2⟩, rd, ris, re⟩ := r
  refine spcG tab_ok mixed Tryd.func60 (by kernel_rfl) { cfgCk with nr := [4], keep := some [0, 1, 4, 5, 6, 7, 8, 9] } [lnFeed__k, lnFeed__l, ckFail__k, ckFail__l, ckLine__k, ckLine__l] (by kernel_rfl) ?_
  intro I X hI hX
  refine ev_rule (let y0 := I.hid (α := (List UInt8)) (Ln.b (Prod.fst (lnF (Ln.mk lb lc lo) (UInt8.ofNat (Int.toNat k))))); let y1 := I.hid (α := Int) (Ln.code (Prod.fst (lnF (Ln.mk lb lc lo) (UInt8.ofNat (Int.toNat k))))); let y2 := I.hid (α := Bool) (Ln.cr (Prod.fst (lnF (Ln.mk lb lc lo) (UInt8.ofNat (Int.toNat k))))); let y3 := I.hid (α := (List UInt8)) (Prod.fst (Prod.snd (lnF (Ln.mk lb lc lo) (UInt8.ofNat (Int.toNat k))))); let y4 := I.hid (α := Int) (Prod.snd (Prod.snd (Prod.snd (lnF (Ln.mk lb lc lo) (UInt8.ofNat (Int.toNat k)))))); let y5 := I.hid (α := Int) (Ch.pos (Prod.fst (chL (Ch.mk (Ln.mk y0 y2 y1) p l a t c) y3))); let y6 := I.hid (α := Int) (Prod.snd (chL (Ch.mk (Ln.mk y0 y2 y1) p l a t c) y3)); let y7 := I.hid (α := (List UInt8)) ([] : List UInt8); let y8 := I.hid (α := Int) (Ch.tails (Prod.fst (chL (Ch.mk (Ln.mk y0 y2 y1) p l a t c) y3))); let y9 := I.hid (α := Int) (Ch.left (Prod.fst (chL (Ch.mk (Ln.mk y0 y2 y1) p l a t c) y3))); let y10 := I.hid (α := Int) (Ch.all (Prod.fst (chL (Ch.mk (Ln.mk y0 y2 y1) p l a t c) y3))); .br (I.bnot (I.ieq c 0)) (.fin (.ret (.tup [(.one (.row 1)), (.one (.p (.bool Bool.false))), (.one (.p (.int .i64 c)))])) [(.pack [(.obj 129 [(.ptr 1 0), (.p (.int .i64 p)), (.p (.int .i64 l)), (.p (.int .i64 a)), (.p (.int .i64 t)), (.p (.int .i64 c))]), (.pack [(.obj 146 [(.row 1), (.p (.bool lc)), (.p (.int .i64 lo))]), (.row .byte 5 lb)])]), (.row .byte 5 ([] : List UInt8))]) (.br (I.ieq p 4) (.need (I.hid (α := (Prop)) True) (.fin (.ret (.tup [(.one (.row 1)), (.one (.p (.bool Bool.false))), (.one (.p (.int .i64 18)))])) [(.pack [(.obj 129 [(.ptr 1 0), (.p (.int .i64 p)), (.p (.int .i64 l)), (.p (.int .i64 a)), (.p (.int .i64 t)), (.p (.int .i64 18))]), (.pack [(.obj 146 [(.row 1), (.p (.bool lc)), (.p (.int .i64 lo))]), (.row .byte 5 lb)])]), (.row .byte 5 y7)])) (.br (I.ieq p 1) (.need (I.inr Go.IntKind.i64 (I.sub l 1)) (.need (I.inr Go.IntKind.i64 (I.add a 1)) (.br (I.ieq (I.sub l 1) 0) (.need (I.inr Go.IntKind.u8 k) (.fin (.ret (.tup [(.one (.row 1)), (.one (.p (.bool Bool.false))), (.one (.p (.int .i64 0)))])) [(.pack [(.obj 129 [(.ptr 1 0), (.p (.int .i64 2)), (.p (.int .i64 (I.sub l 1))), (.p (.int .i64 (I.add a 1))), (.p (.int .i64 t)), (.p (.int .i64 c))]), (.pack [(.obj 146 [(.row 1), (.p (.bool lc)), (.p (.int .i64 lo))]), (.row .byte 5 lb)])]), (.row .byte 5 ([(I.i2b k)] : List UInt8))])) (.need (I.inr Go.IntKind.u8 k) (.fin (.ret (.tup [(.one (.row 1)), (.one (.p (.bool Bool.false))), (.one (.p (.int .i64 0)))])) [(.pack [(.obj 129 [(.ptr 1 0), (.p (.int .i64 p)), (.p (.int .i64 (I.sub l 1))), (.p (.int .i64 (I.add a 1))), (.p (.int .i64 t)), (.p (.int .i64 c))]), (.pack [(.obj 146 [(.row 1), (.p (.bool lc)), (.p (.int .i64 lo))]), (.row .byte 5 lb)])]), (.row .byte 5 ([(I.i2b k)] : List UInt8))]))))) (.need (I.hid (α := (Prop)) (And (LE.le (0 : Int) k) (And (LE.le k (255 : Int)) (LE.le (List.length lb) 1000000)))) (.br (I.ieq y4 0) (.br (I.hid (α := Bool) (Prod.fst (Prod.snd (Prod.snd (lnF (Ln.mk lb lc lo) (UInt8.ofNat (Int.toNat k))))))) (.need (I.hid (α := (Prop)) (And (LE.le (List.length y3) 1000000) (And (And (LE.le (0 : Int) a) (LE.le a (1000000 : Int))) (And (LE.le (0 : Int) t) (LE.le t (1000000 : Int)))))) (.br (I.bnot (I.ieq y6 0)) (.need (I.hid (α := (Prop)) True) (.fin (.ret (.tup [(.one (.row 1)), (.one (.p (.bool Bool.false))), (.one (.p (.int .i64 y6)))])) [(.pack [(.obj 129 [(.ptr 1 0), (.p (.int .i64 y5)), (.p (.int .i64 y9)), (.p (.int .i64 y10)), (.p (.int .i64 y8)), (.p (.int .i64 y6))]), (.pack [(.obj 146 [(.row 1), (.p (.bool y2)), (.p (.int .i64 y1))]), (.row .byte 5 y0)])]), (.row .byte 5 y7)])) (.fin (.ret (.tup [(.one (.row 1)), (.one (.p (.bool (I.ieq y5 4)))), (.one (.p (.int .i64 0)))])) [(.pack [(.obj 129 [(.ptr 1 0), (.p (.int .i64 y5)), (.p (.int .i64 y9)), (.p (.int .i64 y10)), (.p (.int .i64 y8)), (.p (.int .i64 c))]), (.pack [(.obj 146 [(.row 1), (.p (.bool y2)), (.p (.int .i64 y1))]), (.row .byte 5 y0)])]), (.row .byte 5 ([] : List UInt8))]))) (.br (I.bnot (I.ieq y4 0)) (.need (I.hid (α := (Prop)) True) (.fin (.ret (.tup [(.one (.row 1)), (.one (.p (.bool Bool.false))), (.one (.p (.int .i64 y4)))])) [(.pack [(.obj 129 [(.ptr 1 0), (.p (.int .i64 p)), (.p (.int .i64 l)), (.p (.int .i64 a)), (.p (.int .i64 t)), (.p (.int .i64 y4))]), (.pack [(.obj 146 [(.row 1), (.p (.bool y2)), (.p (.int .i64 y1))]), (.row .byte 5 y0)])]), (.row .byte 5 y7)])) (.fin (.ret (.tup [(.one (.row 1)), (.one (.p (.bool (I.ieq p 4)))), (.one (.p (.int .i64 0)))])) [(.pack [(.obj 129 [(.ptr 1 0), (.p (.int .i64 p)), (.p (.int .i64 l)), (.p (.int .i64 a)), (.p (.int .i64 t)), (.p (.int .i64 c))]), (.pack [(.obj 146 [(.row 1), (.p (.bool y2)), (.p (.int .i64 y1))]), (.row .byte 5 y0)])]), (.row .byte 5 ([] : List UInt8))]))) (.br (I.bnot (I.ieq y4 0)) (.need (I.hid (α := (Prop)) True) (.fin (.ret (.tup [(.one (.row 1)), (.one (.p (.bool Bool.false))), (.one (.p (.int .i64 y4)))])) [(.pack [(.obj 129 [(.ptr 1 0), (.p (.int .i64 p)), (.p (.int .i64 l)), (.p (.int .i64 a)), (.p (.int .i64 t)), (.p (.int .i64 y4))]), (.pack [(.obj 146 [(.row 1), (.p (.bool y2)), (.p (.int .i64 y1))]), (.row .byte 5 y0)])]), (.row .byte 5 y7)])) (.fin (.ret (.tup [(.one (.row 1)), (.one (.p (.bool (I.ieq p 4)))), (.one (.p (.int .i64 0)))])) [(.pack [(.obj 129 [(.ptr 1 0), (.p (.int .i64 p)), (.p (.int .i64 l)), (.p (.int .i64 a)), (.p (.int .i64 t)), (.p (.int .i64 c))]), (.pack [(.obj 146 [(.row 1), (.p (.bool y2)), (.p (.int .i64 y1))]), (.row .byte 5 y0)])]), (.row .byte 5 ([] : List UInt8))]))))))) (by kernel_rfl) ?_
  simp only [inst_need, inst_br, inst_both, inst_fin, inst_qed, inst_stop, inst_code]
  subst hI
  simp only [alg_b2i, alg_i2b, alg_add, alg_sub, alg_mul, alg_quo, alg_rem, alg_wrap, alg_imin, alg_imax, alg_ilt, alg_ile, alg_ieq, alg_bnot, alg_beq, alg_ban, alg_seq, alg_len, alg_app, alg_cut, alg_get, alg_set, alg_rep, alg_inr, alg_inb, alg_cutb, alg_same, alg_few, alg_nne, alg_nng, alg_hid, alg_shl, alg_shr, alg_bits, decide_eq_true_eq, decide_eq_false_iff_not, beq_iff_eq, beq_eq_false_iff_ne, Bool.not_eq_true', Bool.not_eq_false', Bool.and_eq_true, Bool.and_true, Bool.true_and, and_true, true_and, ne_eq, Int.toNat_zero, Nat.sub_zero, List.drop_zero, i64_min, i64_max, u8_min, u8_max, ofNat_b2i, b2i_inj, Int.toNat_natCast, Int.ofNat_eq_natCast, UInt8.ofNat_toNat, AOut.ret.injEq, D.v.injEq, D.tup.injEq, V0.one.injEq, C.p.injEq, P.bool.injEq, P.int.injEq, P.str.injEq, Bool.false_eq_true, Bool.true_eq_false, imp_false, Decidable.not_not, not_true_eq_false, not_false_eq_true, List.cons.injEq, P.list.injEq, HO.row.injEq, heq_eq_eq, reduceCtorEq, false_and, and_false, HO.pack.injEq, HO.obj.injEq]
  generalize lnF ⟨lb, lc, lo⟩ (UInt8.ofNat k.toNat) = q at *
  obtain ⟨⟨qb, qc, qo⟩, qs, qis, qe⟩ := q
  simp only at *
  generalize chL ⟨⟨qb, qc, qo⟩, p, l, a, t, c⟩ qs = z at *
  obtain ⟨⟨⟨zb, zc, zo⟩, zp, zl, za, zt, zk⟩, ze⟩ := z
  simp only [Ln.mk.injEq] at *
  obtain ⟨⟨rfl, rfl, rfl⟩, rfl⟩ := hkeep
  cases qis
  all_goals simp only [Bool.false_eq_true, if_false, if_true] at *
  all_goals (repeat' (first | refine And.intro ?_ ?_ | intro _)) <;> first | omega | exact True.intro | exact False.elim ‹False› | skip
  all_goals first
    | omega
    | (exfalso; simp at *; done)
    | (((repeat (first | rewrite [if_pos (by first | omega | assumption | (simp only [*, or_self, or_true, true_or, or_false, false_or, not_true_eq_false, not_false_eq_true, Bool.false_eq_true, Bool.true_eq_false, and_self, and_true, true_and]; done) | (simp only [*]; omega) | (simp [*]; done) | (simp [*]; omega))] at hr | rewrite [if_neg (by first | omega | assumption | (simp only [*, or_self, or_true, true_or, or_false, false_or, not_true_eq_false, not_false_eq_true, Bool.false_eq_true, Bool.true_eq_false, and_self, and_true, true_and]; done) | (simp only [*]; omega) | (simp [*]; done) | (simp [*]; omega))] at hr))); cases hr; first | rfl | done | with_reducible assumption | exact ⟨rfl, rfl, rfl⟩ | (simp; done) | (simp; omega))
    | trace_state
def ckFeed__c (I : Alg) (args : List D) (hp : List HO) : Option CT := match args, hp with
  | [.v (.one (.ptr 0 0)), .v (.one (.p (.int .u8 k)))], [.pack [.obj 129 [(.ptr 1 0), (.p (.int .i64 p)), (.p (.int .i64 l)), (.p (.int .i64 a)), (.p (.int .i64 t)), (.p (.int .i64 c))], .pack [.obj 146 [(.row 1), (.p (.bool lc)), (.p (.int .i64 lo))], .row .byte 5 lb]]] => (fun (lb : Str) (lc : Bool) (lo p l a t c k : Int) => (some (.one ⟨I.hid ((0 ≤ k ∧ k ≤ 255) ∧ lb.length ≤ 1000000 ∧ (-1000000 ≤ l ∧ l ≤ 100000000) ∧ (0 ≤ a ∧ a ≤ 1000000) ∧ 0 ≤ t ∧ t ≤ 1000000), (.ret (.tup [(.one (.row 1)), (.one (.p (.bool (I.hid ((chF ⟨⟨lb, lc, lo⟩, p, l, a, t, c⟩ (UInt8.ofNat k.toNat)).2.2.1))))), (.one (.p (.int .i64 (I.hid ((chF ⟨⟨lb, lc, lo⟩, p, l, a, t, c⟩ (UInt8.ofNat k.toNat)).2.2.2)))))])), [.pack [.obj 129 [(.ptr 1 0), (.p (.int .i64 (I.hid ((chF ⟨⟨lb, lc, lo⟩, p, l, a, t, c⟩ (UInt8.ofNat k.toNat)).1.pos)))), (.p (.int .i64 (I.hid ((chF ⟨⟨lb, lc, lo⟩, p, l, a, t, c⟩ (UInt8.ofNat k.toNat)).1.left)))), (.p (.int .i64 (I.hid ((chF ⟨⟨lb, lc, lo⟩, p, l, a, t, c⟩ (UInt8.ofNat k.toNat)).1.all)))), (.p (.int .i64 (I.hid ((chF ⟨⟨lb, lc, lo⟩, p, l, a, t, c⟩ (UInt8.ofNat k.toNat)).1.tails)))), (.p (.int .i64 (I.hid ((chF ⟨⟨lb, lc, lo⟩, p, l, a, t, c⟩ (UInt8.ofNat k.toNat)).1.code))))], .pack [.obj 146 [(.row 1), (.p (.bool (I.hid ((chF ⟨⟨lb, lc, lo⟩, p, l, a, t, c⟩ (UInt8.ofNat k.toNat)).1.ln.cr)))), (.p (.int .i64 (I.hid ((chF ⟨⟨lb, lc, lo⟩, p, l, a, t, c⟩ (UInt8.ofNat k.toNat)).1.ln.code))))], .row .byte 5 (I.hid ((chF ⟨⟨lb, lc, lo⟩, p, l, a, t, c⟩ (UInt8.ofNat k.toNat)).1.ln.b))]], .row .byte 5 (I.hid ((chF ⟨⟨lb, lc, lo⟩, p, l, a, t, c⟩ (UInt8.ofNat k.toNat)).2.1))]⟩) : Option CT)) lb lc lo p l a t c k
  | _, _ => none
theorem ckFeed__g : GoodC Tryd.prog 60 (ckFeed__c alg) := by
  intro args hp r h
  unfold ckFeed__c at h
  split at h
  · cases h; exact fun hn => ckFeed_ _ _ _ _ _ _ _ _ _ hn
  · cases h
def ckFeed__k : Know Tryd.prog := ⟨60, ckFeed__c, ckFeed__g⟩
def ckFeed__l : Know Tryd.prog := ⟨60, fun I => lendC I (ckFeed__c I), lendC_good ckFeed__g⟩
end Go.Proofs.YtjapkdcomcgamaaDoor
