/- Lines of a stream, byte by byte: the walks. -/
import Derived.Test.YtjapkdcomcgamaaDoorLnL
set_option linter.all false
namespace Go.Proofs.YtjapkdcomcgamaaDoor
open Go Go.Sep Go.Ab
set_option maxRecDepth 100000

def cfgLn : Cfg := { sl := [⟨146, 0, .byte, some 5⟩] }


theorem lnNew_  : Spc Tryd.prog 98 [] [] (.ret (.v (.one (.ptr 0 0)))) [.pack [.obj 146 [(.row 1), (.p (.bool false)), (.p (.int .i64 0))], .row .byte 5 ([])]] := by
  refine spcG tab_ok mixed Tryd.func98 (by kernel_rfl) { cfgLn with keep := some [0] } [] (by kernel_rfl) ?_
  intro I X hI hX
  refine ev_rule (.fin (.ret (.v (.one (.ptr 0 0)))) [(.pack [(.obj 146 [(.row 1), (.p (.bool Bool.false)), (.p (.int .i64 0))]), (.row .byte 5 ([] : List UInt8))])]) (by kernel_rfl) ?_
  simp only [inst_need, inst_br, inst_both, inst_fin, inst_qed, inst_stop, inst_code]
  trivial
def lnNew__c (I : Alg) (args : List D) (hp : List HO) : Option CT := match args, hp with
  | [], [] => (fun (_ : Unit) => (some (.one ⟨I.hid (True), (.ret (.v (.one (.ptr 0 0)))), [.pack [.obj 146 [(.row 1), (.p (.bool false)), (.p (.int .i64 0))], .row .byte 5 (I.hid ([]))]]⟩) : Option CT)) ()
  | _, _ => none
theorem lnNew__g : GoodC Tryd.prog 98 (lnNew__c alg) := by
  intro args hp r h
  unfold lnNew__c at h
  split at h
  · cases h; exact fun hn => lnNew_ 
  · cases h
def lnNew__k : Know Tryd.prog := ⟨98, lnNew__c, lnNew__g⟩
def lnNew__l : Know Tryd.prog := ⟨98, fun I => lendC I (lnNew__c I), lendC_good lnNew__g⟩

theorem lnFail_ (b : Str) (cr : Bool) (code c : Int) : Spc Tryd.prog 118 [.v (.one (.ptr 0 0)), .v (.one (.p (.int .i64 c)))] [.pack [.obj 146 [(.row 1), (.p (.bool cr)), (.p (.int .i64 code))], .row .byte 5 b]] (.ret (.tup [(.one (.p (.str ([])))), (.one (.p (.bool false))), (.one (.p (.int .i64 c)))])) [.pack [.obj 146 [(.row 1), (.p (.bool cr)), (.p (.int .i64 c))], .row .byte 5 b]] := by
  refine spcG tab_ok mixed Tryd.func118 (by kernel_rfl) { cfgLn with keep := some [0, 1, 4, 5, 6] } [] (by kernel_rfl) ?_
  intro I X hI hX
  refine ev_rule (.fin (.ret (.tup [(.one (.p (.str (Array.toList (List.toArray ([] : List UInt8)))))), (.one (.p (.bool Bool.false))), (.one (.p (.int .i64 c)))])) [(.pack [(.obj 146 [(.row 1), (.p (.bool cr)), (.p (.int .i64 c))]), (.row .byte 5 b)])]) (by kernel_rfl) ?_
  simp only [inst_need, inst_br, inst_both, inst_fin, inst_qed, inst_stop, inst_code]
  subst hI
  simp only [alg_b2i, alg_i2b, alg_add, alg_sub, alg_mul, alg_quo, alg_rem, alg_wrap, alg_imin, alg_imax, alg_ilt, alg_ile, alg_ieq, alg_bnot, alg_beq, alg_ban, alg_seq, alg_len, alg_app, alg_cut, alg_get, alg_set, alg_rep, alg_inr, alg_inb, alg_cutb, alg_same, alg_few, alg_nne, alg_nng, alg_hid, alg_shl, alg_shr, alg_bits, decide_eq_true_eq, decide_eq_false_iff_not, beq_iff_eq, beq_eq_false_iff_ne, Bool.not_eq_true', Bool.not_eq_false', Bool.and_eq_true, Bool.and_true, Bool.true_and, and_true, true_and, ne_eq, Int.toNat_zero, Nat.sub_zero, List.drop_zero, i64_min, i64_max, u8_min, u8_max, ofNat_b2i, b2i_inj, Int.toNat_natCast, Int.ofNat_eq_natCast, UInt8.ofNat_toNat, AOut.ret.injEq, D.v.injEq, D.tup.injEq, V0.one.injEq, C.p.injEq, P.bool.injEq, P.int.injEq, P.str.injEq, Bool.false_eq_true, Bool.true_eq_false, imp_false, Decidable.not_not, not_true_eq_false, not_false_eq_true, List.cons.injEq, P.list.injEq, HO.row.injEq, heq_eq_eq, reduceCtorEq, false_and, and_false, HO.pack.injEq, HO.obj.injEq]
  try trivial
def lnFail__c (I : Alg) (args : List D) (hp : List HO) : Option CT := match args, hp with
  | [.v (.one (.ptr 0 0)), .v (.one (.p (.int .i64 c)))], [.pack [.obj 146 [(.row 1), (.p (.bool cr)), (.p (.int .i64 code))], .row .byte 5 b]] => (fun (b : Str) (cr : Bool) (code c : Int) => (some (.one ⟨I.hid (True), (.ret (.tup [(.one (.p (.str (I.hid ([]))))), (.one (.p (.bool false))), (.one (.p (.int .i64 c)))])), [.pack [.obj 146 [(.row 1), (.p (.bool cr)), (.p (.int .i64 c))], .row .byte 5 b]]⟩) : Option CT)) b cr code c
  | _, _ => none
theorem lnFail__g : GoodC Tryd.prog 118 (lnFail__c alg) := by
  intro args hp r h
  unfold lnFail__c at h
  split at h
  · cases h; exact fun hn => lnFail_ _ _ _ _
  · cases h
def lnFail__k : Know Tryd.prog := ⟨118, lnFail__c, lnFail__g⟩
def lnFail__l : Know Tryd.prog := ⟨118, fun I => lendC I (lnFail__c I), lendC_good lnFail__g⟩

set_option maxHeartbeats 4000000 in
theorem lnFeed_ (b : Str) (cr : Bool) (code k : Int) (hneed : 0 ≤ k ∧ k ≤ 255 ∧ b.length ≤ 1000000) : Spc Tryd.prog 100 [.v (.one (.ptr 0 0)), .v (.one (.p (.int .u8 k)))] [.pack [.obj 146 [(.row 1), (.p (.bool cr)), (.p (.int .i64 code))], .row .byte 5 b]] (.ret (.tup [(.one (.p (.str ((lnF ⟨b, cr, code⟩ (UInt8.ofNat k.toNat)).2.1)))), (.one (.p (.bool ((lnF ⟨b, cr, code⟩ (UInt8.ofNat k.toNat)).2.2.1)))), (.one (.p (.int .i64 ((lnF ⟨b, cr, code⟩ (UInt8.ofNat k.toNat)).2.2.2))))])) [.pack [.obj 146 [(.row 1), (.p (.bool ((lnF ⟨b, cr, code⟩ (UInt8.ofNat k.toNat)).1.cr))), (.p (.int .i64 ((lnF ⟨b, cr, code⟩ (UInt8.ofNat k.toNat)).1.code)))], .row .byte 5 ((lnF ⟨b, cr, code⟩ (UInt8.ofNat k.toNat)).1.b)]] := by
  obtain ⟨hk0, hk1, hbl⟩ := hneed
  have hkk : ((UInt8.ofNat k.toNat).toNat : Int) = k := by rw [UInt8.toNat_ofNat', Nat.mod_eq_of_lt (by omega)]; omega
  generalize hr : lnF ⟨b, cr, code⟩ (UInt8.ofNat k.toNat) = r
  have h10 : UInt8.ofNat k.toNat = 10 ↔ k = 10 := ⟨fun h => by rw [h] at hkk; exact hkk.symm, fun h => by subst h; rfl⟩
  have h13 : UInt8.ofNat k.toNat = 13 ↔ k = 13 := ⟨fun h => by rw [h] at hkk; exact hkk.symm, fun h => by subst h; rfl⟩
  unfold lnF seenC at hr
  rw [hkk] at hr
  simp only [h10, h13] at hr
  obtain ⟨⟨rb, rc, rcode⟩, rt, ro, re⟩ := r
  refine spcG tab_ok mixed Tryd.func100 (by kernel_rfl) { cfgLn with nr := [8], keep := some [0, 1, 4, 5, 6, 7] } [visible__k, visible__l, lnFail__k, lnFail__l] (by kernel_rfl) ?_
  intro I X hI hX
  refine ev_rule (let y0 := I.hid (α := (List UInt8)) ([] : List UInt8); let y1 := I.few (I.add (I.len (α := UInt8) b) (I.len (α := UInt8) ([(I.i2b k)] : List UInt8))) 140737488355328; let y2 := I.bnot (I.hid (α := Bool) (seenB k)); let y3 := I.ieq (I.len (α := UInt8) b) 200; .br (I.bnot (I.ieq code 0)) (.fin (.ret (.tup [(.one (.p (.str (Array.toList (List.toArray ([] : List UInt8)))))), (.one (.p (.bool Bool.false))), (.one (.p (.int .i64 code)))])) [(.pack [(.obj 146 [(.row 1), (.p (.bool cr)), (.p (.int .i64 code))]), (.row .byte 5 b)])]) (.br cr (.br (I.bnot (I.ieq k 10)) (.need (I.hid (α := (Prop)) True) (.fin (.ret (.tup [(.one (.p (.str y0))), (.one (.p (.bool Bool.false))), (.one (.p (.int .i64 2)))])) [(.pack [(.obj 146 [(.row 1), (.p (.bool cr)), (.p (.int .i64 2))]), (.row .byte 5 b)])])) (.br (I.bnot cr) (.br (I.ieq k 10) (.need (I.hid (α := (Prop)) True) (.fin (.ret (.tup [(.one (.p (.str y0))), (.one (.p (.bool Bool.false))), (.one (.p (.int .i64 2)))])) [(.pack [(.obj 146 [(.row 1), (.p (.bool cr)), (.p (.int .i64 2))]), (.row .byte 5 b)])])) (.br cr (.fin (.ret (.tup [(.one (.p (.str b))), (.one (.p (.bool Bool.true))), (.one (.p (.int .i64 0)))])) [(.pack [(.obj 146 [(.row 1), (.p (.bool Bool.false)), (.p (.int .i64 code))]), (.row .byte 5 ([] : List UInt8))])]) (.br (I.ieq k 13) (.fin (.ret (.tup [(.one (.p (.str (Array.toList (List.toArray ([] : List UInt8)))))), (.one (.p (.bool Bool.false))), (.one (.p (.int .i64 0)))])) [(.pack [(.obj 146 [(.row 1), (.p (.bool Bool.true)), (.p (.int .i64 code))]), (.row .byte 5 b)])]) (.need (I.hid (α := (Prop)) True) (.br y2 (.need (I.hid (α := (Prop)) True) (.fin (.ret (.tup [(.one (.p (.str y0))), (.one (.p (.bool Bool.false))), (.one (.p (.int .i64 3)))])) [(.pack [(.obj 146 [(.row 1), (.p (.bool cr)), (.p (.int .i64 3))]), (.row .byte 5 b)])])) (.br y3 (.need (I.hid (α := (Prop)) True) (.fin (.ret (.tup [(.one (.p (.str y0))), (.one (.p (.bool Bool.false))), (.one (.p (.int .i64 4)))])) [(.pack [(.obj 146 [(.row 1), (.p (.bool cr)), (.p (.int .i64 4))]), (.row .byte 5 b)])])) (.need (I.inr Go.IntKind.u8 k) (.need y1 (.fin (.ret (.tup [(.one (.p (.str (Array.toList (List.toArray ([] : List UInt8)))))), (.one (.p (.bool Bool.false))), (.one (.p (.int .i64 0)))])) [(.pack [(.obj 146 [(.row 1), (.p (.bool cr)), (.p (.int .i64 code))]), (.row .byte 5 (I.app (α := UInt8) b ([(I.i2b k)] : List UInt8)))])]))))))))) (.br cr (.fin (.ret (.tup [(.one (.p (.str b))), (.one (.p (.bool Bool.true))), (.one (.p (.int .i64 0)))])) [(.pack [(.obj 146 [(.row 1), (.p (.bool Bool.false)), (.p (.int .i64 code))]), (.row .byte 5 ([] : List UInt8))])]) (.br (I.ieq k 13) (.fin (.ret (.tup [(.one (.p (.str (Array.toList (List.toArray ([] : List UInt8)))))), (.one (.p (.bool Bool.false))), (.one (.p (.int .i64 0)))])) [(.pack [(.obj 146 [(.row 1), (.p (.bool Bool.true)), (.p (.int .i64 code))]), (.row .byte 5 b)])]) (.need (I.hid (α := (Prop)) True) (.br y2 (.need (I.hid (α := (Prop)) True) (.fin (.ret (.tup [(.one (.p (.str y0))), (.one (.p (.bool Bool.false))), (.one (.p (.int .i64 3)))])) [(.pack [(.obj 146 [(.row 1), (.p (.bool cr)), (.p (.int .i64 3))]), (.row .byte 5 b)])])) (.br y3 (.need (I.hid (α := (Prop)) True) (.fin (.ret (.tup [(.one (.p (.str y0))), (.one (.p (.bool Bool.false))), (.one (.p (.int .i64 4)))])) [(.pack [(.obj 146 [(.row 1), (.p (.bool cr)), (.p (.int .i64 4))]), (.row .byte 5 b)])])) (.need (I.inr Go.IntKind.u8 k) (.need y1 (.fin (.ret (.tup [(.one (.p (.str (Array.toList (List.toArray ([] : List UInt8)))))), (.one (.p (.bool Bool.false))), (.one (.p (.int .i64 0)))])) [(.pack [(.obj 146 [(.row 1), (.p (.bool cr)), (.p (.int .i64 code))]), (.row .byte 5 (I.app (α := UInt8) b ([(I.i2b k)] : List UInt8)))])])))))))))) (.br (I.bnot cr) (.br (I.ieq k 10) (.need (I.hid (α := (Prop)) True) (.fin (.ret (.tup [(.one (.p (.str y0))), (.one (.p (.bool Bool.false))), (.one (.p (.int .i64 2)))])) [(.pack [(.obj 146 [(.row 1), (.p (.bool cr)), (.p (.int .i64 2))]), (.row .byte 5 b)])])) (.br cr (.fin (.ret (.tup [(.one (.p (.str b))), (.one (.p (.bool Bool.true))), (.one (.p (.int .i64 0)))])) [(.pack [(.obj 146 [(.row 1), (.p (.bool Bool.false)), (.p (.int .i64 code))]), (.row .byte 5 ([] : List UInt8))])]) (.br (I.ieq k 13) (.fin (.ret (.tup [(.one (.p (.str (Array.toList (List.toArray ([] : List UInt8)))))), (.one (.p (.bool Bool.false))), (.one (.p (.int .i64 0)))])) [(.pack [(.obj 146 [(.row 1), (.p (.bool Bool.true)), (.p (.int .i64 code))]), (.row .byte 5 b)])]) (.need (I.hid (α := (Prop)) True) (.br y2 (.need (I.hid (α := (Prop)) True) (.fin (.ret (.tup [(.one (.p (.str y0))), (.one (.p (.bool Bool.false))), (.one (.p (.int .i64 3)))])) [(.pack [(.obj 146 [(.row 1), (.p (.bool cr)), (.p (.int .i64 3))]), (.row .byte 5 b)])])) (.br y3 (.need (I.hid (α := (Prop)) True) (.fin (.ret (.tup [(.one (.p (.str y0))), (.one (.p (.bool Bool.false))), (.one (.p (.int .i64 4)))])) [(.pack [(.obj 146 [(.row 1), (.p (.bool cr)), (.p (.int .i64 4))]), (.row .byte 5 b)])])) (.need (I.inr Go.IntKind.u8 k) (.need y1 (.fin (.ret (.tup [(.one (.p (.str (Array.toList (List.toArray ([] : List UInt8)))))), (.one (.p (.bool Bool.false))), (.one (.p (.int .i64 0)))])) [(.pack [(.obj 146 [(.row 1), (.p (.bool cr)), (.p (.int .i64 code))]), (.row .byte 5 (I.app (α := UInt8) b ([(I.i2b k)] : List UInt8)))])]))))))))) (.br cr (.fin (.ret (.tup [(.one (.p (.str b))), (.one (.p (.bool Bool.true))), (.one (.p (.int .i64 0)))])) [(.pack [(.obj 146 [(.row 1), (.p (.bool Bool.false)), (.p (.int .i64 code))]), (.row .byte 5 ([] : List UInt8))])]) (.br (I.ieq k 13) (.fin (.ret (.tup [(.one (.p (.str (Array.toList (List.toArray ([] : List UInt8)))))), (.one (.p (.bool Bool.false))), (.one (.p (.int .i64 0)))])) [(.pack [(.obj 146 [(.row 1), (.p (.bool Bool.true)), (.p (.int .i64 code))]), (.row .byte 5 b)])]) (.need (I.hid (α := (Prop)) True) (.br y2 (.need (I.hid (α := (Prop)) True) (.fin (.ret (.tup [(.one (.p (.str y0))), (.one (.p (.bool Bool.false))), (.one (.p (.int .i64 3)))])) [(.pack [(.obj 146 [(.row 1), (.p (.bool cr)), (.p (.int .i64 3))]), (.row .byte 5 b)])])) (.br y3 (.need (I.hid (α := (Prop)) True) (.fin (.ret (.tup [(.one (.p (.str y0))), (.one (.p (.bool Bool.false))), (.one (.p (.int .i64 4)))])) [(.pack [(.obj 146 [(.row 1), (.p (.bool cr)), (.p (.int .i64 4))]), (.row .byte 5 b)])])) (.need (I.inr Go.IntKind.u8 k) (.need y1 (.fin (.ret (.tup [(.one (.p (.str (Array.toList (List.toArray ([] : List UInt8)))))), (.one (.p (.bool Bool.false))), (.one (.p (.int .i64 0)))])) [(.pack [(.obj 146 [(.row 1), (.p (.bool cr)), (.p (.int .i64 code))]), (.row .byte 5 (I.app (α := UInt8) b ([(I.i2b k)] : List UInt8)))])]))))))))))) (by kernel_rfl) ?_
  simp only [inst_need, inst_br, inst_both, inst_fin, inst_qed, inst_stop, inst_code]
  subst hI
  simp only [alg_b2i, alg_i2b, alg_add, alg_sub, alg_mul, alg_quo, alg_rem, alg_wrap, alg_imin, alg_imax, alg_ilt, alg_ile, alg_ieq, alg_bnot, alg_beq, alg_ban, alg_seq, alg_len, alg_app, alg_cut, alg_get, alg_set, alg_rep, alg_inr, alg_inb, alg_cutb, alg_same, alg_few, alg_nne, alg_nng, alg_hid, alg_shl, alg_shr, alg_bits, decide_eq_true_eq, decide_eq_false_iff_not, beq_iff_eq, beq_eq_false_iff_ne, Bool.not_eq_true', Bool.not_eq_false', Bool.and_eq_true, Bool.and_true, Bool.true_and, and_true, true_and, ne_eq, Int.toNat_zero, Nat.sub_zero, List.drop_zero, i64_min, i64_max, u8_min, u8_max, ofNat_b2i, b2i_inj, Int.toNat_natCast, Int.ofNat_eq_natCast, UInt8.ofNat_toNat, AOut.ret.injEq, D.v.injEq, D.tup.injEq, V0.one.injEq, C.p.injEq, P.bool.injEq, P.int.injEq, P.str.injEq, Bool.false_eq_true, Bool.true_eq_false, imp_false, Decidable.not_not, not_true_eq_false, not_false_eq_true, List.cons.injEq, P.list.injEq, HO.row.injEq, heq_eq_eq, reduceCtorEq, false_and, and_false, HO.pack.injEq, HO.obj.injEq]
  generalize UInt8.ofNat k.toNat = c at *
  cases cr
  all_goals simp only [Bool.false_eq_true, if_false, if_true] at hr
  all_goals (repeat' (first | refine And.intro ?_ ?_ | intro _)) <;> first | omega | exact True.intro | exact False.elim ‹False› | skip
  all_goals first
    | omega
    | (exfalso; simp at *; done)
    | (((repeat (first | rewrite [if_pos (by first | omega | assumption | (simp only [*, or_self, or_true, true_or, or_false, false_or, not_true_eq_false, not_false_eq_true, Bool.false_eq_true, Bool.true_eq_false, and_self, and_true, true_and]; done) | (simp only [*]; omega) | (simp [*]; done) | (simp [*]; omega))] at hr | rewrite [if_neg (by first | omega | assumption | (simp only [*, or_self, or_true, true_or, or_false, false_or, not_true_eq_false, not_false_eq_true, Bool.false_eq_true, Bool.true_eq_false, and_self, and_true, true_and]; done) | (simp only [*]; omega) | (simp [*]; done) | (simp [*]; omega))] at hr))); cases hr; first | rfl | done | with_reducible assumption | exact ⟨rfl, rfl, rfl⟩ | (simp; done) | (simp; omega))
    | trace_state
def lnFeed__c (I : Alg) (args : List D) (hp : List HO) : Option CT := match args, hp with
  | [.v (.one (.ptr 0 0)), .v (.one (.p (.int .u8 k)))], [.pack [.obj 146 [(.row 1), (.p (.bool cr)), (.p (.int .i64 code))], .row .byte 5 b]] => (fun (b : Str) (cr : Bool) (code k : Int) => (some (.one ⟨I.hid (0 ≤ k ∧ k ≤ 255 ∧ b.length ≤ 1000000), (.ret (.tup [(.one (.p (.str (I.hid ((lnF ⟨b, cr, code⟩ (UInt8.ofNat k.toNat)).2.1))))), (.one (.p (.bool (I.hid ((lnF ⟨b, cr, code⟩ (UInt8.ofNat k.toNat)).2.2.1))))), (.one (.p (.int .i64 (I.hid ((lnF ⟨b, cr, code⟩ (UInt8.ofNat k.toNat)).2.2.2)))))])), [.pack [.obj 146 [(.row 1), (.p (.bool (I.hid ((lnF ⟨b, cr, code⟩ (UInt8.ofNat k.toNat)).1.cr)))), (.p (.int .i64 (I.hid ((lnF ⟨b, cr, code⟩ (UInt8.ofNat k.toNat)).1.code))))], .row .byte 5 (I.hid ((lnF ⟨b, cr, code⟩ (UInt8.ofNat k.toNat)).1.b))]]⟩) : Option CT)) b cr code k
  | _, _ => none
theorem lnFeed__g : GoodC Tryd.prog 100 (lnFeed__c alg) := by
  intro args hp r h
  unfold lnFeed__c at h
  split at h
  · cases h; exact fun hn => lnFeed_ _ _ _ _ hn
  · cases h
def lnFeed__k : Know Tryd.prog := ⟨100, lnFeed__c, lnFeed__g⟩
def lnFeed__l : Know Tryd.prog := ⟨100, fun I => lendC I (lnFeed__c I), lendC_good lnFeed__g⟩
end Go.Proofs.YtjapkdcomcgamaaDoor
