/- A log: its walks. -/
import Derived.Test.YtjapkdcomcgamaaDoorBase
set_option linter.all false
namespace Go.Proofs.YtjapkdcomcgamaaDoor
open Go Go.Sep Go.Ab
set_option maxRecDepth 100000

def cfgL : Cfg := { sl := [⟨140, 0, .byte, some 5⟩] }

def roomB (b : Str) (n : Int) : Bool := decide (0 ≤ n ∧ n ≤ 100000 - (b.length : Int))
def wrC (b x : Str) : Int := if b.length + x.length ≤ 100000 then 0 else 16
def wrB (b x : Str) : Str := if b.length + x.length ≤ 100000 then b ++ x else b
def crB (b : Str) (s n : Int) : Str := b.take (s + min (max n 0) (b.length - s)).toNat
def cuB (b : Str) (n : Int) : Str := if 0 ≤ n ∧ n < b.length then b.take n.toNat else b
def cuS (b : Str) (s n : Int) : Int := if 0 ≤ n ∧ n < b.length then min s n else s

theorem jnew_  : Spc Tryd.prog 81 [] [] (.ret (.v (.one (.ptr 0 0)))) [.pack [.obj 140 [(.row 1), (.p (.int .i64 0))], .row .byte 5 ([])]] := by
  refine spcG tab_ok mixed Tryd.func81 (by kernel_rfl) { cfgL with keep := some [0] } [] (by kernel_rfl) ?_
  intro I X hI hX
  refine ev_rule (.fin (.ret (.v (.one (.ptr 0 0)))) [(.pack [(.obj 140 [(.row 1), (.p (.int .i64 0))]), (.row .byte 5 ([] : List UInt8))])]) (by kernel_rfl) ?_
  simp only [inst_need, inst_br, inst_both, inst_fin, inst_qed, inst_stop, inst_code]
  trivial
def jnew__c (I : Alg) (args : List D) (hp : List HO) : Option CT := match args, hp with
  | [], [] => (fun (_ : Unit) => (some (.one ⟨I.hid (True), (.ret (.v (.one (.ptr 0 0)))), [.pack [.obj 140 [(.row 1), (.p (.int .i64 0))], .row .byte 5 (I.hid ([]))]]⟩) : Option CT)) ()
  | _, _ => none
theorem jnew__g : GoodC Tryd.prog 81 (jnew__c alg) := by
  intro args hp r h
  unfold jnew__c at h
  split at h
  · cases h; exact fun hn => jnew_ 
  · cases h
def jnew__k : Know Tryd.prog := ⟨81, jnew__c, jnew__g⟩
def jnew__l : Know Tryd.prog := ⟨81, fun I => lendC I (jnew__c I), lendC_good jnew__g⟩

theorem sure_ (b : Str) (s : Int) : Spc Tryd.prog 91 [.v (.one (.ptr 0 0))] [.pack [.obj 140 [(.row 1), (.p (.int .i64 s))], .row .byte 5 b]] (.ret (.v (.one (.p (.int .i64 s))))) [.pack [.obj 140 [(.row 1), (.p (.int .i64 s))], .row .byte 5 b]] := by
  refine spcG tab_ok mixed Tryd.func91 (by kernel_rfl) { cfgL with keep := some [0, 2] } [] (by kernel_rfl) ?_
  intro I X hI hX
  refine ev_rule (.fin (.ret (.v (.one (.p (.int .i64 s))))) [(.pack [(.obj 140 [(.row 1), (.p (.int .i64 s))]), (.row .byte 5 b)])]) (by kernel_rfl) ?_
  simp only [inst_need, inst_br, inst_both, inst_fin, inst_qed, inst_stop, inst_code]
  trivial
def sure__c (I : Alg) (args : List D) (hp : List HO) : Option CT := match args, hp with
  | [.v (.one (.ptr 0 0))], [.pack [.obj 140 [(.row 1), (.p (.int .i64 s))], .row .byte 5 b]] => (fun (b : Str) (s : Int) => (some (.one ⟨I.hid (True), (.ret (.v (.one (.p (.int .i64 s))))), [.pack [.obj 140 [(.row 1), (.p (.int .i64 s))], .row .byte 5 b]]⟩) : Option CT)) b s
  | _, _ => none
theorem sure__g : GoodC Tryd.prog 91 (sure__c alg) := by
  intro args hp r h
  unfold sure__c at h
  split at h
  · cases h; exact fun hn => sure_ _ _
  · cases h
def sure__k : Know Tryd.prog := ⟨91, sure__c, sure__g⟩
def sure__l : Know Tryd.prog := ⟨91, fun I => lendC I (sure__c I), lendC_good sure__g⟩

theorem bytes_ (b : Str) (s : Int) (hneed : b.length ≤ 100000000) : Spc Tryd.prog 88 [.v (.one (.ptr 0 0))] [.pack [.obj 140 [(.row 1), (.p (.int .i64 s))], .row .byte 5 b]] (.ret (.v (.one (.row 1)))) [.pack [.obj 140 [(.row 1), (.p (.int .i64 s))], .row .byte 5 b], .row .byte 5 b] := by
  refine spcG tab_ok mixed Tryd.func88 (by kernel_rfl) { cfgL with keep := some [0, 2] } [clone__k, clone__l] (by kernel_rfl) ?_
  intro I X hI hX
  refine ev_rule (.need (I.hid (α := (Prop)) (LE.le (List.length b) 100000000)) (.fin (.ret (.v (.one (.row 1)))) [(.pack [(.obj 140 [(.row 1), (.p (.int .i64 s))]), (.row .byte 5 b)]), (.row .byte 5 b)])) (by kernel_rfl) ?_
  simp only [inst_need, inst_br, inst_both, inst_fin, inst_qed, inst_stop, inst_code]
  subst hI
  simp only [alg_b2i, alg_i2b, alg_add, alg_sub, alg_mul, alg_quo, alg_rem, alg_wrap, alg_imin, alg_imax, alg_ilt, alg_ile, alg_ieq, alg_bnot, alg_beq, alg_ban, alg_seq, alg_len, alg_app, alg_cut, alg_get, alg_set, alg_rep, alg_inr, alg_inb, alg_cutb, alg_same, alg_few, alg_nne, alg_nng, alg_hid, alg_shl, alg_shr, alg_bits, decide_eq_true_eq, decide_eq_false_iff_not, beq_iff_eq, beq_eq_false_iff_ne, Bool.not_eq_true', Bool.not_eq_false', Bool.and_eq_true, Bool.and_true, Bool.true_and, and_true, true_and, ne_eq, Int.toNat_zero, Nat.sub_zero, List.drop_zero, i64_min, i64_max, u8_min, u8_max, ofNat_b2i, b2i_inj, Int.toNat_natCast, Int.ofNat_eq_natCast, UInt8.ofNat_toNat, AOut.ret.injEq, D.v.injEq, D.tup.injEq, V0.one.injEq, C.p.injEq, P.bool.injEq, P.int.injEq, P.str.injEq, Bool.false_eq_true, Bool.true_eq_false, imp_false, Decidable.not_not, not_true_eq_false, not_false_eq_true]
  exact hneed
def bytes__c (I : Alg) (args : List D) (hp : List HO) : Option CT := match args, hp with
  | [.v (.one (.ptr 0 0))], [.pack [.obj 140 [(.row 1), (.p (.int .i64 s))], .row .byte 5 b]] => (fun (b : Str) (s : Int) => (some (.one ⟨I.hid (b.length ≤ 100000000), (.ret (.v (.one (.row 1)))), [.pack [.obj 140 [(.row 1), (.p (.int .i64 s))], .row .byte 5 b], .row .byte 5 b]⟩) : Option CT)) b s
  | _, _ => none
theorem bytes__g : GoodC Tryd.prog 88 (bytes__c alg) := by
  intro args hp r h
  unfold bytes__c at h
  split at h
  · cases h; exact fun hn => bytes_ _ _ hn
  · cases h
def bytes__k : Know Tryd.prog := ⟨88, bytes__c, bytes__g⟩
def bytes__l : Know Tryd.prog := ⟨88, fun I => lendC I (bytes__c I), lendC_good bytes__g⟩

theorem sync_ (b : Str) (s : Int) : Spc Tryd.prog 94 [.v (.one (.ptr 0 0))] [.pack [.obj 140 [(.row 1), (.p (.int .i64 s))], .row .byte 5 b]] (.ret (.tup [])) [.pack [.obj 140 [(.row 1), (.p (.int .i64 ((b.length : Int))))], .row .byte 5 b]] := by
  refine spcG tab_ok mixed Tryd.func94 (by kernel_rfl) { cfgL with keep := some [0] } [] (by kernel_rfl) ?_
  intro I X hI hX
  refine ev_rule (.fin (.ret (.tup [])) [(.pack [(.obj 140 [(.row 1), (.p (.int .i64 (I.len (α := UInt8) b)))]), (.row .byte 5 b)])]) (by kernel_rfl) ?_
  simp only [inst_need, inst_br, inst_both, inst_fin, inst_qed, inst_stop, inst_code]
  subst hI
  simp only [alg_b2i, alg_i2b, alg_add, alg_sub, alg_mul, alg_quo, alg_rem, alg_wrap, alg_imin, alg_imax, alg_ilt, alg_ile, alg_ieq, alg_bnot, alg_beq, alg_ban, alg_seq, alg_len, alg_app, alg_cut, alg_get, alg_set, alg_rep, alg_inr, alg_inb, alg_cutb, alg_same, alg_few, alg_nne, alg_nng, alg_hid, alg_shl, alg_shr, alg_bits, decide_eq_true_eq, decide_eq_false_iff_not, beq_iff_eq, beq_eq_false_iff_ne, Bool.not_eq_true', Bool.not_eq_false', Bool.and_eq_true, Bool.and_true, Bool.true_and, and_true, true_and, ne_eq, Int.toNat_zero, Nat.sub_zero, List.drop_zero, i64_min, i64_max, u8_min, u8_max, ofNat_b2i, b2i_inj, Int.toNat_natCast, Int.ofNat_eq_natCast, UInt8.ofNat_toNat, AOut.ret.injEq, D.v.injEq, D.tup.injEq, V0.one.injEq, C.p.injEq, P.bool.injEq, P.int.injEq, P.str.injEq, Bool.false_eq_true, Bool.true_eq_false, imp_false, Decidable.not_not, not_true_eq_false, not_false_eq_true, List.cons.injEq, P.list.injEq, HO.row.injEq, heq_eq_eq, reduceCtorEq, false_and, and_false, HO.pack.injEq, HO.obj.injEq]
def sync__c (I : Alg) (args : List D) (hp : List HO) : Option CT := match args, hp with
  | [.v (.one (.ptr 0 0))], [.pack [.obj 140 [(.row 1), (.p (.int .i64 s))], .row .byte 5 b]] => (fun (b : Str) (s : Int) => (some (.one ⟨I.hid (True), (.ret (.tup [])), [.pack [.obj 140 [(.row 1), (.p (.int .i64 (I.hid ((b.length : Int)))))], .row .byte 5 b]]⟩) : Option CT)) b s
  | _, _ => none
theorem sync__g : GoodC Tryd.prog 94 (sync__c alg) := by
  intro args hp r h
  unfold sync__c at h
  split at h
  · cases h; exact fun hn => sync_ _ _
  · cases h
def sync__k : Know Tryd.prog := ⟨94, sync__c, sync__g⟩
def sync__l : Know Tryd.prog := ⟨94, fun I => lendC I (sync__c I), lendC_good sync__g⟩

theorem room_ (b : Str) (s n : Int) (hneed : b.length ≤ 100000000) : Spc Tryd.prog 149 [.v (.one (.ptr 0 0)), .v (.one (.p (.int .i64 n)))] [.pack [.obj 140 [(.row 1), (.p (.int .i64 s))], .row .byte 5 b]] (.ret (.v (.one (.p (.bool ((roomB b n))))))) [.pack [.obj 140 [(.row 1), (.p (.int .i64 s))], .row .byte 5 b]] := by
  refine spcG tab_ok mixed Tryd.func149 (by kernel_rfl) { cfgL with keep := some [0, 1, 4] } [] (by kernel_rfl) ?_
  intro I X hI hX
  refine ev_rule (let y0 := I.sub 100000 (I.len (α := UInt8) b); .br (I.ile 0 n) (.need (I.inr Go.IntKind.i64 y0) (.fin (.ret (.v (.one (.p (.bool (I.ile n y0)))))) [(.pack [(.obj 140 [(.row 1), (.p (.int .i64 s))]), (.row .byte 5 b)])])) (.fin (.ret (.v (.one (.p (.bool Bool.false))))) [(.pack [(.obj 140 [(.row 1), (.p (.int .i64 s))]), (.row .byte 5 b)])])) (by kernel_rfl) ?_
  simp only [inst_need, inst_br, inst_both, inst_fin, inst_qed, inst_stop, inst_code]
  subst hI
  simp only [alg_b2i, alg_i2b, alg_add, alg_sub, alg_mul, alg_quo, alg_rem, alg_wrap, alg_imin, alg_imax, alg_ilt, alg_ile, alg_ieq, alg_bnot, alg_beq, alg_ban, alg_seq, alg_len, alg_app, alg_cut, alg_get, alg_set, alg_rep, alg_inr, alg_inb, alg_cutb, alg_same, alg_few, alg_nne, alg_nng, alg_hid, alg_shl, alg_shr, alg_bits, decide_eq_true_eq, decide_eq_false_iff_not, beq_iff_eq, beq_eq_false_iff_ne, Bool.not_eq_true', Bool.not_eq_false', Bool.and_eq_true, Bool.and_true, Bool.true_and, and_true, true_and, ne_eq, Int.toNat_zero, Nat.sub_zero, List.drop_zero, i64_min, i64_max, u8_min, u8_max, ofNat_b2i, b2i_inj, Int.toNat_natCast, Int.ofNat_eq_natCast, UInt8.ofNat_toNat, AOut.ret.injEq, D.v.injEq, D.tup.injEq, V0.one.injEq, C.p.injEq, P.bool.injEq, P.int.injEq, P.str.injEq, Bool.false_eq_true, Bool.true_eq_false, imp_false, Decidable.not_not, not_true_eq_false, not_false_eq_true, List.cons.injEq, P.list.injEq, HO.row.injEq, heq_eq_eq, reduceCtorEq, false_and, and_false]
  unfold roomB
  exact ⟨fun h => ⟨by omega, decide_eq_decide.2 (by omega)⟩, fun h => (decide_eq_false (by omega)).symm⟩
def room__c (I : Alg) (args : List D) (hp : List HO) : Option CT := match args, hp with
  | [.v (.one (.ptr 0 0)), .v (.one (.p (.int .i64 n)))], [.pack [.obj 140 [(.row 1), (.p (.int .i64 s))], .row .byte 5 b]] => (fun (b : Str) (s n : Int) => (some (.one ⟨I.hid (b.length ≤ 100000000), (.ret (.v (.one (.p (.bool (I.hid ((roomB b n)))))))), [.pack [.obj 140 [(.row 1), (.p (.int .i64 s))], .row .byte 5 b]]⟩) : Option CT)) b s n
  | _, _ => none
theorem room__g : GoodC Tryd.prog 149 (room__c alg) := by
  intro args hp r h
  unfold room__c at h
  split at h
  · cases h; exact fun hn => room_ _ _ _ hn
  · cases h
def room__k : Know Tryd.prog := ⟨149, room__c, room__g⟩
def room__l : Know Tryd.prog := ⟨149, fun I => lendC I (room__c I), lendC_good room__g⟩

theorem write_ (b x : Str) (s : Int) (hneed : b.length ≤ 100000 ∧ x.length ≤ 100000000) : Spc Tryd.prog 132 [.v (.one (.ptr 0 0)), .v (.one (.p (.list .byte x)))] [.pack [.obj 140 [(.row 1), (.p (.int .i64 s))], .row .byte 5 b]] (.ret (.v (.one (.p (.int .i64 ((wrC b x))))))) [.pack [.obj 140 [(.row 1), (.p (.int .i64 s))], .row .byte 5 ((wrB b x))]] := by
  refine spcG tab_ok mixed Tryd.func132 (by kernel_rfl) { cfgL with keep := some [0, 1, 4] } [room__k, room__l] (by kernel_rfl) ?_
  intro I X hI hX
  refine ev_rule (.need (I.hid (α := (Prop)) (LE.le (List.length b) 100000000)) (.br (I.bnot (I.hid (α := Bool) (roomB b (I.len (α := UInt8) x)))) (.fin (.ret (.v (.one (.p (.int .i64 16))))) [(.pack [(.obj 140 [(.row 1), (.p (.int .i64 s))]), (.row .byte 5 b)])]) (.need (I.few (I.add (I.len (α := UInt8) b) (I.len (α := UInt8) x)) 140737488355328) (.fin (.ret (.v (.one (.p (.int .i64 0))))) [(.pack [(.obj 140 [(.row 1), (.p (.int .i64 s))]), (.row .byte 5 (I.app (α := UInt8) b x))])])))) (by kernel_rfl) ?_
  simp only [inst_need, inst_br, inst_both, inst_fin, inst_qed, inst_stop, inst_code]
  subst hI
  have hr : roomB b (x.length : Int) = decide (b.length + x.length ≤ 100000) := by unfold roomB; exact decide_eq_decide.2 (by omega)
  simp only [alg_b2i, alg_i2b, alg_add, alg_sub, alg_mul, alg_quo, alg_rem, alg_wrap, alg_imin, alg_imax, alg_ilt, alg_ile, alg_ieq, alg_bnot, alg_beq, alg_ban, alg_seq, alg_len, alg_app, alg_cut, alg_get, alg_set, alg_rep, alg_inr, alg_inb, alg_cutb, alg_same, alg_few, alg_nne, alg_nng, alg_hid, alg_shl, alg_shr, alg_bits, decide_eq_true_eq, decide_eq_false_iff_not, beq_iff_eq, beq_eq_false_iff_ne, Bool.not_eq_true', Bool.not_eq_false', Bool.and_eq_true, Bool.and_true, Bool.true_and, and_true, true_and, ne_eq, Int.toNat_zero, Nat.sub_zero, List.drop_zero, i64_min, i64_max, u8_min, u8_max, ofNat_b2i, b2i_inj, Int.toNat_natCast, Int.ofNat_eq_natCast, UInt8.ofNat_toNat, AOut.ret.injEq, D.v.injEq, D.tup.injEq, V0.one.injEq, C.p.injEq, P.bool.injEq, P.int.injEq, P.str.injEq, Bool.false_eq_true, Bool.true_eq_false, imp_false, Decidable.not_not, not_true_eq_false, not_false_eq_true, List.cons.injEq, P.list.injEq, HO.row.injEq, heq_eq_eq, reduceCtorEq, false_and, and_false, HO.pack.injEq, HO.obj.injEq]
  rw [hr]
  by_cases hc : b.length + x.length ≤ 100000
  · simp only [wrC, wrB, if_pos hc, decide_eq_true hc]
    simp only [alg_b2i, alg_i2b, alg_add, alg_sub, alg_mul, alg_quo, alg_rem, alg_wrap, alg_imin, alg_imax, alg_ilt, alg_ile, alg_ieq, alg_bnot, alg_beq, alg_ban, alg_seq, alg_len, alg_app, alg_cut, alg_get, alg_set, alg_rep, alg_inr, alg_inb, alg_cutb, alg_same, alg_few, alg_nne, alg_nng, alg_hid, alg_shl, alg_shr, alg_bits, decide_eq_true_eq, decide_eq_false_iff_not, beq_iff_eq, beq_eq_false_iff_ne, Bool.not_eq_true', Bool.not_eq_false', Bool.and_eq_true, Bool.and_true, Bool.true_and, and_true, true_and, ne_eq, Int.toNat_zero, Nat.sub_zero, List.drop_zero, i64_min, i64_max, u8_min, u8_max, ofNat_b2i, b2i_inj, Int.toNat_natCast, Int.ofNat_eq_natCast, UInt8.ofNat_toNat, AOut.ret.injEq, D.v.injEq, D.tup.injEq, V0.one.injEq, C.p.injEq, P.bool.injEq, P.int.injEq, P.str.injEq, Bool.false_eq_true, Bool.true_eq_false, imp_false, Decidable.not_not, not_true_eq_false, not_false_eq_true, List.cons.injEq, P.list.injEq, HO.row.injEq, heq_eq_eq, reduceCtorEq, false_and, and_false]
    exact ⟨by omega, fun h => h.elim, fun _ => by omega⟩
  · simp only [wrC, wrB, if_neg hc, decide_eq_false hc]
    simp only [alg_b2i, alg_i2b, alg_add, alg_sub, alg_mul, alg_quo, alg_rem, alg_wrap, alg_imin, alg_imax, alg_ilt, alg_ile, alg_ieq, alg_bnot, alg_beq, alg_ban, alg_seq, alg_len, alg_app, alg_cut, alg_get, alg_set, alg_rep, alg_inr, alg_inb, alg_cutb, alg_same, alg_few, alg_nne, alg_nng, alg_hid, alg_shl, alg_shr, alg_bits, decide_eq_true_eq, decide_eq_false_iff_not, beq_iff_eq, beq_eq_false_iff_ne, Bool.not_eq_true', Bool.not_eq_false', Bool.and_eq_true, Bool.and_true, Bool.true_and, and_true, true_and, ne_eq, Int.toNat_zero, Nat.sub_zero, List.drop_zero, i64_min, i64_max, u8_min, u8_max, ofNat_b2i, b2i_inj, Int.toNat_natCast, Int.ofNat_eq_natCast, UInt8.ofNat_toNat, AOut.ret.injEq, D.v.injEq, D.tup.injEq, V0.one.injEq, C.p.injEq, P.bool.injEq, P.int.injEq, P.str.injEq, Bool.false_eq_true, Bool.true_eq_false, imp_false, Decidable.not_not, not_true_eq_false, not_false_eq_true, List.cons.injEq, P.list.injEq, HO.row.injEq, heq_eq_eq, reduceCtorEq, false_and, and_false]
    exact ⟨by omega, fun _ => trivial, fun h => h.elim⟩
def write__c (I : Alg) (args : List D) (hp : List HO) : Option CT := match args, hp with
  | [.v (.one (.ptr 0 0)), .v (.one (.p (.list .byte x)))], [.pack [.obj 140 [(.row 1), (.p (.int .i64 s))], .row .byte 5 b]] => (fun (b x : Str) (s : Int) => (some (.one ⟨I.hid (b.length ≤ 100000 ∧ x.length ≤ 100000000), (.ret (.v (.one (.p (.int .i64 (I.hid ((wrC b x)))))))), [.pack [.obj 140 [(.row 1), (.p (.int .i64 s))], .row .byte 5 (I.hid ((wrB b x)))]]⟩) : Option CT)) b x s
  | _, _ => none
theorem write__g : GoodC Tryd.prog 132 (write__c alg) := by
  intro args hp r h
  unfold write__c at h
  split at h
  · cases h; exact fun hn => write_ _ _ _ hn
  · cases h
def write__k : Know Tryd.prog := ⟨132, write__c, write__g⟩
def write__l : Know Tryd.prog := ⟨132, fun I => lendC I (write__c I), lendC_good write__g⟩

theorem crash_ (b : Str) (s n : Int) (hneed : b.length ≤ 100000 ∧ 0 ≤ s ∧ s ≤ b.length) : Spc Tryd.prog 86 [.v (.one (.ptr 0 0)), .v (.one (.p (.int .i64 n)))] [.pack [.obj 140 [(.row 1), (.p (.int .i64 s))], .row .byte 5 b]] (.ret (.tup [])) [.pack [.obj 140 [(.row 1), (.p (.int .i64 (((crB b s n).length : Int))))], .row .byte 5 ((crB b s n))]] := by
  refine spcG tab_ok mixed Tryd.func86 (by kernel_rfl) { cfgL with cut := [35], keep := some [0, 1, 4] } [sync__k, sync__l] (by kernel_rfl) ?_
  intro I X hI hX
  refine ev_rule (let y0 := I.add s (I.imin (I.imax n 0) (I.sub (I.len (α := UInt8) b) s)); .need (I.inr Go.IntKind.i64 (I.sub (I.len (α := UInt8) b) s)) (.need (I.inr Go.IntKind.i64 y0) (.need (I.inr Go.IntKind.i64 y0) (.need (I.same (α := Int) y0 y0) (.need (I.cutb 0 y0 (I.len (α := UInt8) b)) (.need (I.same (α := Int) 0 0) (.need (I.hid (α := (Prop)) True) (.fin (.ret (.tup [])) [(.pack [(.obj 140 [(.row 1), (.p (.int .i64 (I.hid (α := Int) (Nat.cast (List.length (I.cut (α := UInt8) b 0 y0))))))]), (.row .byte 5 (I.cut (α := UInt8) b 0 y0))])])))))))) (by kernel_rfl) ?_
  simp only [inst_need, inst_br, inst_both, inst_fin, inst_qed, inst_stop, inst_code]
  subst hI
  simp only [alg_b2i, alg_i2b, alg_add, alg_sub, alg_mul, alg_quo, alg_rem, alg_wrap, alg_imin, alg_imax, alg_ilt, alg_ile, alg_ieq, alg_bnot, alg_beq, alg_ban, alg_seq, alg_len, alg_app, alg_cut, alg_get, alg_set, alg_rep, alg_inr, alg_inb, alg_cutb, alg_same, alg_few, alg_nne, alg_nng, alg_hid, alg_shl, alg_shr, alg_bits, decide_eq_true_eq, decide_eq_false_iff_not, beq_iff_eq, beq_eq_false_iff_ne, Bool.not_eq_true', Bool.not_eq_false', Bool.and_eq_true, Bool.and_true, Bool.true_and, and_true, true_and, ne_eq, Int.toNat_zero, Nat.sub_zero, List.drop_zero, i64_min, i64_max, u8_min, u8_max, ofNat_b2i, b2i_inj, Int.toNat_natCast, Int.ofNat_eq_natCast, UInt8.ofNat_toNat, AOut.ret.injEq, D.v.injEq, D.tup.injEq, V0.one.injEq, C.p.injEq, P.bool.injEq, P.int.injEq, P.str.injEq, Bool.false_eq_true, Bool.true_eq_false, imp_false, Decidable.not_not, not_true_eq_false, not_false_eq_true, List.cons.injEq, P.list.injEq, HO.row.injEq, heq_eq_eq, reduceCtorEq, false_and, and_false, HO.pack.injEq, HO.obj.injEq]
  obtain ⟨K, hK, h0, hle⟩ : ∃ K : Int, s + (if (if n ≤ 0 then 0 else n) ≤ (b.length : Int) - s then (if n ≤ 0 then 0 else n) else (b.length : Int) - s) = K ∧ s ≤ K ∧ K ≤ b.length := ⟨_, rfl, by omega, by omega⟩
  have hcr : crB b s n = b.take K.toNat := by
    unfold crB
    rw [← hK]
    congr 2
  rw [hK, hcr]
  exact ⟨by omega, by omega, by omega, by omega, rfl, rfl⟩
def crash__c (I : Alg) (args : List D) (hp : List HO) : Option CT := match args, hp with
  | [.v (.one (.ptr 0 0)), .v (.one (.p (.int .i64 n)))], [.pack [.obj 140 [(.row 1), (.p (.int .i64 s))], .row .byte 5 b]] => (fun (b : Str) (s n : Int) => (some (.one ⟨I.hid (b.length ≤ 100000 ∧ 0 ≤ s ∧ s ≤ b.length), (.ret (.tup [])), [.pack [.obj 140 [(.row 1), (.p (.int .i64 (I.hid (((crB b s n).length : Int)))))], .row .byte 5 (I.hid ((crB b s n)))]]⟩) : Option CT)) b s n
  | _, _ => none
theorem crash__g : GoodC Tryd.prog 86 (crash__c alg) := by
  intro args hp r h
  unfold crash__c at h
  split at h
  · cases h; exact fun hn => crash_ _ _ _ hn
  · cases h
def crash__k : Know Tryd.prog := ⟨86, crash__c, crash__g⟩
def crash__l : Know Tryd.prog := ⟨86, fun I => lendC I (crash__c I), lendC_good crash__g⟩

theorem cutL_ (b : Str) (s n : Int) (hneed : b.length ≤ 100000 ∧ 0 ≤ s ∧ s ≤ b.length) : Spc Tryd.prog 89 [.v (.one (.ptr 0 0)), .v (.one (.p (.int .i64 n)))] [.pack [.obj 140 [(.row 1), (.p (.int .i64 s))], .row .byte 5 b]] (.ret (.tup [])) [.pack [.obj 140 [(.row 1), (.p (.int .i64 ((cuS b s n))))], .row .byte 5 ((cuB b n))]] := by
  refine spcG tab_ok mixed Tryd.func89 (by kernel_rfl) { cfgL with cut := [22], keep := some [0, 1] } [] (by kernel_rfl) ?_
  intro I X hI hX
  refine ev_rule (.br (I.ile 0 n) (.br (I.ilt n (I.len (α := UInt8) b)) (.need (I.same (α := Int) n n) (.need (I.cutb 0 n (I.len (α := UInt8) b)) (.need (I.same (α := Int) 0 0) (.fin (.ret (.tup [])) [(.pack [(.obj 140 [(.row 1), (.p (.int .i64 (I.imin s n)))]), (.row .byte 5 (I.cut (α := UInt8) b 0 n))])])))) (.fin (.ret (.tup [])) [(.pack [(.obj 140 [(.row 1), (.p (.int .i64 s))]), (.row .byte 5 b)])])) (.fin (.ret (.tup [])) [(.pack [(.obj 140 [(.row 1), (.p (.int .i64 s))]), (.row .byte 5 b)])])) (by kernel_rfl) ?_
  simp only [inst_need, inst_br, inst_both, inst_fin, inst_qed, inst_stop, inst_code]
  subst hI
  simp only [alg_b2i, alg_i2b, alg_add, alg_sub, alg_mul, alg_quo, alg_rem, alg_wrap, alg_imin, alg_imax, alg_ilt, alg_ile, alg_ieq, alg_bnot, alg_beq, alg_ban, alg_seq, alg_len, alg_app, alg_cut, alg_get, alg_set, alg_rep, alg_inr, alg_inb, alg_cutb, alg_same, alg_few, alg_nne, alg_nng, alg_hid, alg_shl, alg_shr, alg_bits, decide_eq_true_eq, decide_eq_false_iff_not, beq_iff_eq, beq_eq_false_iff_ne, Bool.not_eq_true', Bool.not_eq_false', Bool.and_eq_true, Bool.and_true, Bool.true_and, and_true, true_and, ne_eq, Int.toNat_zero, Nat.sub_zero, List.drop_zero, i64_min, i64_max, u8_min, u8_max, ofNat_b2i, b2i_inj, Int.toNat_natCast, Int.ofNat_eq_natCast, UInt8.ofNat_toNat, AOut.ret.injEq, D.v.injEq, D.tup.injEq, V0.one.injEq, C.p.injEq, P.bool.injEq, P.int.injEq, P.str.injEq, Bool.false_eq_true, Bool.true_eq_false, imp_false, Decidable.not_not, not_true_eq_false, not_false_eq_true, List.cons.injEq, P.list.injEq, HO.row.injEq, heq_eq_eq, reduceCtorEq, false_and, and_false, HO.pack.injEq, HO.obj.injEq]
  refine ⟨fun h1 => ⟨fun h2 => ⟨by omega, ?_, ?_⟩, fun h2 => ?_⟩, fun h1 => ?_⟩
  · unfold cuS; rw [if_pos (show 0 ≤ n ∧ n < (b.length : Int) from ⟨h1, h2⟩)]; omega
  · unfold cuB; rw [if_pos (show 0 ≤ n ∧ n < (b.length : Int) from ⟨h1, h2⟩)]
  · unfold cuS cuB; rw [if_neg (show ¬ (0 ≤ n ∧ n < (b.length : Int)) from fun h => by omega), if_neg (show ¬ (0 ≤ n ∧ n < (b.length : Int)) from fun h => by omega)]; exact ⟨rfl, rfl⟩
  · unfold cuS cuB; rw [if_neg (show ¬ (0 ≤ n ∧ n < (b.length : Int)) from fun h => by omega), if_neg (show ¬ (0 ≤ n ∧ n < (b.length : Int)) from fun h => by omega)]; exact ⟨rfl, rfl⟩
def cutL__c (I : Alg) (args : List D) (hp : List HO) : Option CT := match args, hp with
  | [.v (.one (.ptr 0 0)), .v (.one (.p (.int .i64 n)))], [.pack [.obj 140 [(.row 1), (.p (.int .i64 s))], .row .byte 5 b]] => (fun (b : Str) (s n : Int) => (some (.one ⟨I.hid (b.length ≤ 100000 ∧ 0 ≤ s ∧ s ≤ b.length), (.ret (.tup [])), [.pack [.obj 140 [(.row 1), (.p (.int .i64 (I.hid ((cuS b s n)))))], .row .byte 5 (I.hid ((cuB b n)))]]⟩) : Option CT)) b s n
  | _, _ => none
theorem cutL__g : GoodC Tryd.prog 89 (cutL__c alg) := by
  intro args hp r h
  unfold cutL__c at h
  split at h
  · cases h; exact fun hn => cutL_ _ _ _ hn
  · cases h
def cutL__k : Know Tryd.prog := ⟨89, cutL__c, cutL__g⟩
def cutL__l : Know Tryd.prog := ⟨89, fun I => lendC I (cutL__c I), lendC_good cutL__g⟩
end Go.Proofs.YtjapkdcomcgamaaDoor
