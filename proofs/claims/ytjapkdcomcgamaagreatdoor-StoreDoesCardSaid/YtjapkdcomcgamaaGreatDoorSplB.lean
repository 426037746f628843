/- Uploads: the walks of package spool, the others. -/
import Derived.Test.YtjapkdcomcgamaaGreatDoorSplA
set_option linter.all false
namespace Go.Proofs.YtjapkdcomcgamaaGreatDoor
open Go Go.Sep Go.Ab
set_option maxRecDepth 100000

theorem sDeclare_ (l : List Upl) (n id size : Int) (hneed : SplOk l n) : Spc Tryz.prog 100 [.v (.one (.ptr 0 0)), .v (.one (.p (.int .i64 id))), .v (.one (.p (.int .i64 size)))] [.pack [.obj 79 [(.row 1), (.p (.int .i64 n))], .row .upl 70 l]] (.ret (.v (.one (.p (.int .i64 ((decC l id size))))))) [.pack [.obj 79 [(.row 1), (.p (.int .i64 n))], .row .upl 70 ((decL l id size))]] := by
  have hs := hneed
  have hf := spl_few hs
  generalize he : decC l id size = re
  generalize hl : decL l id size = rl
  refine spcG tab_ok mixed Tryz.func100 (by kernel_rfl) { cfgSp with bare := [73], keep := some [0, 1, 2, 6, 7, 8] } [sAt__k, sAt__l] (by kernel_rfl) ?_
  intro I X hI hX
  refine ev_rule (let y0 := I.get (α := Go.Ab.Upl) l (Go.Ab.Upl.mk (0 : Int) (0 : Int) ([] : List UInt8) ([] : List UInt8) (0 : Int)) (I.hid (α := Int) (Nat.cast (atU l id))); let y1 := I.inb (I.hid (α := Int) (Nat.cast (atU l id))) (I.len (α := Go.Ab.Upl) l); .br (I.hid (α := Bool) (Decidable.decide (LT.lt (atU l id) (List.length l)))) (.need (I.hid (α := (Prop)) (And (LE.le (List.length l) 1000000) (LT.lt (atU l id) (List.length l)))) (.br (I.bnot (I.ieq 0 0)) (.fin (.ret (.v (.one (.p (.int .i64 0))))) [(.pack [(.obj 79 [(.row 1), (.p (.int .i64 n))]), (.row .upl 70 l)])]) (.need y1 (.br (I.ile 0 (Go.Ab.Upl.size y0)) (.fin (.ret (.v (.one (.p (.int .i64 18))))) [(.pack [(.obj 79 [(.row 1), (.p (.int .i64 n))]), (.row .upl 70 l)])]) (.br (I.ilt size 0) (.fin (.ret (.v (.one (.p (.int .i64 1))))) [(.pack [(.obj 79 [(.row 1), (.p (.int .i64 n))]), (.row .upl 70 l)])]) (.br (I.ilt 2000 size) (.fin (.ret (.v (.one (.p (.int .i64 4))))) [(.pack [(.obj 79 [(.row 1), (.p (.int .i64 n))]), (.row .upl 70 l)])]) (.need y1 (.br (I.ilt size (I.len (α := UInt8) (Go.Ab.Upl.bytes y0))) (.fin (.ret (.v (.one (.p (.int .i64 4))))) [(.pack [(.obj 79 [(.row 1), (.p (.int .i64 n))]), (.row .upl 70 l)])]) (.need y1 (.fin (.ret (.v (.one (.p (.int .i64 0))))) [(.pack [(.obj 79 [(.row 1), (.p (.int .i64 n))]), (.row .upl 70 (I.set (α := Go.Ab.Upl) l (I.hid (α := Int) (Nat.cast (atU l id))) (Go.Ab.Upl.mk (Go.Ab.Upl.id y0) size (Go.Ab.Upl.note y0) (Go.Ab.Upl.bytes y0) (Go.Ab.Upl.sent y0))))])])))))))))) (.need (I.hid (α := (Prop)) (And (LE.le (List.length l) 1000000) (Not (LT.lt (atU l id) (List.length l))))) (.br (I.bnot (I.ieq 10 0)) (.fin (.ret (.v (.one (.p (.int .i64 10))))) [(.pack [(.obj 79 [(.row 1), (.p (.int .i64 n))]), (.row .upl 70 l)])]) (.stop 0)))) (by kernel_rfl) ?_
  simp only [instL]
  subst hI
  simp only [nrmA, decide_eq_true_eq, decide_eq_false_iff_not, beq_iff_eq, beq_eq_false_iff_ne, Bool.not_eq_true', Bool.not_eq_false', Bool.and_eq_true, Bool.and_true, Bool.true_and, and_true, true_and, ne_eq, Int.toNat_zero, Nat.sub_zero, List.drop_zero, i64_min, i64_max, u8_min, u8_max, ofNat_b2i, b2i_inj, Int.toNat_natCast, Int.ofNat_eq_natCast, UInt8.ofNat_toNat, AOut.ret.injEq, D.v.injEq, D.tup.injEq, V0.one.injEq, C.p.injEq, P.bool.injEq, P.int.injEq, P.str.injEq, Bool.false_eq_true, Bool.true_eq_false, imp_false, Decidable.not_not, not_true_eq_false, not_false_eq_true, List.cons.injEq, P.list.injEq, HO.row.injEq, heq_eq_eq, reduceCtorEq, false_and, and_false, HO.pack.injEq, HO.obj.injEq]
  unfold decL at hl
  rw [he] at hl
  unfold decC at he
  unfold uplAt upl0 at he hl
  generalize l.getD (atU l id) ⟨0, 0, [], [], 0⟩ = x at *
  (repeat' (first | refine And.intro ?_ ?_ | intro _)) <;> first | omega | exact True.intro | exact False.elim ‹False› | skip
  all_goals first
    | exact hf.1
    | ((repeat (first | rewrite [if_pos (by first | omega | assumption | (simp only [*, or_self, or_true, true_or, or_false, false_or, not_true_eq_false, not_false_eq_true, Bool.false_eq_true, Bool.true_eq_false, and_self, and_true, true_and]; done) | (simp only [*]; omega) | (simp [*]; done) | (simp [*]; omega))] at he | rewrite [if_neg (by first | omega | assumption | (simp only [*, or_self, or_true, true_or, or_false, false_or, not_true_eq_false, not_false_eq_true, Bool.false_eq_true, Bool.true_eq_false, and_self, and_true, true_and]; done) | (simp only [*]; omega) | (simp [*]; done) | (simp [*]; omega))] at he)); subst he; ((repeat (first | rewrite [if_pos (by first | omega | assumption | (simp only [*, or_self, or_true, true_or, or_false, false_or, not_true_eq_false, not_false_eq_true, Bool.false_eq_true, Bool.true_eq_false, and_self, and_true, true_and]; done) | (simp only [*]; omega) | (simp [*]; done) | (simp [*]; omega))] at hl | rewrite [if_neg (by first | omega | assumption | (simp only [*, or_self, or_true, true_or, or_false, false_or, not_true_eq_false, not_false_eq_true, Bool.false_eq_true, Bool.true_eq_false, and_self, and_true, true_and]; done) | (simp only [*]; omega) | (simp [*]; done) | (simp [*]; omega))] at hl))); subst hl; first | rfl | omega)
def sDeclare__c (I : Alg) (args : List D) (hp : List HO) : Option CT := match args, hp with
  | [.v (.one (.ptr 0 0)), .v (.one (.p (.int .i64 id))), .v (.one (.p (.int .i64 size)))], [.pack [.obj 79 [(.row 1), (.p (.int .i64 n))], .row .upl 70 l]] => (fun (l : List Upl) (n id size : Int) => (some (.one ⟨I.hid (SplOk l n), (.ret (.v (.one (.p (.int .i64 (I.hid ((decC l id size)))))))), [.pack [.obj 79 [(.row 1), (.p (.int .i64 n))], .row .upl 70 (I.hid ((decL l id size)))]]⟩) : Option CT)) l n id size
  | _, _ => none
theorem sDeclare__g : GoodC Tryz.prog 100 (sDeclare__c alg) := by
  intro args hp r h
  unfold sDeclare__c at h
  split at h
  · cases h; exact fun hn => sDeclare_ _ _ _ _ hn
  · cases h
def sDeclare__k : Know Tryz.prog := ⟨100, sDeclare__c, sDeclare__g⟩
def sDeclare__l : Know Tryz.prog := ⟨100, fun I => lendC I (sDeclare__c I), lendC_good sDeclare__g⟩

theorem whole_ (a b : Int) (m y : Str) (t : Int) : Spc Tryz.prog 133 [.v (.agg [(.p (.int .i64 a)), (.p (.int .i64 b)), (.p (.str m)), (.p (.list .byte y)), (.p (.int .i64 t))])] [] (.ret (.v (.one (.p (.bool ((b == (y.length : Int)))))))) [] := by
  refine spcG tab_ok mixed Tryz.func133 (by kernel_rfl) { keep := some [0, 1, 2] } [] (by kernel_rfl) ?_
  intro I X hI hX
  refine ev_rule (.fin (.ret (.v (.one (.p (.bool (I.ieq b (I.len (α := UInt8) y))))))) []) (by kernel_rfl) ?_
  simp only [instL]
  subst hI
  simp only [nrmA, decide_eq_true_eq, decide_eq_false_iff_not, beq_iff_eq, beq_eq_false_iff_ne, Bool.not_eq_true', Bool.not_eq_false', Bool.and_eq_true, Bool.and_true, Bool.true_and, and_true, true_and, ne_eq, Int.toNat_zero, Nat.sub_zero, List.drop_zero, i64_min, i64_max, u8_min, u8_max, ofNat_b2i, b2i_inj, Int.toNat_natCast, Int.ofNat_eq_natCast, UInt8.ofNat_toNat, AOut.ret.injEq, D.v.injEq, D.tup.injEq, V0.one.injEq, C.p.injEq, P.bool.injEq, P.int.injEq, P.str.injEq, Bool.false_eq_true, Bool.true_eq_false, imp_false, Decidable.not_not, not_true_eq_false, not_false_eq_true]
  try trivial
def whole__c (I : Alg) (args : List D) (hp : List HO) : Option CT := match args, hp with
  | [.v (.agg [(.p (.int .i64 a)), (.p (.int .i64 b)), (.p (.str m)), (.p (.list .byte y)), (.p (.int .i64 t))])], [] => (fun (a b : Int) (m y : Str) (t : Int) => (some (.one ⟨I.hid (True), (.ret (.v (.one (.p (.bool (I.hid ((b == (y.length : Int))))))))), []⟩) : Option CT)) a b m y t
  | _, _ => none
theorem whole__g : GoodC Tryz.prog 133 (whole__c alg) := by
  intro args hp r h
  unfold whole__c at h
  split at h
  · cases h; exact fun hn => whole_ _ _ _ _ _
  · cases h
def whole__k : Know Tryz.prog := ⟨133, whole__c, whole__g⟩
def whole__l : Know Tryz.prog := ⟨133, fun I => lendC I (whole__c I), lendC_good whole__g⟩

theorem sBegin_ (l : List Upl) (n id : Int) (hneed : SplOk l n) : Spc Tryz.prog 102 [.v (.one (.ptr 0 0)), .v (.one (.p (.int .i64 id)))] [.pack [.obj 79 [(.row 1), (.p (.int .i64 n))], .row .upl 70 l]] (.ret (.v (.one (.p (.int .i64 ((begC l id))))))) [.pack [.obj 79 [(.row 1), (.p (.int .i64 n))], .row .upl 70 ((begL l id))]] := by
  have hs := hneed
  have hf := spl_few hs
  generalize he : begC l id = re
  generalize hl : begL l id = rl
  refine spcG tab_ok mixed Tryz.func102 (by kernel_rfl) { cfgSp with bare := [73], keep := some [0, 1, 4, 5, 6] } [sAt__k, sAt__l, whole__k, whole__l] (by kernel_rfl) ?_
  intro I X hI hX
  refine ev_rule (let y0 := I.get (α := Go.Ab.Upl) l (Go.Ab.Upl.mk (0 : Int) (0 : Int) ([] : List UInt8) ([] : List UInt8) (0 : Int)) (I.hid (α := Int) (Nat.cast (atU l id))); let y1 := I.inb (I.hid (α := Int) (Nat.cast (atU l id))) (I.len (α := Go.Ab.Upl) l); .br (I.hid (α := Bool) (Decidable.decide (LT.lt (atU l id) (List.length l)))) (.need (I.hid (α := (Prop)) (And (LE.le (List.length l) 1000000) (LT.lt (atU l id) (List.length l)))) (.br (I.bnot (I.ieq 0 0)) (.fin (.ret (.v (.one (.p (.int .i64 0))))) [(.pack [(.obj 79 [(.row 1), (.p (.int .i64 n))]), (.row .upl 70 l)])]) (.need y1 (.br (I.bnot (I.ieq (Go.Ab.Upl.sent y0) 0)) (.fin (.ret (.v (.one (.p (.int .i64 19))))) [(.pack [(.obj 79 [(.row 1), (.p (.int .i64 n))]), (.row .upl 70 l)])]) (.need y1 (.need (I.hid (α := (Prop)) True) (.br (I.bnot (I.hid (α := Bool) (BEq.beq (Go.Ab.Upl.size y0) (Nat.cast (List.length (Go.Ab.Upl.bytes y0)))))) (.fin (.ret (.v (.one (.p (.int .i64 14))))) [(.pack [(.obj 79 [(.row 1), (.p (.int .i64 n))]), (.row .upl 70 l)])]) (.need y1 (.fin (.ret (.v (.one (.p (.int .i64 0))))) [(.pack [(.obj 79 [(.row 1), (.p (.int .i64 n))]), (.row .upl 70 (I.set (α := Go.Ab.Upl) l (I.hid (α := Int) (Nat.cast (atU l id))) (Go.Ab.Upl.mk (Go.Ab.Upl.id y0) (Go.Ab.Upl.size y0) (Go.Ab.Upl.note y0) (Go.Ab.Upl.bytes y0) (1 : Int))))])]))))))))) (.need (I.hid (α := (Prop)) (And (LE.le (List.length l) 1000000) (Not (LT.lt (atU l id) (List.length l))))) (.br (I.bnot (I.ieq 10 0)) (.fin (.ret (.v (.one (.p (.int .i64 10))))) [(.pack [(.obj 79 [(.row 1), (.p (.int .i64 n))]), (.row .upl 70 l)])]) (.stop 0)))) (by kernel_rfl) ?_
  simp only [instL]
  subst hI
  simp only [nrmA, decide_eq_true_eq, decide_eq_false_iff_not, beq_iff_eq, beq_eq_false_iff_ne, Bool.not_eq_true', Bool.not_eq_false', Bool.and_eq_true, Bool.and_true, Bool.true_and, and_true, true_and, ne_eq, Int.toNat_zero, Nat.sub_zero, List.drop_zero, i64_min, i64_max, u8_min, u8_max, ofNat_b2i, b2i_inj, Int.toNat_natCast, Int.ofNat_eq_natCast, UInt8.ofNat_toNat, AOut.ret.injEq, D.v.injEq, D.tup.injEq, V0.one.injEq, C.p.injEq, P.bool.injEq, P.int.injEq, P.str.injEq, Bool.false_eq_true, Bool.true_eq_false, imp_false, Decidable.not_not, not_true_eq_false, not_false_eq_true, List.cons.injEq, P.list.injEq, HO.row.injEq, heq_eq_eq, reduceCtorEq, false_and, and_false, HO.pack.injEq, HO.obj.injEq]
  unfold begL at hl
  rw [he] at hl
  unfold begC at he
  unfold uplAt upl0 at he hl
  generalize l.getD (atU l id) ⟨0, 0, [], [], 0⟩ = x at *
  (repeat' (first | refine And.intro ?_ ?_ | intro _)) <;> first | omega | exact True.intro | exact False.elim ‹False› | skip
  all_goals first
    | exact hf.1
    | ((repeat (first | rewrite [if_pos (by first | omega | assumption | (simp only [*, or_self, or_true, true_or, or_false, false_or, not_true_eq_false, not_false_eq_true, Bool.false_eq_true, Bool.true_eq_false, and_self, and_true, true_and]; done) | (simp only [*]; omega) | (simp [*]; done) | (simp [*]; omega))] at he | rewrite [if_neg (by first | omega | assumption | (simp only [*, or_self, or_true, true_or, or_false, false_or, not_true_eq_false, not_false_eq_true, Bool.false_eq_true, Bool.true_eq_false, and_self, and_true, true_and]; done) | (simp only [*]; omega) | (simp [*]; done) | (simp [*]; omega))] at he)); subst he; ((repeat (first | rewrite [if_pos (by first | omega | assumption | (simp only [*, or_self, or_true, true_or, or_false, false_or, not_true_eq_false, not_false_eq_true, Bool.false_eq_true, Bool.true_eq_false, and_self, and_true, true_and]; done) | (simp only [*]; omega) | (simp [*]; done) | (simp [*]; omega))] at hl | rewrite [if_neg (by first | omega | assumption | (simp only [*, or_self, or_true, true_or, or_false, false_or, not_true_eq_false, not_false_eq_true, Bool.false_eq_true, Bool.true_eq_false, and_self, and_true, true_and]; done) | (simp only [*]; omega) | (simp [*]; done) | (simp [*]; omega))] at hl))); subst hl; first | rfl | omega)
def sBegin__c (I : Alg) (args : List D) (hp : List HO) : Option CT := match args, hp with
  | [.v (.one (.ptr 0 0)), .v (.one (.p (.int .i64 id)))], [.pack [.obj 79 [(.row 1), (.p (.int .i64 n))], .row .upl 70 l]] => (fun (l : List Upl) (n id : Int) => (some (.one ⟨I.hid (SplOk l n), (.ret (.v (.one (.p (.int .i64 (I.hid ((begC l id)))))))), [.pack [.obj 79 [(.row 1), (.p (.int .i64 n))], .row .upl 70 (I.hid ((begL l id)))]]⟩) : Option CT)) l n id
  | _, _ => none
theorem sBegin__g : GoodC Tryz.prog 102 (sBegin__c alg) := by
  intro args hp r h
  unfold sBegin__c at h
  split at h
  · cases h; exact fun hn => sBegin_ _ _ _ hn
  · cases h
def sBegin__k : Know Tryz.prog := ⟨102, sBegin__c, sBegin__g⟩
def sBegin__l : Know Tryz.prog := ⟨102, fun I => lendC I (sBegin__c I), lendC_good sBegin__g⟩

theorem sEnd_ (l : List Upl) (n id : Int) (hneed : SplOk l n) : Spc Tryz.prog 103 [.v (.one (.ptr 0 0)), .v (.one (.p (.int .i64 id)))] [.pack [.obj 79 [(.row 1), (.p (.int .i64 n))], .row .upl 70 l]] (.ret (.v (.one (.p (.int .i64 ((endC l id))))))) [.pack [.obj 79 [(.row 1), (.p (.int .i64 n))], .row .upl 70 ((endL l id))]] := by
  have hs := hneed
  have hf := spl_few hs
  generalize he : endC l id = re
  generalize hl : endL l id = rl
  refine spcG tab_ok mixed Tryz.func103 (by kernel_rfl) { cfgSp with bare := [73], keep := some [0, 1, 4, 5, 6] } [sAt__k, sAt__l] (by kernel_rfl) ?_
  intro I X hI hX
  refine ev_rule (let y1 := I.hid (α := Int) (Nat.cast (atU l id)); let y0 := I.get (α := Go.Ab.Upl) l (Go.Ab.Upl.mk (0 : Int) (0 : Int) ([] : List UInt8) ([] : List UInt8) (0 : Int)) y1; let y2 := I.inb y1 (I.len (α := Go.Ab.Upl) l); .br (I.hid (α := Bool) (Decidable.decide (LT.lt (atU l id) (List.length l)))) (.need (I.hid (α := (Prop)) (And (LE.le (List.length l) 1000000) (LT.lt (atU l id) (List.length l)))) (.br (I.bnot (I.ieq 0 0)) (.fin (.ret (.v (.one (.p (.int .i64 0))))) [(.pack [(.obj 79 [(.row 1), (.p (.int .i64 n))]), (.row .upl 70 l)])]) (.need y2 (.br (I.bnot (I.ieq (Go.Ab.Upl.sent y0) 1)) (.fin (.ret (.v (.one (.p (.int .i64 19))))) [(.pack [(.obj 79 [(.row 1), (.p (.int .i64 n))]), (.row .upl 70 l)])]) (.need y2 (.fin (.ret (.v (.one (.p (.int .i64 0))))) [(.pack [(.obj 79 [(.row 1), (.p (.int .i64 n))]), (.row .upl 70 (I.set (α := Go.Ab.Upl) l y1 (Go.Ab.Upl.mk (Go.Ab.Upl.id y0) (Go.Ab.Upl.size y0) (Go.Ab.Upl.note y0) (Go.Ab.Upl.bytes y0) (2 : Int))))])])))))) (.need (I.hid (α := (Prop)) (And (LE.le (List.length l) 1000000) (Not (LT.lt (atU l id) (List.length l))))) (.br (I.bnot (I.ieq 10 0)) (.fin (.ret (.v (.one (.p (.int .i64 10))))) [(.pack [(.obj 79 [(.row 1), (.p (.int .i64 n))]), (.row .upl 70 l)])]) (.stop 0)))) (by kernel_rfl) ?_
  simp only [instL]
  subst hI
  simp only [nrmA, decide_eq_true_eq, decide_eq_false_iff_not, beq_iff_eq, beq_eq_false_iff_ne, Bool.not_eq_true', Bool.not_eq_false', Bool.and_eq_true, Bool.and_true, Bool.true_and, and_true, true_and, ne_eq, Int.toNat_zero, Nat.sub_zero, List.drop_zero, i64_min, i64_max, u8_min, u8_max, ofNat_b2i, b2i_inj, Int.toNat_natCast, Int.ofNat_eq_natCast, UInt8.ofNat_toNat, AOut.ret.injEq, D.v.injEq, D.tup.injEq, V0.one.injEq, C.p.injEq, P.bool.injEq, P.int.injEq, P.str.injEq, Bool.false_eq_true, Bool.true_eq_false, imp_false, Decidable.not_not, not_true_eq_false, not_false_eq_true, List.cons.injEq, P.list.injEq, HO.row.injEq, heq_eq_eq, reduceCtorEq, false_and, and_false, HO.pack.injEq, HO.obj.injEq]
  unfold endL at hl
  rw [he] at hl
  unfold endC at he
  unfold uplAt upl0 at he hl
  generalize l.getD (atU l id) ⟨0, 0, [], [], 0⟩ = x at *
  (repeat' (first | refine And.intro ?_ ?_ | intro _)) <;> first | omega | exact True.intro | exact False.elim ‹False› | skip
  all_goals first
    | exact hf.1
    | ((repeat (first | rewrite [if_pos (by first | omega | assumption | (simp only [*, or_self, or_true, true_or, or_false, false_or, not_true_eq_false, not_false_eq_true, Bool.false_eq_true, Bool.true_eq_false, and_self, and_true, true_and]; done) | (simp only [*]; omega) | (simp [*]; done) | (simp [*]; omega))] at he | rewrite [if_neg (by first | omega | assumption | (simp only [*, or_self, or_true, true_or, or_false, false_or, not_true_eq_false, not_false_eq_true, Bool.false_eq_true, Bool.true_eq_false, and_self, and_true, true_and]; done) | (simp only [*]; omega) | (simp [*]; done) | (simp [*]; omega))] at he)); subst he; ((repeat (first | rewrite [if_pos (by first | omega | assumption | (simp only [*, or_self, or_true, true_or, or_false, false_or, not_true_eq_false, not_false_eq_true, Bool.false_eq_true, Bool.true_eq_false, and_self, and_true, true_and]; done) | (simp only [*]; omega) | (simp [*]; done) | (simp [*]; omega))] at hl | rewrite [if_neg (by first | omega | assumption | (simp only [*, or_self, or_true, true_or, or_false, false_or, not_true_eq_false, not_false_eq_true, Bool.false_eq_true, Bool.true_eq_false, and_self, and_true, true_and]; done) | (simp only [*]; omega) | (simp [*]; done) | (simp [*]; omega))] at hl))); subst hl; first | rfl | omega)
def sEnd__c (I : Alg) (args : List D) (hp : List HO) : Option CT := match args, hp with
  | [.v (.one (.ptr 0 0)), .v (.one (.p (.int .i64 id)))], [.pack [.obj 79 [(.row 1), (.p (.int .i64 n))], .row .upl 70 l]] => (fun (l : List Upl) (n id : Int) => (some (.one ⟨I.hid (SplOk l n), (.ret (.v (.one (.p (.int .i64 (I.hid ((endC l id)))))))), [.pack [.obj 79 [(.row 1), (.p (.int .i64 n))], .row .upl 70 (I.hid ((endL l id)))]]⟩) : Option CT)) l n id
  | _, _ => none
theorem sEnd__g : GoodC Tryz.prog 103 (sEnd__c alg) := by
  intro args hp r h
  unfold sEnd__c at h
  split at h
  · cases h; exact fun hn => sEnd_ _ _ _ hn
  · cases h
def sEnd__k : Know Tryz.prog := ⟨103, sEnd__c, sEnd__g⟩
def sEnd__l : Know Tryz.prog := ⟨103, fun I => lendC I (sEnd__c I), lendC_good sEnd__g⟩

theorem sNext_ (l : List Upl) (n : Int) (hneed : 0 ≤ n ∧ n ≤ 1000000) : Spc Tryz.prog 16 [.v (.one (.ptr 0 0))] [.pack [.obj 79 [(.row 1), (.p (.int .i64 n))], .row .upl 70 l]] (.ret (.v (.one (.p (.int .i64 ((n + 1))))))) [.pack [.obj 79 [(.row 1), (.p (.int .i64 n))], .row .upl 70 l]] := by
  refine spcG tab_ok mixed Tryz.func16 (by kernel_rfl) { cfgSp with keep := some [0, 2] } [] (by kernel_rfl) ?_
  intro I X hI hX
  refine ev_rule (.need (I.inr Go.IntKind.i64 (I.add n 1)) (.fin (.ret (.v (.one (.p (.int .i64 (I.add n 1)))))) [(.pack [(.obj 79 [(.row 1), (.p (.int .i64 n))]), (.row .upl 70 l)])])) (by kernel_rfl) ?_
  simp only [instL]
  subst hI
  simp only [nrmA, decide_eq_true_eq, decide_eq_false_iff_not, beq_iff_eq, beq_eq_false_iff_ne, Bool.not_eq_true', Bool.not_eq_false', Bool.and_eq_true, Bool.and_true, Bool.true_and, and_true, true_and, ne_eq, Int.toNat_zero, Nat.sub_zero, List.drop_zero, i64_min, i64_max, u8_min, u8_max, ofNat_b2i, b2i_inj, Int.toNat_natCast, Int.ofNat_eq_natCast, UInt8.ofNat_toNat, AOut.ret.injEq, D.v.injEq, D.tup.injEq, V0.one.injEq, C.p.injEq, P.bool.injEq, P.int.injEq, P.str.injEq, Bool.false_eq_true, Bool.true_eq_false, imp_false, Decidable.not_not, not_true_eq_false, not_false_eq_true]
  (repeat' (first | refine And.intro ?_ ?_ | intro _)) <;> first | omega | exact True.intro | exact False.elim ‹False› | skip
def sNext__c (I : Alg) (args : List D) (hp : List HO) : Option CT := match args, hp with
  | [.v (.one (.ptr 0 0))], [.pack [.obj 79 [(.row 1), (.p (.int .i64 n))], .row .upl 70 l]] => (fun (l : List Upl) (n : Int) => (some (.one ⟨I.hid (0 ≤ n ∧ n ≤ 1000000), (.ret (.v (.one (.p (.int .i64 (I.hid ((n + 1)))))))), [.pack [.obj 79 [(.row 1), (.p (.int .i64 n))], .row .upl 70 l]]⟩) : Option CT)) l n
  | _, _ => none
theorem sNext__g : GoodC Tryz.prog 16 (sNext__c alg) := by
  intro args hp r h
  unfold sNext__c at h
  split at h
  · cases h; exact fun hn => sNext_ _ _ hn
  · cases h
def sNext__k : Know Tryz.prog := ⟨16, sNext__c, sNext__g⟩
def sNext__l : Know Tryz.prog := ⟨16, fun I => lendC I (sNext__c I), lendC_good sNext__g⟩

theorem sNew_  : Spc Tryz.prog 33 [] [] (.ret (.v (.one (.ptr 0 0)))) [.pack [.obj 79 [(.row 1), (.p (.int .i64 0))], .row .upl 70 ([])]] := by
  refine spcG tab_ok mixed Tryz.func33 (by kernel_rfl) { cfgSp with keep := some [0] } [] (by kernel_rfl) ?_
  intro I X hI hX
  refine ev_rule (.fin (.ret (.v (.one (.ptr 0 0)))) [(.pack [(.obj 79 [(.row 1), (.p (.int .i64 0))]), (.row .upl 70 ([] : List Go.Ab.Upl))])]) (by kernel_rfl) ?_
  simp only [instL]
  trivial
def sNew__c (I : Alg) (args : List D) (hp : List HO) : Option CT := match args, hp with
  | [], [] => (fun (_ : Unit) => (some (.one ⟨I.hid (True), (.ret (.v (.one (.ptr 0 0)))), [.pack [.obj 79 [(.row 1), (.p (.int .i64 0))], .row .upl 70 (I.hid ([]))]]⟩) : Option CT)) ()
  | _, _ => none
theorem sNew__g : GoodC Tryz.prog 33 (sNew__c alg) := by
  intro args hp r h
  unfold sNew__c at h
  split at h
  · cases h; exact fun hn => sNew_ 
  · cases h
def sNew__k : Know Tryz.prog := ⟨33, sNew__c, sNew__g⟩
def sNew__l : Know Tryz.prog := ⟨33, fun I => lendC I (sNew__c I), lendC_good sNew__g⟩

def getB (l : List Upl) (id : Int) : Bool := decide (atU l id < l.length)
def getU (l : List Upl) (id : Int) : Upl := if atU l id < l.length then uplAt l id else upl0
theorem sGetB_ (l : List Upl) (n id : Int) (hneed : SplOk l n) : Spc Tryz.prog 32 [.v (.one (.ptr 0 0)), .v (.one (.p (.int .i64 id)))] [.obj 79 [(.row 1), (.p (.int .i64 n))], .row .upl 70 l] (.ret (.tup [(.agg [(.p (.int .i64 ((getU l id).id))), (.p (.int .i64 ((getU l id).size))), (.p (.str ((getU l id).note))), (.p (.list .byte ((getU l id).bytes))), (.p (.int .i64 ((getU l id).sent)))]), (.one (.p (.bool ((getB l id)))))])) [.obj 79 [(.row 1), (.p (.int .i64 n))], .row .upl 70 l] := by
  have hs := hneed
  have hf := spl_few hs
  generalize he : getU l id = re
  obtain ⟨a, b, c, d, e⟩ := re
  generalize hl : getB l id = rl
  refine spcG tab_ok mixed Tryz.func32 (by kernel_rfl) { cfgSp with flat := true, bare := [73], keep := some [0, 1, 4, 5, 6, 7, 8] } [clone__k, clone__l, sAt__k, sAt__l] (by kernel_rfl) ?_
  intro I X hI hX
  refine ev_rule (let y0 := I.get (α := Go.Ab.Upl) l (Go.Ab.Upl.mk (0 : Int) (0 : Int) ([] : List UInt8) ([] : List UInt8) (0 : Int)) (I.hid (α := Int) (Nat.cast (atU l id))); let y1 := I.inb (I.hid (α := Int) (Nat.cast (atU l id))) (I.len (α := Go.Ab.Upl) l); .br (I.hid (α := Bool) (Decidable.decide (LT.lt (atU l id) (List.length l)))) (.need (I.hid (α := (Prop)) (And (LE.le (List.length l) 1000000) (LT.lt (atU l id) (List.length l)))) (.br (I.bnot (I.ieq 0 0)) (.fin (.ret (.tup [(.agg [(.p (.int .i64 0)), (.p (.int .i64 0)), (.p (.str ([] : List UInt8))), (.p (.list .byte ([] : List UInt8))), (.p (.int .i64 0))]), (.one (.p (.bool Bool.false)))])) [(.obj 79 [(.row 1), (.p (.int .i64 n))]), (.row .upl 70 l)]) (.need y1 (.need y1 (.need (I.hid (α := (Prop)) (LE.le (List.length (Go.Ab.Upl.bytes y0)) 100000000)) (.fin (.ret (.tup [(.agg [(.p (.int .i64 (Go.Ab.Upl.id y0))), (.p (.int .i64 (Go.Ab.Upl.size y0))), (.p (.str (Go.Ab.Upl.note y0))), (.p (.list .byte (Go.Ab.Upl.bytes y0))), (.p (.int .i64 (Go.Ab.Upl.sent y0)))]), (.one (.p (.bool Bool.true)))])) [(.obj 79 [(.row 1), (.p (.int .i64 n))]), (.row .upl 70 l)])))))) (.need (I.hid (α := (Prop)) (And (LE.le (List.length l) 1000000) (Not (LT.lt (atU l id) (List.length l))))) (.br (I.bnot (I.ieq 10 0)) (.fin (.ret (.tup [(.agg [(.p (.int .i64 0)), (.p (.int .i64 0)), (.p (.str ([] : List UInt8))), (.p (.list .byte ([] : List UInt8))), (.p (.int .i64 0))]), (.one (.p (.bool Bool.false)))])) [(.obj 79 [(.row 1), (.p (.int .i64 n))]), (.row .upl 70 l)]) (.stop 0)))) (by kernel_rfl) ?_
  simp only [instL]
  subst hI
  simp only [nrmA, decide_eq_true_eq, decide_eq_false_iff_not, beq_iff_eq, beq_eq_false_iff_ne, Bool.not_eq_true', Bool.not_eq_false', Bool.and_eq_true, Bool.and_true, Bool.true_and, and_true, true_and, ne_eq, Int.toNat_zero, Nat.sub_zero, List.drop_zero, i64_min, i64_max, u8_min, u8_max, ofNat_b2i, b2i_inj, Int.toNat_natCast, Int.ofNat_eq_natCast, UInt8.ofNat_toNat, AOut.ret.injEq, D.v.injEq, D.tup.injEq, V0.one.injEq, C.p.injEq, P.bool.injEq, P.int.injEq, P.str.injEq, Bool.false_eq_true, Bool.true_eq_false, imp_false, Decidable.not_not, not_true_eq_false, not_false_eq_true, List.cons.injEq, P.list.injEq, HO.row.injEq, heq_eq_eq, reduceCtorEq, false_and, and_false]
  unfold getU at he
  unfold getB at hl
  unfold uplAt upl0 at he
  have hx : atU l id < l.length → _ := fun h => (hs.each _ (uplAt_mem h)).bl
  unfold uplAt upl0 at hx
  generalize l.getD (atU l id) ⟨0, 0, [], [], 0⟩ = x at *
  by_cases h : atU l id < l.length
  · rw [if_pos h] at he
    rw [decide_eq_true h] at hl
    subst he; subst hl
    have hx := hx h
    (repeat' (first | refine And.intro ?_ ?_ | intro _)) <;> first | omega | exact True.intro | exact False.elim ‹False› | skip
    all_goals first | exact hf.1 | rfl
  · rw [if_neg h] at he
    rw [decide_eq_false h] at hl
    cases he; subst hl
    (repeat' (first | refine And.intro ?_ ?_ | intro _)) <;> first | omega | exact True.intro | exact False.elim ‹False› | skip
    all_goals first | exact hf.1 | rfl | assumption
def sGetB__c (I : Alg) (args : List D) (hp : List HO) : Option CT := match args, hp with
  | [.v (.one (.ptr 0 0)), .v (.one (.p (.int .i64 id)))], [.obj 79 [(.row 1), (.p (.int .i64 n))], .row .upl 70 l] => (fun (l : List Upl) (n id : Int) => (some (.one ⟨I.hid (SplOk l n), (.ret (.tup [(.agg [(.p (.int .i64 (I.hid ((getU l id).id)))), (.p (.int .i64 (I.hid ((getU l id).size)))), (.p (.str (I.hid ((getU l id).note)))), (.p (.list .byte (I.hid ((getU l id).bytes)))), (.p (.int .i64 (I.hid ((getU l id).sent))))]), (.one (.p (.bool (I.hid ((getB l id))))))])), [.obj 79 [(.row 1), (.p (.int .i64 n))], .row .upl 70 l]⟩) : Option CT)) l n id
  | _, _ => none
theorem sGetB__g : GoodC Tryz.prog 32 (sGetB__c alg) := by
  intro args hp r h
  unfold sGetB__c at h
  split at h
  · cases h; exact fun hn => sGetB_ _ _ _ hn
  · cases h
def sGetB__k : Know Tryz.prog := ⟨32, sGetB__c, sGetB__g⟩
def sGetB__l : Know Tryz.prog := ⟨32, fun I => lendC I (sGetB__c I), lendC_good sGetB__g⟩
theorem sGet_ (l : List Upl) (n id : Int) (hneed : SplOk l n) : Spc Tryz.prog 32 [.v (.one (.ptr 0 0)), .v (.one (.p (.int .i64 id)))] [.pack [.obj 79 [(.row 1), (.p (.int .i64 n))], .row .upl 70 l]] (.ret (.tup [(.agg [(.p (.int .i64 ((getU l id).id))), (.p (.int .i64 ((getU l id).size))), (.p (.str ((getU l id).note))), (.p (.list .byte ((getU l id).bytes))), (.p (.int .i64 ((getU l id).sent)))]), (.one (.p (.bool ((getB l id)))))])) [.pack [.obj 79 [(.row 1), (.p (.int .i64 n))], .row .upl 70 l]] :=
  Spc.packed (ex := []) (sGetB_ l n id hneed) rfl (by simp) rfl
def sGet__c (I : Alg) (args : List D) (hp : List HO) : Option CT := match args, hp with
  | [.v (.one (.ptr 0 0)), .v (.one (.p (.int .i64 id)))], [.pack [.obj 79 [(.row 1), (.p (.int .i64 n))], .row .upl 70 l]] => (fun (l : List Upl) (n id : Int) => (some (.one ⟨I.hid (SplOk l n), (.ret (.tup [(.agg [(.p (.int .i64 (I.hid ((getU l id).id)))), (.p (.int .i64 (I.hid ((getU l id).size)))), (.p (.str (I.hid ((getU l id).note)))), (.p (.list .byte (I.hid ((getU l id).bytes)))), (.p (.int .i64 (I.hid ((getU l id).sent))))]), (.one (.p (.bool (I.hid ((getB l id))))))])), [.pack [.obj 79 [(.row 1), (.p (.int .i64 n))], .row .upl 70 l]]⟩) : Option CT)) l n id
  | _, _ => none
theorem sGet__g : GoodC Tryz.prog 32 (sGet__c alg) := by
  intro args hp r h
  unfold sGet__c at h
  split at h
  · cases h; exact fun hn => sGet_ _ _ _ hn
  · cases h
def sGet__k : Know Tryz.prog := ⟨32, sGet__c, sGet__g⟩
def sGet__l : Know Tryz.prog := ⟨32, fun I => lendC I (sGet__c I), lendC_good sGet__g⟩

theorem getU_at {l : List Upl} (h : l.Pairwise fun a b => a.id < b.id) {i : Nat} (hi : i < l.length) : getU l (l.getD i ⟨0, 0, [], [], 0⟩).id = l.getD i ⟨0, 0, [], [], 0⟩ := by
  have e : l.getD i ⟨0, 0, [], [], 0⟩ = l[i] := by simp [hi]
  have ha := at_of h hi
  rw [e, getU, ha, if_pos hi, uplAt, ha]
  simp [hi]

theorem sListB_ (l : List Upl) (n : Int) (hneed : SplOk l n) : Spc Tryz.prog 15 [.v (.one (.ptr 0 0))] [.obj 79 [(.row 1), (.p (.int .i64 n))], .row .upl 70 l] (.ret (.v (.one (.row 2)))) [.obj 79 [(.row 1), (.p (.int .i64 n))], .row .upl 70 l, .row .upl 70 l] := by
  have hs := hneed
  have hf := spl_few hs
  refine spcG tab_ok mixed Tryz.func15 (by kernel_rfl) { cfgSp with flat := true, bare := [32], nr := [3], keep := some [0, 2, 3, 5, 6, 11, 12, 13] } [sGetB__k, sGetB__l, sGet__k, sGet__l] (by kernel_rfl) ?_
  intro I X hI hX
  refine ev_rule (.code 0 [1, 1, 0, 1, 0] ⟨[(13, (.v (.one (.p (.int .i64 0))))), (12, (.v (.one (.p (.int .i64 (I.len (α := Go.Ab.Upl) l)))))), (11, (.v (.one (.row 1)))), (3, (.v (.one (.row 2)))), (2, (.v (.one .nilS))), (0, (.v (.one (.ptr 0 0))))], [(.obj 79 [(.row 1), (.p (.int .i64 n))]), (.row .upl 70 l), (.row .upl 70 ([] : List Go.Ab.Upl))], 30, none⟩) (by kernel_rfl) ?_
  simp only [instL]
  refine loop_inv hI tab_ok mixed [sGetB__k, sGetB__l, sGet__k, sGet__l] hX [0, 3, 11, 12, 13] (fun (g : Nat × List Upl) => match g with | (i, o) => i ≤ l.length ∧ o = l.take i) (fun (g : Nat × List Upl) => match g with | (i, o) => ⟨[(0, .v (.one (.ptr 0 0))), (3, .v (.one (.row 2))), (11, .v (.one (.row 1))), (12, .v (.one (.p (.int .i64 ((I.len (α := Upl) l)))))), (13, .v (.one (.p (.int .i64 i))))], [.obj 79 [(.row 1), (.p (.int .i64 n))], .row .upl 70 l, .row .upl 70 o], 30, none⟩) (fun (g : Nat × List Upl) => match g with | (i, o) => l.length - i) (0, []) (by kernel_rfl) (by kernel_rfl) ?_ ?_
  · exact ⟨Nat.zero_le _, rfl⟩
  rintro ⟨i, o⟩ ⟨h1, h2⟩ A hA
  simp only at hA
  refine ev_rule (let y0 := I.get (α := Go.Ab.Upl) l (Go.Ab.Upl.mk (0 : Int) (0 : Int) ([] : List UInt8) ([] : List UInt8) (0 : Int)) (Nat.cast i); let y1 := I.hid (α := (List UInt8)) (Go.Ab.Upl.bytes (getU l (Go.Ab.Upl.id y0))); let y2 := I.hid (α := (List UInt8)) (Go.Ab.Upl.note (getU l (Go.Ab.Upl.id y0))); let y3 := I.hid (α := Int) (Go.Ab.Upl.size (getU l (Go.Ab.Upl.id y0))); let y4 := I.hid (α := Int) (Go.Ab.Upl.sent (getU l (Go.Ab.Upl.id y0))); let y5 := I.hid (α := Int) (Go.Ab.Upl.id (getU l (Go.Ab.Upl.id y0))); let y6 := I.inb (Nat.cast i) (I.len (α := Go.Ab.Upl) l); .br (I.ilt (Nat.cast i) (I.len (α := Go.Ab.Upl) l)) (.need y6 (.need y6 (.need (I.hid (α := (Prop)) (SplOk l n)) (.need (I.few (I.add (I.len (α := Go.Ab.Upl) o) (I.len (α := Go.Ab.Upl) ([(Go.Ab.Upl.mk y5 y3 y2 y1 y4)] : List Go.Ab.Upl))) 100000000) (.need (I.inr Go.IntKind.i64 (I.add (Nat.cast i) 1)) (.need (A ⟨[(0, (.v (.one (.ptr 0 0)))), (3, (.v (.one (.row 2)))), (11, (.v (.one (.row 1)))), (12, (.v (.one (.p (.int .i64 (I.len (α := Go.Ab.Upl) l)))))), (13, (.v (.one (.p (.int .i64 (I.add (Nat.cast i) 1))))))], [(.obj 79 [(.row 1), (.p (.int .i64 n))]), (.row .upl 70 l), (.row .upl 70 (I.app (α := Go.Ab.Upl) o ([(Go.Ab.Upl.mk y5 y3 y2 y1 y4)] : List Go.Ab.Upl)))], 30, none⟩) .qed)))))) (.fin (.ret (.v (.one (.row 2)))) [(.obj 79 [(.row 1), (.p (.int .i64 n))]), (.row .upl 70 l), (.row .upl 70 o)])) (by kernel_rfl) ?_
  simp only [instL]
  subst hI
  simp only [nrmA, decide_eq_true_eq, decide_eq_false_iff_not, beq_iff_eq, beq_eq_false_iff_ne, Bool.not_eq_true', Bool.not_eq_false', Bool.and_eq_true, Bool.and_true, Bool.true_and, and_true, true_and, ne_eq, Int.toNat_zero, Nat.sub_zero, List.drop_zero, i64_min, i64_max, u8_min, u8_max, ofNat_b2i, b2i_inj, Int.toNat_natCast, Int.ofNat_eq_natCast, UInt8.ofNat_toNat, AOut.ret.injEq, D.v.injEq, D.tup.injEq, V0.one.injEq, C.p.injEq, P.bool.injEq, P.int.injEq, P.str.injEq, Bool.false_eq_true, Bool.true_eq_false, imp_false, Decidable.not_not, not_true_eq_false, not_false_eq_true, List.cons.injEq, P.list.injEq, HO.row.injEq, heq_eq_eq, reduceCtorEq, false_and, and_false]
  have hx : i < l.length → _ := getU_at hs.srt
  have hy : i < l.length → l.take (i + 1) = l.take i ++ [l.getD i ⟨0, 0, [], [], 0⟩] := fun h => by rw [List.take_succ_eq_append_getElem h]; simp [h]
  have hw : ¬ i < l.length → o = l := fun h => by rw [h2, List.take_of_length_le (by omega)]
  have hol : o.length ≤ i := by rw [h2, List.length_take]; omega
  refine ⟨fun c => ?_, fun c => hw (by omega)⟩
  rw [hx (by omega)]
  have hy := hy (by omega)
  generalize l.getD i ⟨0, 0, [], [], 0⟩ = x at *
  simp only [List.length_cons, List.length_nil]
  (repeat' (first | refine And.intro ?_ ?_ | intro _)) <;> first | omega | exact True.intro | exact False.elim ‹False› | skip
  all_goals first
    | exact hs
    | exact hA (i + 1, _) ⟨by simp only; omega, by simp only; rw [hy, h2]⟩ (by simp only; omega)
def sListB__c (I : Alg) (args : List D) (hp : List HO) : Option CT := match args, hp with
  | [.v (.one (.ptr 0 0))], [.obj 79 [(.row 1), (.p (.int .i64 n))], .row .upl 70 l] => (fun (l : List Upl) (n : Int) => (some (.one ⟨I.hid (SplOk l n), (.ret (.v (.one (.row 2)))), [.obj 79 [(.row 1), (.p (.int .i64 n))], .row .upl 70 l, .row .upl 70 l]⟩) : Option CT)) l n
  | _, _ => none
theorem sListB__g : GoodC Tryz.prog 15 (sListB__c alg) := by
  intro args hp r h
  unfold sListB__c at h
  split at h
  · cases h; exact fun hn => sListB_ _ _ hn
  · cases h
def sListB__k : Know Tryz.prog := ⟨15, sListB__c, sListB__g⟩
def sListB__l : Know Tryz.prog := ⟨15, fun I => lendC I (sListB__c I), lendC_good sListB__g⟩
theorem sList_ (l : List Upl) (n : Int) (hneed : SplOk l n) : Spc Tryz.prog 15 [.v (.one (.ptr 0 0))] [.pack [.obj 79 [(.row 1), (.p (.int .i64 n))], .row .upl 70 l]] (.ret (.v (.one (.row 1)))) [.pack [.obj 79 [(.row 1), (.p (.int .i64 n))], .row .upl 70 l], .row .upl 70 l] :=
  Spc.packed (os' := [_, _]) (ex := [_]) (sListB_ l n hneed) rfl (by simp) rfl
def sList__c (I : Alg) (args : List D) (hp : List HO) : Option CT := match args, hp with
  | [.v (.one (.ptr 0 0))], [.pack [.obj 79 [(.row 1), (.p (.int .i64 n))], .row .upl 70 l]] => (fun (l : List Upl) (n : Int) => (some (.one ⟨I.hid (SplOk l n), (.ret (.v (.one (.row 1)))), [.pack [.obj 79 [(.row 1), (.p (.int .i64 n))], .row .upl 70 l], .row .upl 70 l]⟩) : Option CT)) l n
  | _, _ => none
theorem sList__g : GoodC Tryz.prog 15 (sList__c alg) := by
  intro args hp r h
  unfold sList__c at h
  split at h
  · cases h; exact fun hn => sList_ _ _ hn
  · cases h
def sList__k : Know Tryz.prog := ⟨15, sList__c, sList__g⟩
def sList__l : Know Tryz.prog := ⟨15, fun I => lendC I (sList__c I), lendC_good sList__g⟩

theorem sCopy_ (l : List Upl) (n : Int) (hneed : SplOk l n) : Spc Tryz.prog 94 [.v (.one (.ptr 0 0))] [.pack [.obj 79 [(.row 1), (.p (.int .i64 n))], .row .upl 70 l]] (.ret (.v (.one (.ptr 1 0)))) [.pack [.obj 79 [(.row 1), (.p (.int .i64 n))], .row .upl 70 l], .pack [.obj 79 [(.row 1), (.p (.int .i64 n))], .row .upl 70 l]] := by
  refine spcG tab_ok mixed Tryz.func94 (by kernel_rfl) { cfgSp with keep := some [0, 2] } [sListB__k, sListB__l, sList__k, sList__l] (by kernel_rfl) ?_
  intro I X hI hX
  refine ev_rule (.both (.need (I.hid (α := (Prop)) (SplOk l n)) (.fin (.ret (.v (.one (.ptr 1 0)))) [(.pack [(.obj 79 [(.row 1), (.p (.int .i64 n))]), (.row .upl 70 l)]), (.pack [(.obj 79 [(.row 1), (.p (.int .i64 n))]), (.row .upl 70 l)])])) (.need (I.hid (α := (Prop)) (SplOk l n)) (.fin (.ret (.v (.one (.ptr 1 0)))) [(.pack [(.obj 79 [(.row 1), (.p (.int .i64 n))]), (.row .upl 70 l)]), (.pack [(.obj 79 [(.row 1), (.p (.int .i64 n))]), (.row .upl 70 l)])]))) (by kernel_rfl) ?_
  simp only [instL]
  subst hI
  simp only [nrmA, decide_eq_true_eq, decide_eq_false_iff_not, beq_iff_eq, beq_eq_false_iff_ne, Bool.not_eq_true', Bool.not_eq_false', Bool.and_eq_true, Bool.and_true, Bool.true_and, and_true, true_and, ne_eq, Int.toNat_zero, Nat.sub_zero, List.drop_zero, i64_min, i64_max, u8_min, u8_max, ofNat_b2i, b2i_inj, Int.toNat_natCast, Int.ofNat_eq_natCast, UInt8.ofNat_toNat, AOut.ret.injEq, D.v.injEq, D.tup.injEq, V0.one.injEq, C.p.injEq, P.bool.injEq, P.int.injEq, P.str.injEq, Bool.false_eq_true, Bool.true_eq_false, imp_false, Decidable.not_not, not_true_eq_false, not_false_eq_true, List.cons.injEq, P.list.injEq, HO.row.injEq, heq_eq_eq, reduceCtorEq, false_and, and_false, HO.pack.injEq, HO.obj.injEq]
  exact ⟨hneed, hneed⟩
def sCopy__c (I : Alg) (args : List D) (hp : List HO) : Option CT := match args, hp with
  | [.v (.one (.ptr 0 0))], [.pack [.obj 79 [(.row 1), (.p (.int .i64 n))], .row .upl 70 l]] => (fun (l : List Upl) (n : Int) => (some (.one ⟨I.hid (SplOk l n), (.ret (.v (.one (.ptr 1 0)))), [.pack [.obj 79 [(.row 1), (.p (.int .i64 n))], .row .upl 70 l], .pack [.obj 79 [(.row 1), (.p (.int .i64 n))], .row .upl 70 l]]⟩) : Option CT)) l n
  | _, _ => none
theorem sCopy__g : GoodC Tryz.prog 94 (sCopy__c alg) := by
  intro args hp r h
  unfold sCopy__c at h
  split at h
  · cases h; exact fun hn => sCopy_ _ _ hn
  · cases h
def sCopy__k : Know Tryz.prog := ⟨94, sCopy__c, sCopy__g⟩
def sCopy__l : Know Tryz.prog := ⟨94, fun I => lendC I (sCopy__c I), lendC_good sCopy__g⟩

theorem spDr1_ (a b : Int) (m y : Str) (t d : Int) : Spc Tryz.prog 132 [.v (.agg [(.p (.int .i64 a)), (.p (.int .i64 b)), (.p (.str m)), (.p (.list .byte y)), (.p (.int .i64 t))]), .v (.one (.ptr 0 0))] [.pack [.obj 3 [(.p (.int .i64 d))]]] (.ret (.v (.one (.p (.bool ((a == d))))))) [.pack [.obj 3 [(.p (.int .i64 d))]]] := by
  refine spcG tab_ok mixed Tryz.func132 (by kernel_rfl) { keep := some [0, 1, 2, 3] } [] (by kernel_rfl) ?_
  intro I X hI hX
  refine ev_rule (.fin (.ret (.v (.one (.p (.bool (I.ieq a d)))))) [(.pack [(.obj 3 [(.p (.int .i64 d))])])]) (by kernel_rfl) ?_
  simp only [instL]
  subst hI
  simp only [nrmA, decide_eq_true_eq, decide_eq_false_iff_not, beq_iff_eq, beq_eq_false_iff_ne, Bool.not_eq_true', Bool.not_eq_false', Bool.and_eq_true, Bool.and_true, Bool.true_and, and_true, true_and, ne_eq, Int.toNat_zero, Nat.sub_zero, List.drop_zero, i64_min, i64_max, u8_min, u8_max, ofNat_b2i, b2i_inj, Int.toNat_natCast, Int.ofNat_eq_natCast, UInt8.ofNat_toNat, AOut.ret.injEq, D.v.injEq, D.tup.injEq, V0.one.injEq, C.p.injEq, P.bool.injEq, P.int.injEq, P.str.injEq, Bool.false_eq_true, Bool.true_eq_false, imp_false, Decidable.not_not, not_true_eq_false, not_false_eq_true, List.cons.injEq, P.list.injEq, HO.row.injEq, heq_eq_eq, reduceCtorEq, false_and, and_false, HO.pack.injEq, HO.obj.injEq]
def spDr1__c (I : Alg) (args : List D) (hp : List HO) : Option CT := match args, hp with
  | [.v (.agg [(.p (.int .i64 a)), (.p (.int .i64 b)), (.p (.str m)), (.p (.list .byte y)), (.p (.int .i64 t))]), .v (.one (.ptr 0 0))], [.pack [.obj 3 [(.p (.int .i64 d))]]] => (fun (a b : Int) (m y : Str) (t d : Int) => (some (.one ⟨I.hid (True), (.ret (.v (.one (.p (.bool (I.hid ((a == d)))))))), [.pack [.obj 3 [(.p (.int .i64 d))]]]⟩) : Option CT)) a b m y t d
  | _, _ => none
theorem spDr1__g : GoodC Tryz.prog 132 (spDr1__c alg) := by
  intro args hp r h
  unfold spDr1__c at h
  split at h
  · cases h; exact fun hn => spDr1_ _ _ _ _ _ _
  · cases h
def spDr1__k : Know Tryz.prog := ⟨132, spDr1__c, spDr1__g⟩
def spDr1__l : Know Tryz.prog := ⟨132, fun I => lendC I (spDr1__c I), lendC_good spDr1__g⟩
theorem spIxD_ (l : List Upl) (d : Int) (hneed : l.length ≤ 1000000) : Spc Tryz.prog 104 [.v (.one (.p (.list .upl l))), .v (.one (.fn 132 [.ptr 0 0]))] [.pack [.obj 3 [(.p (.int .i64 d))]]] (.ret (.v (.one (.p (.int .i64 ((ixU l d))))))) [.pack [.obj 3 [(.p (.int .i64 d))]]] := by
  refine spcG tab_ok mixed Tryz.func104 (by kernel_rfl) { keep := some [0, 1, 4, 5, 7, 8] } [spDr1__k, spIx__k, spIx__l] (by kernel_rfl) ?_
  intro I X hI hX
  refine ev_rule (.code 0 [1, 0, 1, 0] ⟨[(8, (.v (.one (.p (.int .i64 0))))), (7, (.v (.one (.p (.int .i64 (I.len (α := Go.Ab.Upl) l)))))), (4, (.v (.one (.p (.int .i64 0))))), (0, (.v (.one (.p (.list .upl l))))), (1, (.v (.one (.fn 132 [(.ptr 0 0)]))))], [(.pack [(.obj 3 [(.p (.int .i64 d))])])], 19, none⟩) (by kernel_rfl) ?_
  simp only [instL]
  refine loop_inv hI tab_ok mixed [spDr1__k, spIx__k, spIx__l] hX [0, 1, 7, 8] (fun (i : Nat) => i ≤ l.length ∧ i ≤ atU l d) (fun (i : Nat) => ⟨[(0, .v (.one (.p (.list .upl l)))), (1, .v (.one (.fn 132 [.ptr 0 0]))), (7, .v (.one (.p (.int .i64 ((I.len (α := Upl) l)))))), (8, .v (.one (.p (.int .i64 i))))], [.pack [.obj 3 [(.p (.int .i64 d))]]], 19, none⟩) (fun (i : Nat) => l.length - i) 0 (by kernel_rfl) (by kernel_rfl) ?_ ?_
  · exact ⟨Nat.zero_le _, Nat.zero_le _⟩
  rintro i ⟨h1, h2⟩ A hA
  refine ev_rule (let y0 := I.inb (Nat.cast i) (I.len (α := Go.Ab.Upl) l); .br (I.ilt (Nat.cast i) (I.len (α := Go.Ab.Upl) l)) (.need y0 (.need y0 (.need (I.hid (α := (Prop)) True) (.br (I.hid (α := Bool) (BEq.beq (Go.Ab.Upl.id (I.get (α := Go.Ab.Upl) l (Go.Ab.Upl.mk (0 : Int) (0 : Int) ([] : List UInt8) ([] : List UInt8) (0 : Int)) (Nat.cast i))) d)) (.fin (.ret (.v (.one (.p (.int .i64 (Nat.cast i)))))) [(.pack [(.obj 3 [(.p (.int .i64 d))])])]) (.need (I.inr Go.IntKind.i64 (I.add (Nat.cast i) 1)) (.need (A ⟨[(0, (.v (.one (.p (.list .upl l))))), (1, (.v (.one (.fn 132 [(.ptr 0 0)])))), (7, (.v (.one (.p (.int .i64 (I.len (α := Go.Ab.Upl) l)))))), (8, (.v (.one (.p (.int .i64 (I.add (Nat.cast i) 1))))))], [(.pack [(.obj 3 [(.p (.int .i64 d))])])], 19, none⟩) .qed)))))) (.fin (.ret (.v (.one (.p (.int .i64 (Neg.neg (1 : Int))))))) [(.pack [(.obj 3 [(.p (.int .i64 d))])])])) (by kernel_rfl) ?_
  simp only [instL]
  subst hI
  simp only [nrmA, decide_eq_true_eq, decide_eq_false_iff_not, beq_iff_eq, beq_eq_false_iff_ne, Bool.not_eq_true', Bool.not_eq_false', Bool.and_eq_true, Bool.and_true, Bool.true_and, and_true, true_and, ne_eq, Int.toNat_zero, Nat.sub_zero, List.drop_zero, i64_min, i64_max, u8_min, u8_max, ofNat_b2i, b2i_inj, Int.toNat_natCast, Int.ofNat_eq_natCast, UInt8.ofNat_toNat, AOut.ret.injEq, D.v.injEq, D.tup.injEq, V0.one.injEq, C.p.injEq, P.bool.injEq, P.int.injEq, P.str.injEq, Bool.false_eq_true, Bool.true_eq_false, imp_false, Decidable.not_not, not_true_eq_false, not_false_eq_true]
  have hx := fun h => atU_drop (l := l) (id := d) (i := i) h h2
  have hle := atU_le l d
  have e0 : (⟨0, 0, [], [], 0⟩ : Upl) = upl0 := rfl
  simp only [e0]
  unfold ixU
  (repeat' (first | refine And.intro ?_ ?_ | intro _)) <;> first | omega | exact True.intro | exact False.elim ‹False› | skip
  all_goals first
    | (have h3 := hx (by omega); rw [if_pos (by assumption)] at h3; rw [if_pos (by omega), h3])
    | (have h3 := hx (by omega); rw [if_neg (by assumption)] at h3; exact hA (i + 1) ⟨by omega, h3⟩ (by omega))
    | (rw [if_neg (by omega)])
def spIxD__c (I : Alg) (args : List D) (hp : List HO) : Option CT := match args, hp with
  | [.v (.one (.p (.list .upl l))), .v (.one (.fn 132 [.ptr 0 0]))], [.pack [.obj 3 [(.p (.int .i64 d))]]] => (fun (l : List Upl) (d : Int) => (some (.one ⟨I.hid (l.length ≤ 1000000), (.ret (.v (.one (.p (.int .i64 (I.hid ((ixU l d)))))))), [.pack [.obj 3 [(.p (.int .i64 d))]]]⟩) : Option CT)) l d
  | _, _ => none
theorem spIxD__g : GoodC Tryz.prog 104 (spIxD__c alg) := by
  intro args hp r h
  unfold spIxD__c at h
  split at h
  · cases h; exact fun hn => spIxD_ _ _ hn
  · cases h
def spIxD__k : Know Tryz.prog := ⟨104, spIxD__c, spIxD__g⟩
def spIxD__l : Know Tryz.prog := ⟨104, fun I => lendC I (spIxD__c I), lendC_good spIxD__g⟩

def notU (d : Int) (u : Upl) : Bool := !(u.id == d)
theorem spDel_ (l : List Upl) (d : Int) (hneed : l.length ≤ 1000000) : Spc Tryz.prog 131 [.v (.one (.row 0)), .v (.one (.fn 132 [.ptr 1 0]))] [.row .upl 70 l, .pack [.obj 3 [(.p (.int .i64 d))]]] (.ret (.v (.one (.row 2)))) [.gone, .pack [.obj 3 [(.p (.int .i64 d))]], .row .upl 70 ((l.filter (notU d)))] := by
  refine spcG tab_ok mixed Tryz.func131 (by kernel_rfl) { mv := [0], cut := [4], keep := some [0, 1, 4, 5, 6, 7] } [spDr1__k, spIx__k, spIx__l, spIxD__k, spIxD__l] (by kernel_rfl) ?_
  intro I X hI hX
  refine ev_rule (let y0 := I.add (I.hid (α := Int) (ixU l d)) 1; .need (I.hid (α := (Prop)) (LE.le (List.length l) 1000000)) (.br (I.ieq (I.hid (α := Int) (ixU l d)) (Neg.neg (1 : Int))) (.fin (.ret (.v (.one (.row 2)))) [.gone, (.pack [(.obj 3 [(.p (.int .i64 d))])]), (.row .upl 70 l)]) (.need (I.inr Go.IntKind.i64 y0) (.code 0 [1, 1, 1, 0, 1, 0] ⟨[(6, (.v (.one (.p (.int .i64 y0))))), (5, (.v (.one (.p (.int .i64 (I.hid (α := Int) (ixU l d))))))), (4, (.v (.one .nilS))), (0, (.v (.one (.row 0)))), (1, (.v (.one (.fn 132 [(.ptr 1 0)]))))], [(.row .upl 70 l), (.pack [(.obj 3 [(.p (.int .i64 d))])])], 42, none⟩)))) (by kernel_rfl) ?_
  simp only [instL]
  have hfd : ∀ i, i ≤ atU l d → (l.take i).filter (notU d) = l.take i := fun i hi => List.filter_eq_self.2 fun u hu => by
    obtain ⟨j, hj⟩ := List.getElem?_of_mem hu
    rw [List.getElem?_take] at hj
    split at hj
    · rename_i hji
      obtain ⟨hjl, he⟩ := List.getElem?_eq_some_iff.1 hj
      have := List.not_of_lt_findIdx (p := fun u : Upl => u.id == d) (xs := l) (i := j) (by unfold atU at hi; omega)
      rw [← he]
      simpa [notU] using this
    · cases hj
  by_cases hk : atU l d < l.length
  · have hix := ixU_pos hk
    have e1 : I.hid (ixU l d) = ((atU l d : Nat) : Int) := by subst hI; exact hix
    have e2 : I.add ((atU l d : Nat) : Int) 1 = ((atU l d + 1 : Nat) : Int) := by subst hI; rfl
    rw [e1, e2]
    have hst : (l.take (atU l d + 1)).filter (notU d) = l.take (atU l d) := by
      rw [List.take_succ_eq_append_getElem hk, List.filter_append, hfd _ (Nat.le_refl _)]
      have := uplAt_id hk
      rw [uplAt_eq hk] at this
      simp [notU, this]
    have hu0 := uplAt_id hk
    generalize atU l d = k at *
    refine ⟨by subst hI; exact hneed, fun h => ?_, fun _ => ⟨by subst hI; rw [alg_inr, i64_min, i64_max]; omega, ?_⟩⟩
    · subst hI
      simp only [nrmA, decide_eq_true_eq, decide_eq_false_iff_not, beq_iff_eq, beq_eq_false_iff_ne, Bool.not_eq_true', Bool.not_eq_false', Bool.and_eq_true, Bool.and_true, Bool.true_and, and_true, true_and, ne_eq, Int.toNat_zero, Nat.sub_zero, List.drop_zero, i64_min, i64_max, u8_min, u8_max, ofNat_b2i, b2i_inj, Int.toNat_natCast, Int.ofNat_eq_natCast, UInt8.ofNat_toNat, AOut.ret.injEq, D.v.injEq, D.tup.injEq, V0.one.injEq, C.p.injEq, P.bool.injEq, P.int.injEq, P.str.injEq, Bool.false_eq_true, Bool.true_eq_false, imp_false, Decidable.not_not, not_true_eq_false, not_false_eq_true] at h
      omega
    refine loop_inv hI tab_ok mixed [spDr1__k, spIx__k, spIx__l, spIxD__k, spIxD__l] hX [0, 1, 5, 6] (fun (g : Nat × Nat × List Upl) => match g with | (i, j, c) => i < j ∧ j ≤ l.length ∧ c.length = l.length ∧ c.take i = (l.take j).filter (notU d) ∧ c.drop j = l.drop j) (fun (g : Nat × Nat × List Upl) => match g with | (i, j, c) => ⟨[(0, .v (.one (.row 2))), (1, .v (.one (.fn 132 [.ptr 1 0]))), (5, .v (.one (.p (.int .i64 i)))), (6, .v (.one (.p (.int .i64 j))))], [.gone, .pack [.obj 3 [(.p (.int .i64 d))]], .row .upl 70 c], 42, none⟩) (fun (g : Nat × Nat × List Upl) => match g with | (i, j, c) => l.length - j) (k, k + 1, l) (by kernel_rfl) (by kernel_rfl) ?_ ?_
    · exact ⟨by omega, by omega, rfl, hst.symm, rfl⟩
    rintro ⟨i, j, c⟩ ⟨h1, h2, h3, h4, h5⟩ A hA
    simp only at hA h1 h2 h3 h4 h5
    refine ev_rule (let y0 := I.get (α := Go.Ab.Upl) c (Go.Ab.Upl.mk (0 : Int) (0 : Int) ([] : List UInt8) ([] : List UInt8) (0 : Int)) (Nat.cast j); let y1 := I.rep (α := Go.Ab.Upl) (I.sub (I.len (α := Go.Ab.Upl) c) (Int.ofNat i)) (Go.Ab.Upl.mk (0 : Int) (0 : Int) ([] : List UInt8) ([] : List UInt8) (0 : Int)); let y2 := I.cut (α := Go.Ab.Upl) c (I.len (α := Go.Ab.Upl) c) (I.len (α := Go.Ab.Upl) c); let y3 := I.cutb (Int.ofNat i) (I.len (α := Go.Ab.Upl) c) (I.len (α := Go.Ab.Upl) c); let y4 := I.inb (Nat.cast j) (I.len (α := Go.Ab.Upl) c); let y5 := I.inb (Nat.cast i) (I.len (α := Go.Ab.Upl) c); let y6 := I.inr Go.IntKind.i64 (I.add (Nat.cast j) 1); let y7 := I.cut (α := Go.Ab.Upl) c 0 (Int.ofNat i); .br (I.ilt (Nat.cast j) (I.len (α := Go.Ab.Upl) c)) (.need y4 (.need y4 (.need (I.hid (α := (Prop)) True) (.br (I.bnot (I.hid (α := Bool) (BEq.beq (Go.Ab.Upl.id y0) d))) (.need y5 (.need y5 (.need (I.inr Go.IntKind.i64 (I.add (Nat.cast i) 1)) (.need y6 (.need (A ⟨[(0, (.v (.one (.row 2)))), (1, (.v (.one (.fn 132 [(.ptr 1 0)])))), (5, (.v (.one (.p (.int .i64 (I.add (Nat.cast i) 1)))))), (6, (.v (.one (.p (.int .i64 (I.add (Nat.cast j) 1))))))], [.gone, (.pack [(.obj 3 [(.p (.int .i64 d))])]), (.row .upl 70 (I.set (α := Go.Ab.Upl) c (Nat.cast i) (Go.Ab.Upl.mk (Go.Ab.Upl.id y0) (Go.Ab.Upl.size y0) (Go.Ab.Upl.note y0) (Go.Ab.Upl.bytes y0) (Go.Ab.Upl.sent y0))))], 42, none⟩) .qed))))) (.need y6 (.need (A ⟨[(0, (.v (.one (.row 2)))), (1, (.v (.one (.fn 132 [(.ptr 1 0)])))), (5, (.v (.one (.p (.int .i64 (Nat.cast i)))))), (6, (.v (.one (.p (.int .i64 (I.add (Nat.cast j) 1))))))], [.gone, (.pack [(.obj 3 [(.p (.int .i64 d))])]), (.row .upl 70 c)], 42, none⟩) .qed)))))) (.need y3 (.need y3 (.need (I.cutb 0 (Int.ofNat i) (I.len (α := Go.Ab.Upl) (I.app (α := Go.Ab.Upl) y7 (I.app (α := Go.Ab.Upl) y1 y2)))) (.need (I.same (α := Int) 0 0) (.fin (.ret (.v (.one (.row 2)))) [.gone, (.pack [(.obj 3 [(.p (.int .i64 d))])]), (.row .upl 70 (I.cut (α := Go.Ab.Upl) (I.app (α := Go.Ab.Upl) y7 (I.app (α := Go.Ab.Upl) y1 y2)) 0 (Int.ofNat i)))])))))) (by kernel_rfl) ?_
    simp only [instL]
    subst hI
    simp only [nrmA, decide_eq_true_eq, decide_eq_false_iff_not, beq_iff_eq, beq_eq_false_iff_ne, Bool.not_eq_true', Bool.not_eq_false', Bool.and_eq_true, Bool.and_true, Bool.true_and, and_true, true_and, ne_eq, Int.toNat_zero, Nat.sub_zero, List.drop_zero, i64_min, i64_max, u8_min, u8_max, ofNat_b2i, b2i_inj, Int.toNat_natCast, Int.ofNat_eq_natCast, UInt8.ofNat_toNat, AOut.ret.injEq, D.v.injEq, D.tup.injEq, V0.one.injEq, C.p.injEq, P.bool.injEq, P.int.injEq, P.str.injEq, Bool.false_eq_true, Bool.true_eq_false, imp_false, Decidable.not_not, not_true_eq_false, not_false_eq_true, List.cons.injEq, P.list.injEq, HO.row.injEq, heq_eq_eq, reduceCtorEq, false_and, and_false]
    have hx : j < l.length → c.getD j ⟨0, 0, [], [], 0⟩ = l.getD j ⟨0, 0, [], [], 0⟩ := fun h => by
      have e := congrArg (fun m : List Upl => m[0]?) h5
      simp only [List.getElem?_drop, Nat.add_zero] at e
      simp only [List.getD_eq_getElem?_getD, e]
    have hf : j < l.length → (l.take (j + 1)).filter (notU d) = (l.take j).filter (notU d) ++ (if notU d (l.getD j ⟨0, 0, [], [], 0⟩) then [l.getD j ⟨0, 0, [], [], 0⟩] else []) := fun h => by
      rw [List.take_succ_eq_append_getElem h, List.filter_append]
      simp [h, List.filter_cons]
    have hdr : ∀ c' : List Upl, c'.drop j = l.drop j → c'.drop (j + 1) = l.drop (j + 1) := fun c' h => by
      have := congrArg (List.drop 1) h
      simpa [List.drop_drop] using this
    have hend : ¬ j < l.length → c.take i = l.filter (notU d) := fun h => by rw [h4, List.take_of_length_le (by omega)]
    rw [show (c.length : Int) = (l.length : Int) by rw [h3]]
    have hset : ∀ u : Upl, i < c.length → (c.set i u).take (i + 1) = c.take i ++ [u] := fun u h => by
      rw [List.take_succ_eq_append_getElem (by rw [List.length_set]; exact h), List.getElem_set_self, List.take_set_of_le (Nat.le_refl _)]
    have hsd : ∀ u : Upl, (c.set i u).drop j = l.drop j := fun u => by rw [List.drop_set_of_lt h1, h5]
    refine ⟨fun c1 => ?_, fun c1 => ?_⟩
    · have hj : j < l.length := by omega
      rw [hx hj]
      have hf := hf hj
      generalize l.getD j ⟨0, 0, [], [], 0⟩ = x at *
      (repeat' (first | refine And.intro ?_ ?_ | intro _)) <;> first | omega | exact True.intro | exact False.elim ‹False› | skip
      · rename_i hne
        refine hA (i + 1, j + 1, c.set i x) ⟨by simp only; omega, by simp only; omega, by simp only [List.length_set]; exact h3, ?_, hdr _ (hsd x)⟩ (by simp only; omega)
        simp only
        rw [hset x (by omega), hf, if_pos (by simp [notU, hne]), h4]
      · rename_i heq
        refine hA (i, j + 1, c) ⟨by simp only; omega, by simp only; omega, h3, ?_, hdr _ h5⟩ (by simp only; omega)
        simp only
        rw [hf, if_neg (by simp [notU, heq]), List.append_nil, h4]
    · have he := hend (by omega)
      have hl : (c.take i).length = i := by rw [List.length_take]; omega
      (repeat' (first | refine And.intro ?_ ?_ | intro _)) <;> first | omega | exact True.intro | exact False.elim ‹False› | skip
      all_goals first
        | (simp only [List.length_append, List.length_take, List.length_replicate]; omega)
        | (rw [List.take_append_of_le_length (by omega), List.take_take, Nat.min_self, he])
  · have hix := ixU_neg hk
    have e1 : I.hid (ixU l d) = (-1 : Int) := by subst hI; exact hix
    rw [e1]
    have hall : l.filter (notU d) = l := by
      have := hfd l.length (by have := atU_le l d; omega)
      rwa [List.take_length] at this
    rw [hall]
    refine ⟨by subst hI; exact hneed, fun _ => ⟨trivial, rfl⟩, fun h => ?_⟩
    subst hI
    simp [alg] at h
def spDel__c (I : Alg) (args : List D) (hp : List HO) : Option CT := match args, hp with
  | [.v (.one (.row 0)), .v (.one (.fn 132 [.ptr 1 0]))], [.row .upl 70 l, .pack [.obj 3 [(.p (.int .i64 d))]]] => (fun (l : List Upl) (d : Int) => (some (.one ⟨I.hid (l.length ≤ 1000000), (.ret (.v (.one (.row 2)))), [.gone, .pack [.obj 3 [(.p (.int .i64 d))]], .row .upl 70 (I.hid ((l.filter (notU d))))]⟩) : Option CT)) l d
  | _, _ => none
theorem spDel__g : GoodC Tryz.prog 131 (spDel__c alg) := by
  intro args hp r h
  unfold spDel__c at h
  split at h
  · cases h; exact fun hn => spDel_ _ _ hn
  · cases h
def spDel__k : Know Tryz.prog := ⟨131, spDel__c, spDel__g⟩
def spDel__l : Know Tryz.prog := ⟨131, fun I => lendC I (spDel__c I), lendC_good spDel__g⟩

theorem sDrop_ (l : List Upl) (n id : Int) (hneed : SplOk l n) : Spc Tryz.prog 101 [.v (.one (.ptr 0 0)), .v (.one (.p (.int .i64 id)))] [.pack [.obj 79 [(.row 1), (.p (.int .i64 n))], .row .upl 70 l]] (.ret (.v (.one (.p (.int .i64 ((droC l id))))))) [.pack [.obj 79 [(.row 1), (.p (.int .i64 n))], .row .upl 70 ((droL l id))]] := by
  have hs := hneed
  have hf := spl_few hs
  have hfl : l.filter (notU id) = droL l id := filter_id hs.srt id
  generalize he : droC l id = re
  generalize hl : droL l id = rl at hfl
  refine spcG tab_ok mixed Tryz.func101 (by kernel_rfl) { cfgSp with bare := [73], keep := some [0, 1, 3, 4, 6] } [sAt__k, sAt__l, spDr1__k, spDr1__l, spDel__k, spDel__l] (by kernel_rfl) ?_
  intro I X hI hX
  refine ev_rule (let y0 := I.hid (α := (List Go.Ab.Upl)) (List.filter (notU id) l); let y1 := I.hid (α := (Prop)) (LE.le (List.length l) 1000000); .br (I.hid (α := Bool) (Decidable.decide (LT.lt (atU l id) (List.length l)))) (.need (I.hid (α := (Prop)) (And (LE.le (List.length l) 1000000) (LT.lt (atU l id) (List.length l)))) (.br (I.bnot (I.ieq 0 0)) (.fin (.ret (.v (.one (.p (.int .i64 0))))) [(.pack [(.obj 79 [(.row 1), (.p (.int .i64 n))]), (.row .upl 70 l)])]) (.need y1 (.fin (.ret (.v (.one (.p (.int .i64 0))))) [(.pack [(.obj 79 [(.row 1), (.p (.int .i64 n))]), (.row .upl 70 y0)])])))) (.need (I.hid (α := (Prop)) (And (LE.le (List.length l) 1000000) (Not (LT.lt (atU l id) (List.length l))))) (.br (I.bnot (I.ieq 10 0)) (.fin (.ret (.v (.one (.p (.int .i64 10))))) [(.pack [(.obj 79 [(.row 1), (.p (.int .i64 n))]), (.row .upl 70 l)])]) (.need y1 (.fin (.ret (.v (.one (.p (.int .i64 0))))) [(.pack [(.obj 79 [(.row 1), (.p (.int .i64 n))]), (.row .upl 70 y0)])]))))) (by kernel_rfl) ?_
  simp only [instL]
  subst hI
  simp only [nrmA, decide_eq_true_eq, decide_eq_false_iff_not, beq_iff_eq, beq_eq_false_iff_ne, Bool.not_eq_true', Bool.not_eq_false', Bool.and_eq_true, Bool.and_true, Bool.true_and, and_true, true_and, ne_eq, Int.toNat_zero, Nat.sub_zero, List.drop_zero, i64_min, i64_max, u8_min, u8_max, ofNat_b2i, b2i_inj, Int.toNat_natCast, Int.ofNat_eq_natCast, UInt8.ofNat_toNat, AOut.ret.injEq, D.v.injEq, D.tup.injEq, V0.one.injEq, C.p.injEq, P.bool.injEq, P.int.injEq, P.str.injEq, Bool.false_eq_true, Bool.true_eq_false, imp_false, Decidable.not_not, not_true_eq_false, not_false_eq_true, List.cons.injEq, P.list.injEq, HO.row.injEq, heq_eq_eq, reduceCtorEq, false_and, and_false, HO.pack.injEq, HO.obj.injEq]
  unfold droC at he
  (repeat' (first | refine And.intro ?_ ?_ | intro _)) <;> first | omega | exact True.intro | exact False.elim ‹False› | skip
  all_goals first
    | exact hf.1
    | exact hfl
    | ((repeat (first | rewrite [if_pos (by first | omega | assumption | (simp only [*, or_self, or_true, true_or, or_false, false_or, not_true_eq_false, not_false_eq_true, Bool.false_eq_true, Bool.true_eq_false, and_self, and_true, true_and]; done) | (simp only [*]; omega) | (simp [*]; done) | (simp [*]; omega))] at he | rewrite [if_neg (by first | omega | assumption | (simp only [*, or_self, or_true, true_or, or_false, false_or, not_true_eq_false, not_false_eq_true, Bool.false_eq_true, Bool.true_eq_false, and_self, and_true, true_and]; done) | (simp only [*]; omega) | (simp [*]; done) | (simp [*]; omega))] at he)); subst he; rfl)
    | (rw [← hl]; unfold droL; rw [List.eraseIdx_of_length_le (by omega)])
def sDrop__c (I : Alg) (args : List D) (hp : List HO) : Option CT := match args, hp with
  | [.v (.one (.ptr 0 0)), .v (.one (.p (.int .i64 id)))], [.pack [.obj 79 [(.row 1), (.p (.int .i64 n))], .row .upl 70 l]] => (fun (l : List Upl) (n id : Int) => (some (.one ⟨I.hid (SplOk l n), (.ret (.v (.one (.p (.int .i64 (I.hid ((droC l id)))))))), [.pack [.obj 79 [(.row 1), (.p (.int .i64 n))], .row .upl 70 (I.hid ((droL l id)))]]⟩) : Option CT)) l n id
  | _, _ => none
theorem sDrop__g : GoodC Tryz.prog 101 (sDrop__c alg) := by
  intro args hp r h
  unfold sDrop__c at h
  split at h
  · cases h; exact fun hn => sDrop_ _ _ _ hn
  · cases h
def sDrop__k : Know Tryz.prog := ⟨101, sDrop__c, sDrop__g⟩
def sDrop__l : Know Tryz.prog := ⟨101, fun I => lendC I (sDrop__c I), lendC_good sDrop__g⟩
end Go.Proofs.YtjapkdcomcgamaaGreatDoor
