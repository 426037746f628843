/- Uploads: the walks of package spool, the small ones. -/
import Derived.Test.YtjapkdcomcgamaaGreatDoorBase
import Derived.Test.YtjapkdcomcgamaaGreatDoorSplL
set_option linter.all false
namespace Go.Proofs.YtjapkdcomcgamaaGreatDoor
open Go Go.Sep Go.Ab
set_option maxRecDepth 100000

theorem spAt1_ (a b : Int) (m y : Str) (t d : Int) : Spc Tryz.prog 105 [.v (.agg [(.p (.int .i64 a)), (.p (.int .i64 b)), (.p (.str m)), (.p (.list .byte y)), (.p (.int .i64 t))]), .v (.one (.ptr 0 0))] [.pack [.obj 3 [(.p (.int .i64 d))]]] (.ret (.v (.one (.p (.bool ((a == d))))))) [.pack [.obj 3 [(.p (.int .i64 d))]]] := by
  refine spcG tab_ok mixed Tryz.func105 (by kernel_rfl) { keep := some [0, 1, 2, 3] } [] (by kernel_rfl) ?_
  intro I X hI hX
  refine ev_rule (.fin (.ret (.v (.one (.p (.bool (I.ieq a d)))))) [(.pack [(.obj 3 [(.p (.int .i64 d))])])]) (by kernel_rfl) ?_
  simp only [instL]
  subst hI
  simp only [nrmA, decide_eq_true_eq, decide_eq_false_iff_not, beq_iff_eq, beq_eq_false_iff_ne, Bool.not_eq_true', Bool.not_eq_false', Bool.and_eq_true, Bool.and_true, Bool.true_and, and_true, true_and, ne_eq, Int.toNat_zero, Nat.sub_zero, List.drop_zero, i64_min, i64_max, u8_min, u8_max, ofNat_b2i, b2i_inj, Int.toNat_natCast, Int.ofNat_eq_natCast, UInt8.ofNat_toNat, AOut.ret.injEq, D.v.injEq, D.tup.injEq, V0.one.injEq, C.p.injEq, P.bool.injEq, P.int.injEq, P.str.injEq, Bool.false_eq_true, Bool.true_eq_false, imp_false, Decidable.not_not, not_true_eq_false, not_false_eq_true, List.cons.injEq, P.list.injEq, HO.row.injEq, heq_eq_eq, reduceCtorEq, false_and, and_false, HO.pack.injEq, HO.obj.injEq]
def spAt1__c (I : Alg) (args : List D) (hp : List HO) : Option CT := match args, hp with
  | [.v (.agg [(.p (.int .i64 a)), (.p (.int .i64 b)), (.p (.str m)), (.p (.list .byte y)), (.p (.int .i64 t))]), .v (.one (.ptr 0 0))], [.pack [.obj 3 [(.p (.int .i64 d))]]] => (fun (a b : Int) (m y : Str) (t d : Int) => (some (.one ⟨I.hid (True), (.ret (.v (.one (.p (.bool (I.hid ((a == d)))))))), [.pack [.obj 3 [(.p (.int .i64 d))]]]⟩) : Option CT)) a b m y t d
  | _, _ => none
theorem spAt1__g : GoodC Tryz.prog 105 (spAt1__c alg) := by
  intro args hp r h
  unfold spAt1__c at h
  split at h
  · cases h; exact fun hn => spAt1_ _ _ _ _ _ _
  · cases h
def spAt1__k : Know Tryz.prog := ⟨105, spAt1__c, spAt1__g⟩
def spAt1__l : Know Tryz.prog := ⟨105, fun I => lendC I (spAt1__c I), lendC_good spAt1__g⟩

def ixU (l : List Upl) (id : Int) : Int := if atU l id < l.length then (atU l id : Int) else -1
theorem atU_drop {l : List Upl} {id : Int} {i : Nat} (h : i < l.length) (hp : i ≤ atU l id) : (if (l.getD i upl0).id = id then atU l id = i else i + 1 ≤ atU l id) := by
  rw [show l.getD i upl0 = l[i] by simp [h]]
  split
  · rename_i he
    rcases Nat.lt_or_ge i (atU l id) with h1 | h1
    · have := List.not_of_lt_findIdx (p := fun u : Upl => u.id == id) (xs := l) (i := i) h1
      simp [he] at this
    · omega
  · rename_i he
    rcases Nat.lt_or_ge i (atU l id) with h1 | h1
    · omega
    · have e : atU l id = i := by omega
      have h2 := uplAt_id (l := l) (id := id) (by omega)
      rw [uplAt_eq (by omega)] at h2
      simp only [e] at h2
      exact absurd h2 he

theorem spIx_ (l : List Upl) (d : Int) (hneed : l.length ≤ 1000000) : Spc Tryz.prog 104 [.v (.one (.p (.list .upl l))), .v (.one (.fn 105 [.ptr 0 0]))] [.pack [.obj 3 [(.p (.int .i64 d))]]] (.ret (.v (.one (.p (.int .i64 ((ixU l d))))))) [.pack [.obj 3 [(.p (.int .i64 d))]]] := by
  refine spcG tab_ok mixed Tryz.func104 (by kernel_rfl) { keep := some [0, 1, 4, 5, 7, 8] } [spAt1__k] (by kernel_rfl) ?_
  intro I X hI hX
  refine ev_rule (.code 0 [1, 0, 1, 0] ⟨[(8, (.v (.one (.p (.int .i64 0))))), (7, (.v (.one (.p (.int .i64 (I.len (α := Go.Ab.Upl) l)))))), (4, (.v (.one (.p (.int .i64 0))))), (0, (.v (.one (.p (.list .upl l))))), (1, (.v (.one (.fn 105 [(.ptr 0 0)]))))], [(.pack [(.obj 3 [(.p (.int .i64 d))])])], 19, none⟩) (by kernel_rfl) ?_
  simp only [instL]
  refine loop_inv hI tab_ok mixed [spAt1__k] hX [0, 1, 7, 8] (fun (i : Nat) => i ≤ l.length ∧ i ≤ atU l d) (fun (i : Nat) => ⟨[(0, .v (.one (.p (.list .upl l)))), (1, .v (.one (.fn 105 [.ptr 0 0]))), (7, .v (.one (.p (.int .i64 ((I.len (α := Upl) l)))))), (8, .v (.one (.p (.int .i64 i))))], [.pack [.obj 3 [(.p (.int .i64 d))]]], 19, none⟩) (fun (i : Nat) => l.length - i) 0 (by kernel_rfl) (by kernel_rfl) ?_ ?_
  · exact ⟨Nat.zero_le _, Nat.zero_le _⟩
  rintro i ⟨h1, h2⟩ A hA
  refine ev_rule (let y0 := I.inb (Nat.cast i) (I.len (α := Go.Ab.Upl) l); .br (I.ilt (Nat.cast i) (I.len (α := Go.Ab.Upl) l)) (.need y0 (.need y0 (.need (I.hid (α := (Prop)) True) (.br (I.hid (α := Bool) (BEq.beq (Go.Ab.Upl.id (I.get (α := Go.Ab.Upl) l (Go.Ab.Upl.mk (0 : Int) (0 : Int) ([] : List UInt8) ([] : List UInt8) (0 : Int)) (Nat.cast i))) d)) (.fin (.ret (.v (.one (.p (.int .i64 (Nat.cast i)))))) [(.pack [(.obj 3 [(.p (.int .i64 d))])])]) (.need (I.inr Go.IntKind.i64 (I.add (Nat.cast i) 1)) (.need (A ⟨[(0, (.v (.one (.p (.list .upl l))))), (1, (.v (.one (.fn 105 [(.ptr 0 0)])))), (7, (.v (.one (.p (.int .i64 (I.len (α := Go.Ab.Upl) l)))))), (8, (.v (.one (.p (.int .i64 (I.add (Nat.cast i) 1))))))], [(.pack [(.obj 3 [(.p (.int .i64 d))])])], 19, none⟩) .qed)))))) (.fin (.ret (.v (.one (.p (.int .i64 (Neg.neg (1 : Int))))))) [(.pack [(.obj 3 [(.p (.int .i64 d))])])])) (by kernel_rfl) ?_
  simp only [instL]
  subst hI
  simp only [nrmA, decide_eq_true_eq, decide_eq_false_iff_not, beq_iff_eq, beq_eq_false_iff_ne, Bool.not_eq_true', Bool.not_eq_false', Bool.and_eq_true, Bool.and_true, Bool.true_and, and_true, true_and, ne_eq, Int.toNat_zero, Nat.sub_zero, List.drop_zero, i64_min, i64_max, u8_min, u8_max, ofNat_b2i, b2i_inj, Int.toNat_natCast, Int.ofNat_eq_natCast, UInt8.ofNat_toNat, AOut.ret.injEq, D.v.injEq, D.tup.injEq, V0.one.injEq, C.p.injEq, P.bool.injEq, P.int.injEq, P.str.injEq, Bool.false_eq_true, Bool.true_eq_false, imp_false, Decidable.not_not, not_true_eq_false, not_false_eq_true]
  have hx := fun h => atU_drop (l := l) (id := d) (i := i) h h2
  have hle := atU_le l d
  have e0 : (⟨0, 0, [], [], 0⟩ : Upl) = upl0 := rfl
  simp only [e0]
  unfold ixU
  (repeat' (first | refine And.intro ?_ ?_ | intro _)) <;> first | omega | exact True.intro | exact False.elim ‹False› | skip
  all_goals first
    | (have h3 := hx (by omega); rw [if_pos (by assumption)] at h3; rw [if_pos (by omega), h3])
    | (have h3 := hx (by omega); rw [if_neg (by assumption)] at h3; exact hA (i + 1) ⟨by omega, h3⟩ (by omega))
    | (rw [if_neg (by omega)])
def spIx__c (I : Alg) (args : List D) (hp : List HO) : Option CT := match args, hp with
  | [.v (.one (.p (.list .upl l))), .v (.one (.fn 105 [.ptr 0 0]))], [.pack [.obj 3 [(.p (.int .i64 d))]]] => (fun (l : List Upl) (d : Int) => (some (.one ⟨I.hid (l.length ≤ 1000000), (.ret (.v (.one (.p (.int .i64 (I.hid ((ixU l d)))))))), [.pack [.obj 3 [(.p (.int .i64 d))]]]⟩) : Option CT)) l d
  | _, _ => none
theorem spIx__g : GoodC Tryz.prog 104 (spIx__c alg) := by
  intro args hp r h
  unfold spIx__c at h
  split at h
  · cases h; exact fun hn => spIx_ _ _ hn
  · cases h
def spIx__k : Know Tryz.prog := ⟨104, spIx__c, spIx__g⟩
def spIx__l : Know Tryz.prog := ⟨104, fun I => lendC I (spIx__c I), lendC_good spIx__g⟩


def cfgSp : Cfg := { sl := [⟨79, 0, .upl, some 70⟩, ⟨49, 0, .upl, some 70⟩] }
theorem ixU_pos {l : List Upl} {id : Int} (h : atU l id < l.length) : ixU l id = (atU l id : Int) := by unfold ixU; rw [if_pos h]
theorem ixU_neg {l : List Upl} {id : Int} (h : ¬ atU l id < l.length) : ixU l id = -1 := by unfold ixU; rw [if_neg h]

theorem sAtA_ (l : List Upl) (n id : Int) (hneed : l.length ≤ 1000000 ∧ atU l id < l.length) : Spc Tryz.prog 73 [.v (.one (.ptr 0 0)), .v (.one (.p (.int .i64 id)))] [.obj 79 [(.row 1), (.p (.int .i64 n))], .row .upl 70 l] (.ret (.tup [(.one (.ept .upl 1 ((atU l id : Int)) 0)), (.one (.p (.int .i64 0)))])) [.obj 79 [(.row 1), (.p (.int .i64 n))], .row .upl 70 l] := by
  obtain ⟨h1, h2⟩ := hneed
  refine spcG tab_ok mixed Tryz.func73 (by kernel_rfl) { flat := true, keep := some [0, 1, 3, 4, 5, 6] } [spAt1__k, spAt1__l, spIx__k, spIx__l] (by kernel_rfl) ?_
  intro I X hI hX
  refine ev_rule (.need (I.hid (α := (Prop)) (LE.le (List.length l) 1000000)) (.br (I.ilt (I.hid (α := Int) (ixU l id)) 0) (.fin (.ret (.tup [(.one (.p (.val (.pointer .none)))), (.one (.p (.int .i64 10)))])) [(.obj 79 [(.row 1), (.p (.int .i64 n))]), (.row .upl 70 l)]) (.need (I.inb (I.hid (α := Int) (ixU l id)) (I.len (α := Go.Ab.Upl) l)) (.fin (.ret (.tup [(.one (.ept .upl 1 (I.hid (α := Int) (ixU l id)) 0)), (.one (.p (.int .i64 0)))])) [(.obj 79 [(.row 1), (.p (.int .i64 n))]), (.row .upl 70 l)])))) (by kernel_rfl) ?_
  simp only [instL]
  subst hI
  simp only [nrmA, decide_eq_true_eq, decide_eq_false_iff_not, beq_iff_eq, beq_eq_false_iff_ne, Bool.not_eq_true', Bool.not_eq_false', Bool.and_eq_true, Bool.and_true, Bool.true_and, and_true, true_and, ne_eq, Int.toNat_zero, Nat.sub_zero, List.drop_zero, i64_min, i64_max, u8_min, u8_max, ofNat_b2i, b2i_inj, Int.toNat_natCast, Int.ofNat_eq_natCast, UInt8.ofNat_toNat, AOut.ret.injEq, D.v.injEq, D.tup.injEq, V0.one.injEq, C.p.injEq, P.bool.injEq, P.int.injEq, P.str.injEq, Bool.false_eq_true, Bool.true_eq_false, imp_false, Decidable.not_not, not_true_eq_false, not_false_eq_true, ixU_pos h2]
  (repeat' (first | refine And.intro ?_ ?_ | intro _)) <;> first | omega | exact True.intro | exact False.elim ‹False› | skip
theorem sAtB_ (l : List Upl) (n id : Int) (hneed : l.length ≤ 1000000 ∧ ¬ atU l id < l.length) : Spc Tryz.prog 73 [.v (.one (.ptr 0 0)), .v (.one (.p (.int .i64 id)))] [.obj 79 [(.row 1), (.p (.int .i64 n))], .row .upl 70 l] (.ret (.tup [(.one (.p (.val (.pointer none)))), (.one (.p (.int .i64 10)))])) [.obj 79 [(.row 1), (.p (.int .i64 n))], .row .upl 70 l] := by
  obtain ⟨h1, h2⟩ := hneed
  refine spcG tab_ok mixed Tryz.func73 (by kernel_rfl) { flat := true, keep := some [0, 1, 3, 4, 5, 6] } [spAt1__k, spAt1__l, spIx__k, spIx__l] (by kernel_rfl) ?_
  intro I X hI hX
  refine ev_rule (.need (I.hid (α := (Prop)) (LE.le (List.length l) 1000000)) (.br (I.ilt (I.hid (α := Int) (ixU l id)) 0) (.fin (.ret (.tup [(.one (.p (.val (.pointer .none)))), (.one (.p (.int .i64 10)))])) [(.obj 79 [(.row 1), (.p (.int .i64 n))]), (.row .upl 70 l)]) (.need (I.inb (I.hid (α := Int) (ixU l id)) (I.len (α := Go.Ab.Upl) l)) (.fin (.ret (.tup [(.one (.ept .upl 1 (I.hid (α := Int) (ixU l id)) 0)), (.one (.p (.int .i64 0)))])) [(.obj 79 [(.row 1), (.p (.int .i64 n))]), (.row .upl 70 l)])))) (by kernel_rfl) ?_
  simp only [instL]
  subst hI
  simp only [nrmA, decide_eq_true_eq, decide_eq_false_iff_not, beq_iff_eq, beq_eq_false_iff_ne, Bool.not_eq_true', Bool.not_eq_false', Bool.and_eq_true, Bool.and_true, Bool.true_and, and_true, true_and, ne_eq, Int.toNat_zero, Nat.sub_zero, List.drop_zero, i64_min, i64_max, u8_min, u8_max, ofNat_b2i, b2i_inj, Int.toNat_natCast, Int.ofNat_eq_natCast, UInt8.ofNat_toNat, AOut.ret.injEq, D.v.injEq, D.tup.injEq, V0.one.injEq, C.p.injEq, P.bool.injEq, P.int.injEq, P.str.injEq, Bool.false_eq_true, Bool.true_eq_false, imp_false, Decidable.not_not, not_true_eq_false, not_false_eq_true, ixU_neg h2]
  (repeat' (first | refine And.intro ?_ ?_ | intro _)) <;> first | omega | exact True.intro | exact False.elim ‹False› | skip
def sAt__c (I : Alg) (args : List D) (hp : List HO) : Option CT := match args, hp with
  | [.v (.one (.ptr 0 0)), .v (.one (.p (.int .i64 id)))], [.obj 79 [(.row 1), (.p (.int .i64 n))], .row .upl 70 l] => (fun (l : List Upl) (n id : Int) => (some (.br (I.hid (decide (atU l id < l.length))) (.one ⟨I.hid (l.length ≤ 1000000 ∧ atU l id < l.length), (.ret (.tup [(.one (.ept .upl 1 (I.hid ((atU l id : Int))) 0)), (.one (.p (.int .i64 0)))])), [.obj 79 [(.row 1), (.p (.int .i64 n))], .row .upl 70 l]⟩) (.one ⟨I.hid (l.length ≤ 1000000 ∧ ¬ atU l id < l.length), (.ret (.tup [(.one (.p (.val (.pointer none)))), (.one (.p (.int .i64 10)))])), [.obj 79 [(.row 1), (.p (.int .i64 n))], .row .upl 70 l]⟩)) : Option CT)) l n id
  | _, _ => none
theorem sAt__g : GoodC Tryz.prog 73 (sAt__c alg) := by
  intro args hp r h
  unfold sAt__c at h
  split at h
  · cases h; exact ⟨fun _ hn => sAtA_ _ _ _ hn, fun _ hn => sAtB_ _ _ _ hn⟩
  · cases h
def sAt__k : Know Tryz.prog := ⟨73, sAt__c, sAt__g⟩
def sAt__l : Know Tryz.prog := ⟨73, fun I => lendC I (sAt__c I), lendC_good sAt__g⟩

theorem sUsedB_ (l : List Upl) (n : Int) (hneed : usedU l ≤ 1000000 ∧ l.length ≤ 1000000) : Spc Tryz.prog 129 [.v (.one (.ptr 0 0))] [.obj 79 [(.row 1), (.p (.int .i64 n))], .row .upl 70 l] (.ret (.v (.one (.p (.int .i64 ((usedU l))))))) [.obj 79 [(.row 1), (.p (.int .i64 n))], .row .upl 70 l] := by
  obtain ⟨hu, hl⟩ := hneed
  refine spcG tab_ok mixed Tryz.func129 (by kernel_rfl) { flat := true, keep := some [0, 2, 3, 5, 9, 10, 11] } [] (by kernel_rfl) ?_
  intro I X hI hX
  refine ev_rule (.code 0 [1, 1, 0, 1, 0] ⟨[(11, (.v (.one (.p (.int .i64 0))))), (10, (.v (.one (.p (.int .i64 (I.len (α := Go.Ab.Upl) l)))))), (9, (.v (.one (.row 1)))), (3, (.v (.one (.p (.int .i64 0))))), (2, (.v (.one (.p (.int .i64 0))))), (0, (.v (.one (.ptr 0 0))))], [(.obj 79 [(.row 1), (.p (.int .i64 n))]), (.row .upl 70 l)], 22, none⟩) (by kernel_rfl) ?_
  simp only [instL]
  refine loop_inv hI tab_ok mixed [] hX [0, 3, 9, 10, 11] (fun (g : Nat × Int) => match g with | (i, a) => i ≤ l.length ∧ 0 ≤ a ∧ a + usedU (l.drop i) = usedU l) (fun (g : Nat × Int) => match g with | (i, a) => ⟨[(0, .v (.one (.ptr 0 0))), (3, .v (.one (.p (.int .i64 a)))), (9, .v (.one (.row 1))), (10, .v (.one (.p (.int .i64 ((I.len (α := Upl) l)))))), (11, .v (.one (.p (.int .i64 i))))], [.obj 79 [(.row 1), (.p (.int .i64 n))], .row .upl 70 l], 22, none⟩) (fun (g : Nat × Int) => match g with | (i, a) => l.length - i) (0, 0) (by kernel_rfl) (by kernel_rfl) ?_ ?_
  · exact ⟨Nat.zero_le _, Int.le_refl _, by simp⟩
  rintro ⟨i, a⟩ ⟨h1, h2, h3⟩ A hA
  simp only at hA
  refine ev_rule (let y0 := I.add a (I.len (α := UInt8) (Go.Ab.Upl.bytes (I.get (α := Go.Ab.Upl) l (Go.Ab.Upl.mk (0 : Int) (0 : Int) ([] : List UInt8) ([] : List UInt8) (0 : Int)) (Nat.cast i)))); let y1 := I.inb (Nat.cast i) (I.len (α := Go.Ab.Upl) l); .br (I.ilt (Nat.cast i) (I.len (α := Go.Ab.Upl) l)) (.need y1 (.need y1 (.need (I.inr Go.IntKind.i64 y0) (.need (I.inr Go.IntKind.i64 (I.add (Nat.cast i) 1)) (.need (A ⟨[(0, (.v (.one (.ptr 0 0)))), (3, (.v (.one (.p (.int .i64 y0))))), (9, (.v (.one (.row 1)))), (10, (.v (.one (.p (.int .i64 (I.len (α := Go.Ab.Upl) l)))))), (11, (.v (.one (.p (.int .i64 (I.add (Nat.cast i) 1))))))], [(.obj 79 [(.row 1), (.p (.int .i64 n))]), (.row .upl 70 l)], 22, none⟩) .qed))))) (.fin (.ret (.v (.one (.p (.int .i64 a))))) [(.obj 79 [(.row 1), (.p (.int .i64 n))]), (.row .upl 70 l)])) (by kernel_rfl) ?_
  simp only [instL]
  subst hI
  simp only [nrmA, decide_eq_true_eq, decide_eq_false_iff_not, beq_iff_eq, beq_eq_false_iff_ne, Bool.not_eq_true', Bool.not_eq_false', Bool.and_eq_true, Bool.and_true, Bool.true_and, and_true, true_and, ne_eq, Int.toNat_zero, Nat.sub_zero, List.drop_zero, i64_min, i64_max, u8_min, u8_max, ofNat_b2i, b2i_inj, Int.toNat_natCast, Int.ofNat_eq_natCast, UInt8.ofNat_toNat, AOut.ret.injEq, D.v.injEq, D.tup.injEq, V0.one.injEq, C.p.injEq, P.bool.injEq, P.int.injEq, P.str.injEq, Bool.false_eq_true, Bool.true_eq_false, imp_false, Decidable.not_not, not_true_eq_false, not_false_eq_true]
  have hd : i < l.length → usedU (l.drop i) = (l.getD i ⟨0, 0, [], [], 0⟩).bytes.length + usedU (l.drop (i + 1)) := fun h => by
    rw [List.drop_eq_getElem_cons h]; simp [usedU, h]
  have hn := usedU_nonneg (l.drop (i + 1))
  have hn0 : ¬ i < l.length → usedU (l.drop i) = 0 := fun h => by rw [List.drop_of_length_le (by omega)]; rfl
  generalize l.getD i ⟨0, 0, [], [], 0⟩ = x at *
  (repeat' (first | refine And.intro ?_ ?_ | intro _)) <;> first | omega | exact True.intro | exact False.elim ‹False› | skip
  all_goals first
    | (have := hd (by omega); omega)
    | (have := hd (by omega); refine hA (i + 1, _) ⟨by simp only; omega, by simp only; omega, by simp only; omega⟩ (by simp only; omega))
    | (have := hn0 (by omega); simp only [show a = usedU l by omega])
def sUsedB__c (I : Alg) (args : List D) (hp : List HO) : Option CT := match args, hp with
  | [.v (.one (.ptr 0 0))], [.obj 79 [(.row 1), (.p (.int .i64 n))], .row .upl 70 l] => (fun (l : List Upl) (n : Int) => (some (.one ⟨I.hid (usedU l ≤ 1000000 ∧ l.length ≤ 1000000), (.ret (.v (.one (.p (.int .i64 (I.hid ((usedU l)))))))), [.obj 79 [(.row 1), (.p (.int .i64 n))], .row .upl 70 l]⟩) : Option CT)) l n
  | _, _ => none
theorem sUsedB__g : GoodC Tryz.prog 129 (sUsedB__c alg) := by
  intro args hp r h
  unfold sUsedB__c at h
  split at h
  · cases h; exact fun hn => sUsedB_ _ _ hn
  · cases h
def sUsedB__k : Know Tryz.prog := ⟨129, sUsedB__c, sUsedB__g⟩
def sUsedB__l : Know Tryz.prog := ⟨129, fun I => lendC I (sUsedB__c I), lendC_good sUsedB__g⟩
theorem sUsed_ (l : List Upl) (n : Int) (hneed : usedU l ≤ 1000000 ∧ l.length ≤ 1000000) : Spc Tryz.prog 129 [.v (.one (.ptr 0 0))] [.pack [.obj 79 [(.row 1), (.p (.int .i64 n))], .row .upl 70 l]] (.ret (.v (.one (.p (.int .i64 ((usedU l))))))) [.pack [.obj 79 [(.row 1), (.p (.int .i64 n))], .row .upl 70 l]] :=
  Spc.packed (ex := []) (sUsedB_ l n hneed) rfl (by simp) rfl
def sUsed__c (I : Alg) (args : List D) (hp : List HO) : Option CT := match args, hp with
  | [.v (.one (.ptr 0 0))], [.pack [.obj 79 [(.row 1), (.p (.int .i64 n))], .row .upl 70 l]] => (fun (l : List Upl) (n : Int) => (some (.one ⟨I.hid (usedU l ≤ 1000000 ∧ l.length ≤ 1000000), (.ret (.v (.one (.p (.int .i64 (I.hid ((usedU l)))))))), [.pack [.obj 79 [(.row 1), (.p (.int .i64 n))], .row .upl 70 l]]⟩) : Option CT)) l n
  | _, _ => none
theorem sUsed__g : GoodC Tryz.prog 129 (sUsed__c alg) := by
  intro args hp r h
  unfold sUsed__c at h
  split at h
  · cases h; exact fun hn => sUsed_ _ _ hn
  · cases h
def sUsed__k : Know Tryz.prog := ⟨129, sUsed__c, sUsed__g⟩
def sUsed__l : Know Tryz.prog := ⟨129, fun I => lendC I (sUsed__c I), lendC_good sUsed__g⟩

theorem grow_ (n : Int) (hneed : 0 ≤ n ∧ n ≤ 1000000) : Spc Tryz.prog 147 [.v (.one .nilS), .v (.one (.p (.int .i64 n)))] [] (.ret (.v (.one (.row 0)))) [.row .byte 5 ([])] := by
  refine spcG tab_ok mixed Tryz.func147 (by kernel_rfl) { cut := [0], keep := some [0, 1, 4] } [] (by kernel_rfl) ?_
  intro I X hI hX
  refine ev_rule (let y0 := I.rep (α := UInt8) (I.sub n (I.sub 0 0)) (I.i2b 0); .br (I.ilt n 0) (.fin (.pan (.ifc 9 .false [(.str (Array.toList (List.toArray ([99, 97, 110, 110, 111, 116, 32, 98, 101, 32, 110, 101, 103, 97, 116, 105, 118, 101] : List UInt8))))])) []) (.need (I.inr Go.IntKind.i64 (I.sub 0 0)) (.need (I.inr Go.IntKind.i64 (I.sub n (I.sub 0 0))) (.br (I.ilt 0 (I.sub n (I.sub 0 0))) (.need (I.cutb 0 0 0) (.need (I.inr Go.IntKind.u8 0) (.need (I.nng (I.sub n (I.sub 0 0))) (.need (I.few (I.sub n (I.sub 0 0)) 1000000) (.need (I.cutb 0 0 (I.len (α := UInt8) y0)) (.need (I.same (α := Int) 0 0) (.fin (.ret (.v (.one (.row 0)))) [(.row .byte 5 (I.cut (α := UInt8) y0 0 0))]))))))) (.fin (.ret (.v (.one (.row 0)))) [(.row .byte 5 ([] : List UInt8))]))))) (by kernel_rfl) ?_
  simp only [instL]
  subst hI
  simp only [nrmA, decide_eq_true_eq, decide_eq_false_iff_not, beq_iff_eq, beq_eq_false_iff_ne, Bool.not_eq_true', Bool.not_eq_false', Bool.and_eq_true, Bool.and_true, Bool.true_and, and_true, true_and, ne_eq, Int.toNat_zero, Nat.sub_zero, List.drop_zero, i64_min, i64_max, u8_min, u8_max, ofNat_b2i, b2i_inj, Int.toNat_natCast, Int.ofNat_eq_natCast, UInt8.ofNat_toNat, AOut.ret.injEq, D.v.injEq, D.tup.injEq, V0.one.injEq, C.p.injEq, P.bool.injEq, P.int.injEq, P.str.injEq, Bool.false_eq_true, Bool.true_eq_false, imp_false, Decidable.not_not, not_true_eq_false, not_false_eq_true, List.cons.injEq, P.list.injEq, HO.row.injEq, heq_eq_eq, reduceCtorEq, false_and, and_false]
  simp only [List.length_replicate, List.take_zero]
  (repeat' (first | refine And.intro ?_ ?_ | intro _)) <;> first | omega | exact True.intro | exact False.elim ‹False› | skip
  all_goals trivial
def grow__c (I : Alg) (args : List D) (hp : List HO) : Option CT := match args, hp with
  | [.v (.one .nilS), .v (.one (.p (.int .i64 n)))], [] => (fun (n : Int) => (some (.one ⟨I.hid (0 ≤ n ∧ n ≤ 1000000), (.ret (.v (.one (.row 0)))), [.row .byte 5 (I.hid ([]))]⟩) : Option CT)) n
  | _, _ => none
theorem grow__g : GoodC Tryz.prog 147 (grow__c alg) := by
  intro args hp r h
  unfold grow__c at h
  split at h
  · cases h; exact fun hn => grow_ _ hn
  · cases h
def grow__k : Know Tryz.prog := ⟨147, grow__c, grow__g⟩
def grow__l : Know Tryz.prog := ⟨147, fun I => lendC I (grow__c I), lendC_good grow__g⟩

theorem flat_take {ls : List Str} {i : Nat} (h : i < ls.length) : (ls.take (i + 1)).flatten = (ls.take i).flatten ++ ls.getD i [] := by
  rw [List.take_succ_eq_append_getElem h, List.flatten_append]; simp [h]
theorem flat_le (ls : List Str) (i : Nat) : (ls.take i).flatten.length ≤ ls.flatten.length := by
  have := congrArg (fun l : List Str => l.flatten.length) (List.take_append_drop i ls)
  simp only [List.flatten_append, List.length_append] at this
  omega
theorem concat_ (ls : List Str) (hneed : ls.flatten.length ≤ 1000000 ∧ ls.length ≤ 1000) : Spc Tryz.prog 130 [.v (.one (.p (.list .bytes ls)))] [] (.ret (.v (.one (.row 0)))) [.row .byte 5 ls.flatten] := by
  obtain ⟨hl, hk⟩ := hneed
  refine spcG tab_ok mixed Tryz.func130 (by kernel_rfl) { nils := [147], keep := some [0, 2, 3, 5, 6, 8, 9, 10, 11, 25, 26, 27] } [grow__k, grow__l] (by kernel_rfl) ?_
  intro I X hI hX
  refine ev_rule (.code 0 [1, 1, 0, 1, 0] ⟨[(11, (.v (.one (.p (.int .i64 0))))), (10, (.v (.one (.p (.int .i64 (I.len (α := (List UInt8)) ls)))))), (9, (.v (.one (.p (.list .bytes ls))))), (3, (.v (.one (.p (.int .i64 0))))), (2, (.v (.one .nilS))), (0, (.v (.one (.p (.list .bytes ls)))))], [], 36, none⟩) (by kernel_rfl) ?_
  simp only [instL]
  refine loop_inv hI tab_ok mixed [grow__k, grow__l] hX [0, 3, 9, 10, 11] (fun (g : Nat × Int) => match g with | (i, a) => i ≤ ls.length ∧ a = (ls.take i).flatten.length) (fun (g : Nat × Int) => match g with | (i, a) => ⟨[(0, .v (.one (.p (.list .bytes ls)))), (3, .v (.one (.p (.int .i64 a)))), (9, .v (.one (.p (.list .bytes ls)))), (10, .v (.one (.p (.int .i64 ((I.len (α := List UInt8) ls)))))), (11, .v (.one (.p (.int .i64 i))))], [], 36, none⟩) (fun (g : Nat × Int) => match g with | (i, a) => ls.length - i) (0, 0) (by kernel_rfl) (by kernel_rfl) ?_ ?_
  · exact ⟨Nat.zero_le _, by simp⟩
  rintro ⟨i, a⟩ ⟨h1, h2⟩ A hA
  simp only at hA
  refine ev_rule (let y0 := I.add a (I.len (α := UInt8) (I.get (α := (List UInt8)) ls ([] : List UInt8) (Nat.cast i))); let y1 := I.inb (Nat.cast i) (I.len (α := (List UInt8)) ls); .br (I.ilt (Nat.cast i) (I.len (α := (List UInt8)) ls)) (.need y1 (.need y1 (.need (I.inr Go.IntKind.i64 y0) (.br (I.ilt y0 0) (.fin (.pan (.ifc 9 .false [(.str (Array.toList (List.toArray ([108, 101, 110, 32, 111, 117, 116, 32, 111, 102, 32, 114, 97, 110, 103, 101] : List UInt8))))])) []) (.need (I.inr Go.IntKind.i64 (I.add (Nat.cast i) 1)) (.need (A ⟨[(0, (.v (.one (.p (.list .bytes ls))))), (3, (.v (.one (.p (.int .i64 y0))))), (9, (.v (.one (.p (.list .bytes ls))))), (10, (.v (.one (.p (.int .i64 (I.len (α := (List UInt8)) ls)))))), (11, (.v (.one (.p (.int .i64 (I.add (Nat.cast i) 1))))))], [], 36, none⟩) .qed)))))) (.need (I.hid (α := (Prop)) (And (LE.le (0 : Int) a) (LE.le a (1000000 : Int)))) (.code 1 [1, 1, 1, 1, 0, 1, 0] ⟨[(27, (.v (.one (.p (.int .i64 0))))), (26, (.v (.one (.p (.int .i64 (I.len (α := (List UInt8)) ls)))))), (25, (.v (.one (.p (.list .bytes ls))))), (6, (.v (.one (.row 0)))), (0, (.v (.one (.p (.list .bytes ls))))), (3, (.v (.one (.p (.int .i64 a))))), (9, (.v (.one (.p (.list .bytes ls))))), (10, (.v (.one (.p (.int .i64 (I.len (α := (List UInt8)) ls)))))), (11, (.v (.one (.p (.int .i64 (Nat.cast i))))))], [(.row .byte 5 (I.hid (α := (List UInt8)) ([] : List UInt8)))], 36, none⟩))) (by kernel_rfl) ?_
  simp only [instL]
  have hx : i < ls.length → _ := flat_take (ls := ls) (i := i)
  have hy := flat_le ls (i + 1)
  have hz := flat_le ls i
  refine ⟨fun c1 => ?_, fun c1 => ⟨?_, ?_⟩⟩
  · subst hI
    simp only [nrmA, decide_eq_true_eq, decide_eq_false_iff_not, beq_iff_eq, beq_eq_false_iff_ne, Bool.not_eq_true', Bool.not_eq_false', Bool.and_eq_true, Bool.and_true, Bool.true_and, and_true, true_and, ne_eq, Int.toNat_zero, Nat.sub_zero, List.drop_zero, i64_min, i64_max, u8_min, u8_max, ofNat_b2i, b2i_inj, Int.toNat_natCast, Int.ofNat_eq_natCast, UInt8.ofNat_toNat, AOut.ret.injEq, D.v.injEq, D.tup.injEq, V0.one.injEq, C.p.injEq, P.bool.injEq, P.int.injEq, P.str.injEq, Bool.false_eq_true, Bool.true_eq_false, imp_false, Decidable.not_not, not_true_eq_false, not_false_eq_true] at c1
    simp only [nrmA, decide_eq_true_eq, decide_eq_false_iff_not, beq_iff_eq, beq_eq_false_iff_ne, Bool.not_eq_true', Bool.not_eq_false', Bool.and_eq_true, Bool.and_true, Bool.true_and, and_true, true_and, ne_eq, Int.toNat_zero, Nat.sub_zero, List.drop_zero, i64_min, i64_max, u8_min, u8_max, ofNat_b2i, b2i_inj, Int.toNat_natCast, Int.ofNat_eq_natCast, UInt8.ofNat_toNat, AOut.ret.injEq, D.v.injEq, D.tup.injEq, V0.one.injEq, C.p.injEq, P.bool.injEq, P.int.injEq, P.str.injEq, Bool.false_eq_true, Bool.true_eq_false, imp_false, Decidable.not_not, not_true_eq_false, not_false_eq_true]
    have hx := congrArg List.length (hx (by omega))
    rw [List.length_append] at hx
    generalize ls.getD i [] = x at *
    (repeat' (first | refine And.intro ?_ ?_ | intro _)) <;> first | omega | exact True.intro | exact False.elim ‹False› | skip
    exact hA (i + 1, _) ⟨by simp only; omega, by simp only; omega⟩ (by simp only; omega)
  · subst hI
    simp only [nrmA, decide_eq_true_eq, decide_eq_false_iff_not, beq_iff_eq, beq_eq_false_iff_ne, Bool.not_eq_true', Bool.not_eq_false', Bool.and_eq_true, Bool.and_true, Bool.true_and, and_true, true_and, ne_eq, Int.toNat_zero, Nat.sub_zero, List.drop_zero, i64_min, i64_max, u8_min, u8_max, ofNat_b2i, b2i_inj, Int.toNat_natCast, Int.ofNat_eq_natCast, UInt8.ofNat_toNat, AOut.ret.injEq, D.v.injEq, D.tup.injEq, V0.one.injEq, C.p.injEq, P.bool.injEq, P.int.injEq, P.str.injEq, Bool.false_eq_true, Bool.true_eq_false, imp_false, Decidable.not_not, not_true_eq_false, not_false_eq_true]
    omega
  · have hi : i = ls.length := by
      subst hI
      simp only [nrmA, decide_eq_true_eq, decide_eq_false_iff_not, beq_iff_eq, beq_eq_false_iff_ne, Bool.not_eq_true', Bool.not_eq_false', Bool.and_eq_true, Bool.and_true, Bool.true_and, and_true, true_and, ne_eq, Int.toNat_zero, Nat.sub_zero, List.drop_zero, i64_min, i64_max, u8_min, u8_max, ofNat_b2i, b2i_inj, Int.toNat_natCast, Int.ofNat_eq_natCast, UInt8.ofNat_toNat, AOut.ret.injEq, D.v.injEq, D.tup.injEq, V0.one.injEq, C.p.injEq, P.bool.injEq, P.int.injEq, P.str.injEq, Bool.false_eq_true, Bool.true_eq_false, imp_false, Decidable.not_not, not_true_eq_false, not_false_eq_true] at c1
      omega
    have hil : (I.hid ([] : Str)) = [] := by subst hI; rfl
    rw [hil]
    refine loop_inv hI tab_ok mixed [grow__k, grow__l] hX [6, 25, 26, 27] (fun (g : Nat × Str) => match g with | (j, o) => j ≤ ls.length ∧ o = (ls.take j).flatten) (fun (g : Nat × Str) => match g with | (j, o) => ⟨[(6, .v (.one (.row 0))), (25, .v (.one (.p (.list .bytes ls)))), (26, .v (.one (.p (.int .i64 ((I.len (α := List UInt8) ls)))))), (27, .v (.one (.p (.int .i64 j))))], [.row .byte 5 o], 36, none⟩) (fun (g : Nat × Str) => match g with | (j, o) => ls.length - j) (0, []) (by kernel_rfl) (by kernel_rfl) ?_ ?_
    · exact ⟨Nat.zero_le _, rfl⟩
    rintro ⟨j, o⟩ ⟨k1, k2⟩ B hB
    simp only at hB
    refine ev_rule (let y0 := I.get (α := (List UInt8)) ls ([] : List UInt8) (Nat.cast j); let y1 := I.inb (Nat.cast j) (I.len (α := (List UInt8)) ls); .br (I.ilt (Nat.cast j) (I.len (α := (List UInt8)) ls)) (.need y1 (.need y1 (.need (I.few (I.add (I.len (α := UInt8) o) (I.len (α := UInt8) y0)) 140737488355328) (.need (I.inr Go.IntKind.i64 (I.add (Nat.cast j) 1)) (.need (B ⟨[(6, (.v (.one (.row 0)))), (25, (.v (.one (.p (.list .bytes ls))))), (26, (.v (.one (.p (.int .i64 (I.len (α := (List UInt8)) ls)))))), (27, (.v (.one (.p (.int .i64 (I.add (Nat.cast j) 1))))))], [(.row .byte 5 (I.app (α := UInt8) o y0))], 36, none⟩) .qed))))) (.fin (.ret (.v (.one (.row 0)))) [(.row .byte 5 o)])) (by kernel_rfl) ?_
    simp only [instL]
    subst hI
    simp only [nrmA, decide_eq_true_eq, decide_eq_false_iff_not, beq_iff_eq, beq_eq_false_iff_ne, Bool.not_eq_true', Bool.not_eq_false', Bool.and_eq_true, Bool.and_true, Bool.true_and, and_true, true_and, ne_eq, Int.toNat_zero, Nat.sub_zero, List.drop_zero, i64_min, i64_max, u8_min, u8_max, ofNat_b2i, b2i_inj, Int.toNat_natCast, Int.ofNat_eq_natCast, UInt8.ofNat_toNat, AOut.ret.injEq, D.v.injEq, D.tup.injEq, V0.one.injEq, C.p.injEq, P.bool.injEq, P.int.injEq, P.str.injEq, Bool.false_eq_true, Bool.true_eq_false, imp_false, Decidable.not_not, not_true_eq_false, not_false_eq_true, List.cons.injEq, P.list.injEq, HO.row.injEq, heq_eq_eq, reduceCtorEq, false_and, and_false]
    have hx : j < ls.length → _ := flat_take (ls := ls) (i := j)
    have hy := flat_le ls (j + 1)
    have hz := flat_le ls j
    have hw : ¬ j < ls.length → o = ls.flatten := fun h => by rw [k2, List.take_of_length_le (by omega)]
    rw [k2] at hw ⊢
    refine ⟨fun c => ?_, fun c => hw (by omega)⟩
    have hx := hx (by omega)
    rw [← hx]
    have hx2 := congrArg List.length hx
    rw [List.length_append] at hx2
    generalize ls.getD j [] = x at *
    (repeat' (first | refine And.intro ?_ ?_ | intro _)) <;> first | omega | exact True.intro | exact False.elim ‹False› | skip
    exact hB (j + 1, (ls.take (j + 1)).flatten) ⟨by simp only; omega, rfl⟩ (by simp only; omega)
def concat__c (I : Alg) (args : List D) (hp : List HO) : Option CT := match args, hp with
  | [.v (.one (.p (.list .bytes ls)))], [] => (fun (ls : List Str) => (some (.one ⟨I.hid (ls.flatten.length ≤ 1000000 ∧ ls.length ≤ 1000), (.ret (.v (.one (.row 0)))), [.row .byte 5 ls.flatten]⟩) : Option CT)) ls
  | _, _ => none
theorem concat__g : GoodC Tryz.prog 130 (concat__c alg) := by
  intro args hp r h
  unfold concat__c at h
  split at h
  · cases h; exact fun hn => concat_ _ hn
  · cases h
def concat__k : Know Tryz.prog := ⟨130, concat__c, concat__g⟩
def concat__l : Know Tryz.prog := ⟨130, fun I => lendC I (concat__c I), lendC_good concat__g⟩

theorem spl_few {l : List Upl} {n : Int} (h : SplOk l n) : l.length ≤ 1000000 ∧ usedU l ≤ 1000000 := by
  have := h.cnt; have := h.tot; omega

theorem sCreate_ (l : List Upl) (n size : Int) (m : Str) (hneed : SplOk l n ∧ n ≤ 1000000 ∧ m.length ≤ 1000000) : Spc Tryz.prog 98 [.v (.one (.ptr 0 0)), .v (.one (.p (.int .i64 size))), .v (.one (.p (.str m)))] [.pack [.obj 79 [(.row 1), (.p (.int .i64 n))], .row .upl 70 l]] (.ret (.tup [(.one (.p (.int .i64 ((creI l n size m))))), (.one (.p (.int .i64 ((creC l size m)))))])) [.pack [.obj 79 [(.row 1), (.p (.int .i64 ((creN l n size m))))], .row .upl 70 ((creL l n size m))]] := by
  obtain ⟨hs, hn, hm⟩ := hneed
  have hc := hs.cnt
  have h0 := hs.n0
  generalize hi : creI l n size m = ri
  generalize he : creC l size m = re
  generalize hl : creL l n size m = rl
  generalize hN : creN l n size m = rn
  refine spcG tab_ok mixed Tryz.func98 (by kernel_rfl) { cfgSp with keep := some [0, 1, 2, 6, 7] } [isVisible__k, isVisible__l, cTrim__k, cTrim__l] (by kernel_rfl) ?_
  intro I X hI hX
  refine ev_rule (let y0 := I.few (I.add (I.len (α := Go.Ab.Upl) l) (I.len (α := Go.Ab.Upl) ([(Go.Ab.Upl.mk (I.add n 1) size m ([] : List UInt8) (0 : Int))] : List Go.Ab.Upl))) 100000000; .br (I.ilt size (Neg.neg (1 : Int))) (.fin (.ret (.tup [(.one (.p (.int .i64 0))), (.one (.p (.int .i64 1)))])) [(.pack [(.obj 79 [(.row 1), (.p (.int .i64 n))]), (.row .upl 70 l)])]) (.br (I.ilt 2000 size) (.fin (.ret (.tup [(.one (.p (.int .i64 0))), (.one (.p (.int .i64 4)))])) [(.pack [(.obj 79 [(.row 1), (.p (.int .i64 n))]), (.row .upl 70 l)])]) (.br (I.ilt 100 (I.len (α := UInt8) m)) (.fin (.ret (.tup [(.one (.p (.int .i64 0))), (.one (.p (.int .i64 4)))])) [(.pack [(.obj 79 [(.row 1), (.p (.int .i64 n))]), (.row .upl 70 l)])]) (.need (I.hid (α := (Prop)) (LE.le (List.length m) 1000000)) (.br (I.bnot (I.hid (α := Bool) (seenA m))) (.fin (.ret (.tup [(.one (.p (.int .i64 0))), (.one (.p (.int .i64 3)))])) [(.pack [(.obj 79 [(.row 1), (.p (.int .i64 n))]), (.row .upl 70 l)])]) (.need (I.hid (α := (Prop)) True) (.br (I.bnot (I.seq (I.hid (α := (List UInt8)) (Go.Lib.trimS m ([32, 9] : List UInt8))) m)) (.fin (.ret (.tup [(.one (.p (.int .i64 0))), (.one (.p (.int .i64 3)))])) [(.pack [(.obj 79 [(.row 1), (.p (.int .i64 n))]), (.row .upl 70 l)])]) (.br (I.ieq (I.len (α := Go.Ab.Upl) l) 12) (.fin (.ret (.tup [(.one (.p (.int .i64 0))), (.one (.p (.int .i64 8)))])) [(.pack [(.obj 79 [(.row 1), (.p (.int .i64 n))]), (.row .upl 70 l)])]) (.need (I.inr Go.IntKind.i64 (I.add n 1)) (.both (.need y0 (.fin (.ret (.tup [(.one (.p (.int .i64 (I.add n 1)))), (.one (.p (.int .i64 0)))])) [(.pack [(.obj 79 [(.row 1), (.p (.int .i64 (I.add n 1)))]), (.row .upl 70 (I.app (α := Go.Ab.Upl) l ([(Go.Ab.Upl.mk (I.add n 1) size m ([] : List UInt8) (0 : Int))] : List Go.Ab.Upl)))])])) (.both (.need y0 (.fin (.ret (.tup [(.one (.p (.int .i64 (I.add n 1)))), (.one (.p (.int .i64 0)))])) [(.pack [(.obj 79 [(.row 1), (.p (.int .i64 (I.add n 1)))]), (.row .upl 70 (I.app (α := Go.Ab.Upl) l ([(Go.Ab.Upl.mk (I.add n 1) size m ([] : List UInt8) (0 : Int))] : List Go.Ab.Upl)))])])) (.need y0 (.fin (.ret (.tup [(.one (.p (.int .i64 (I.add n 1)))), (.one (.p (.int .i64 0)))])) [(.pack [(.obj 79 [(.row 1), (.p (.int .i64 (I.add n 1)))]), (.row .upl 70 (I.app (α := Go.Ab.Upl) l ([(Go.Ab.Upl.mk (I.add n 1) size m ([] : List UInt8) (0 : Int))] : List Go.Ab.Upl)))])]))))))))))))) (by kernel_rfl) ?_
  simp only [instL]
  subst hI
  simp only [nrmA, decide_eq_true_eq, decide_eq_false_iff_not, beq_iff_eq, beq_eq_false_iff_ne, Bool.not_eq_true', Bool.not_eq_false', Bool.and_eq_true, Bool.and_true, Bool.true_and, and_true, true_and, ne_eq, Int.toNat_zero, Nat.sub_zero, List.drop_zero, i64_min, i64_max, u8_min, u8_max, ofNat_b2i, b2i_inj, Int.toNat_natCast, Int.ofNat_eq_natCast, UInt8.ofNat_toNat, AOut.ret.injEq, D.v.injEq, D.tup.injEq, V0.one.injEq, C.p.injEq, P.bool.injEq, P.int.injEq, P.str.injEq, Bool.false_eq_true, Bool.true_eq_false, imp_false, Decidable.not_not, not_true_eq_false, not_false_eq_true, List.cons.injEq, P.list.injEq, HO.row.injEq, heq_eq_eq, reduceCtorEq, false_and, and_false, HO.pack.injEq, HO.obj.injEq]
  unfold creI at hi
  unfold creL at hl
  unfold creN at hN
  rw [he] at hi hl hN
  unfold creC at he
  simp only [List.length_cons, List.length_nil]
  (repeat' (first | refine And.intro ?_ ?_ | intro _)) <;> first | omega | exact True.intro | exact False.elim ‹False› | skip
  all_goals ((repeat (first | rewrite [if_pos (by first | omega | assumption | (simp only [*, or_self, or_true, true_or, or_false, false_or, not_true_eq_false, not_false_eq_true, Bool.false_eq_true, Bool.true_eq_false, and_self, and_true, true_and]; done) | (simp only [*]; omega) | (simp [*]; done) | (simp [*]; omega))] at he | rewrite [if_neg (by first | omega | assumption | (simp only [*, or_self, or_true, true_or, or_false, false_or, not_true_eq_false, not_false_eq_true, Bool.false_eq_true, Bool.true_eq_false, and_self, and_true, true_and]; done) | (simp only [*]; omega) | (simp [*]; done) | (simp [*]; omega))] at he)); subst he; ((repeat (first | rewrite [if_pos (by first | omega | assumption | (simp only [*, or_self, or_true, true_or, or_false, false_or, not_true_eq_false, not_false_eq_true, Bool.false_eq_true, Bool.true_eq_false, and_self, and_true, true_and]; done) | (simp only [*]; omega) | (simp [*]; done) | (simp [*]; omega))] at hi | rewrite [if_neg (by first | omega | assumption | (simp only [*, or_self, or_true, true_or, or_false, false_or, not_true_eq_false, not_false_eq_true, Bool.false_eq_true, Bool.true_eq_false, and_self, and_true, true_and]; done) | (simp only [*]; omega) | (simp [*]; done) | (simp [*]; omega))] at hi))); ((repeat (first | rewrite [if_pos (by first | omega | assumption | (simp only [*, or_self, or_true, true_or, or_false, false_or, not_true_eq_false, not_false_eq_true, Bool.false_eq_true, Bool.true_eq_false, and_self, and_true, true_and]; done) | (simp only [*]; omega) | (simp [*]; done) | (simp [*]; omega))] at hl | rewrite [if_neg (by first | omega | assumption | (simp only [*, or_self, or_true, true_or, or_false, false_or, not_true_eq_false, not_false_eq_true, Bool.false_eq_true, Bool.true_eq_false, and_self, and_true, true_and]; done) | (simp only [*]; omega) | (simp [*]; done) | (simp [*]; omega))] at hl))); ((repeat (first | rewrite [if_pos (by first | omega | assumption | (simp only [*, or_self, or_true, true_or, or_false, false_or, not_true_eq_false, not_false_eq_true, Bool.false_eq_true, Bool.true_eq_false, and_self, and_true, true_and]; done) | (simp only [*]; omega) | (simp [*]; done) | (simp [*]; omega))] at hN | rewrite [if_neg (by first | omega | assumption | (simp only [*, or_self, or_true, true_or, or_false, false_or, not_true_eq_false, not_false_eq_true, Bool.false_eq_true, Bool.true_eq_false, and_self, and_true, true_and]; done) | (simp only [*]; omega) | (simp [*]; done) | (simp [*]; omega))] at hN))); subst hi; subst hl; subst hN; first | rfl | omega)
def sCreate__c (I : Alg) (args : List D) (hp : List HO) : Option CT := match args, hp with
  | [.v (.one (.ptr 0 0)), .v (.one (.p (.int .i64 size))), .v (.one (.p (.str m)))], [.pack [.obj 79 [(.row 1), (.p (.int .i64 n))], .row .upl 70 l]] => (fun (l : List Upl) (n size : Int) (m : Str) => (some (.one ⟨I.hid (SplOk l n ∧ n ≤ 1000000 ∧ m.length ≤ 1000000), (.ret (.tup [(.one (.p (.int .i64 (I.hid ((creI l n size m)))))), (.one (.p (.int .i64 (I.hid ((creC l size m))))))])), [.pack [.obj 79 [(.row 1), (.p (.int .i64 (I.hid ((creN l n size m)))))], .row .upl 70 (I.hid ((creL l n size m)))]]⟩) : Option CT)) l n size m
  | _, _ => none
theorem sCreate__g : GoodC Tryz.prog 98 (sCreate__c alg) := by
  intro args hp r h
  unfold sCreate__c at h
  split at h
  · cases h; exact fun hn => sCreate_ _ _ _ _ hn
  · cases h
def sCreate__k : Know Tryz.prog := ⟨98, sCreate__c, sCreate__g⟩
def sCreate__l : Know Tryz.prog := ⟨98, fun I => lendC I (sCreate__c I), lendC_good sCreate__g⟩

theorem sAppend_ (l : List Upl) (n id off : Int) (b : Str) (hneed : SplOk l n ∧ b.length ≤ 1000000) : Spc Tryz.prog 99 [.v (.one (.ptr 0 0)), .v (.one (.p (.int .i64 id))), .v (.one (.p (.int .i64 off))), .v (.one (.p (.list .byte b)))] [.pack [.obj 79 [(.row 1), (.p (.int .i64 n))], .row .upl 70 l]] (.ret (.v (.one (.p (.int .i64 ((appC l id off b))))))) [.pack [.obj 79 [(.row 1), (.p (.int .i64 n))], .row .upl 70 ((appL l id off b))]] := by
  obtain ⟨hs, hb⟩ := hneed
  have hf := spl_few hs
  generalize he : appC l id off b = re
  generalize hl : appL l id off b = rl
  refine spcG tab_ok mixed Tryz.func99 (by kernel_rfl) { cfgSp with bare := [73, 129], keep := some [0, 1, 2, 3, 8, 9, 10, 11] } [sAt__k, sAt__l, sUsedB__k, sUsedB__l, sUsed__k, sUsed__l, concat__k, concat__l] (by kernel_rfl) ?_
  intro I X hI hX
  refine ev_rule (let y0 := I.get (α := Go.Ab.Upl) l (Go.Ab.Upl.mk (0 : Int) (0 : Int) ([] : List UInt8) ([] : List UInt8) (0 : Int)) (I.hid (α := Int) (Nat.cast (atU l id))); let y1 := I.inb (I.hid (α := Int) (Nat.cast (atU l id))) (I.len (α := Go.Ab.Upl) l); let y2 := I.set (α := Go.Ab.Upl) l (I.hid (α := Int) (Nat.cast (atU l id))) (Go.Ab.Upl.mk (Go.Ab.Upl.id y0) (Go.Ab.Upl.size y0) (Go.Ab.Upl.note y0) (List.flatten ([(Go.Ab.Upl.bytes y0), b] : List (List UInt8))) (Go.Ab.Upl.sent y0)); let y3 := I.hid (α := (Prop)) (And (LE.le (List.length (List.flatten ([(Go.Ab.Upl.bytes y0), b] : List (List UInt8)))) 1000000) (LE.le (List.length ([(Go.Ab.Upl.bytes y0), b] : List (List UInt8))) 1000)); let y4 := I.len (α := UInt8) (Go.Ab.Upl.bytes y0); let y5 := I.sub 6000 (I.hid (α := Int) (usedU l)); let y6 := I.hid (α := (Prop)) (And (LE.le (usedU l) (1000000 : Int)) (LE.le (List.length l) 1000000)); .br (I.hid (α := Bool) (Decidable.decide (LT.lt (atU l id) (List.length l)))) (.need (I.hid (α := (Prop)) (And (LE.le (List.length l) 1000000) (LT.lt (atU l id) (List.length l)))) (.br (I.bnot (I.ieq 0 0)) (.fin (.ret (.v (.one (.p (.int .i64 0))))) [(.pack [(.obj 79 [(.row 1), (.p (.int .i64 n))]), (.row .upl 70 l)])]) (.need y1 (.br (I.bnot (I.ieq (Go.Ab.Upl.sent y0) 0)) (.fin (.ret (.v (.one (.p (.int .i64 19))))) [(.pack [(.obj 79 [(.row 1), (.p (.int .i64 n))]), (.row .upl 70 l)])]) (.need y1 (.br (I.bnot (I.ieq off y4)) (.fin (.ret (.v (.one (.p (.int .i64 17))))) [(.pack [(.obj 79 [(.row 1), (.p (.int .i64 n))]), (.row .upl 70 l)])]) (.need y1 (.need (I.inr Go.IntKind.i64 (I.sub 2000 y4)) (.br (I.ilt (I.sub 2000 y4) (I.len (α := UInt8) b)) (.fin (.ret (.v (.one (.p (.int .i64 4))))) [(.pack [(.obj 79 [(.row 1), (.p (.int .i64 n))]), (.row .upl 70 l)])]) (.need y1 (.br (I.ile 0 (Go.Ab.Upl.size y0)) (.need y1 (.need y1 (.need (I.inr Go.IntKind.i64 (I.sub (Go.Ab.Upl.size y0) y4)) (.br (I.ilt (I.sub (Go.Ab.Upl.size y0) y4) (I.len (α := UInt8) b)) (.fin (.ret (.v (.one (.p (.int .i64 4))))) [(.pack [(.obj 79 [(.row 1), (.p (.int .i64 n))]), (.row .upl 70 l)])]) (.need y6 (.need (I.inr Go.IntKind.i64 y5) (.br (I.ilt y5 (I.len (α := UInt8) b)) (.fin (.ret (.v (.one (.p (.int .i64 16))))) [(.pack [(.obj 79 [(.row 1), (.p (.int .i64 n))]), (.row .upl 70 l)])]) (.need y1 (.need y3 (.need y1 (.fin (.ret (.v (.one (.p (.int .i64 0))))) [(.pack [(.obj 79 [(.row 1), (.p (.int .i64 n))]), (.row .upl 70 y2)])]))))))))))) (.need y6 (.need (I.inr Go.IntKind.i64 y5) (.br (I.ilt y5 (I.len (α := UInt8) b)) (.fin (.ret (.v (.one (.p (.int .i64 16))))) [(.pack [(.obj 79 [(.row 1), (.p (.int .i64 n))]), (.row .upl 70 l)])]) (.need y1 (.need y3 (.need y1 (.fin (.ret (.v (.one (.p (.int .i64 0))))) [(.pack [(.obj 79 [(.row 1), (.p (.int .i64 n))]), (.row .upl 70 y2)])])))))))))))))))))) (.need (I.hid (α := (Prop)) (And (LE.le (List.length l) 1000000) (Not (LT.lt (atU l id) (List.length l))))) (.br (I.bnot (I.ieq 10 0)) (.fin (.ret (.v (.one (.p (.int .i64 10))))) [(.pack [(.obj 79 [(.row 1), (.p (.int .i64 n))]), (.row .upl 70 l)])]) (.stop 0)))) (by kernel_rfl) ?_
  simp only [instL]
  subst hI
  simp only [nrmA, decide_eq_true_eq, decide_eq_false_iff_not, beq_iff_eq, beq_eq_false_iff_ne, Bool.not_eq_true', Bool.not_eq_false', Bool.and_eq_true, Bool.and_true, Bool.true_and, and_true, true_and, ne_eq, Int.toNat_zero, Nat.sub_zero, List.drop_zero, i64_min, i64_max, u8_min, u8_max, ofNat_b2i, b2i_inj, Int.toNat_natCast, Int.ofNat_eq_natCast, UInt8.ofNat_toNat, AOut.ret.injEq, D.v.injEq, D.tup.injEq, V0.one.injEq, C.p.injEq, P.bool.injEq, P.int.injEq, P.str.injEq, Bool.false_eq_true, Bool.true_eq_false, imp_false, Decidable.not_not, not_true_eq_false, not_false_eq_true, List.cons.injEq, P.list.injEq, HO.row.injEq, heq_eq_eq, reduceCtorEq, false_and, and_false, HO.pack.injEq, HO.obj.injEq]
  unfold appL at hl
  rw [he] at hl
  unfold appC at he
  unfold uplAt upl0 at he hl
  simp only [List.flatten_cons, List.flatten_nil, List.append_nil, List.length_append, List.length_cons, List.length_nil]
  have hx : atU l id < l.length → _ := fun h => hs.each _ (uplAt_mem h)
  unfold uplAt upl0 at hx
  generalize l.getD (atU l id) ⟨0, 0, [], [], 0⟩ = x at *
  have hu0 := usedU_nonneg l
  have hb1 := fun h => (hx h).bl
  have hb2 := fun h => (hx h).s1
  have hb3 := fun h => (hx h).s2
  (repeat' (first | refine And.intro ?_ ?_ | intro _)) <;> first | omega | exact True.intro | exact False.elim ‹False› | skip
  all_goals first
    | (have := hb1 (by omega); have := hb2 (by omega); have := hb3 (by omega); omega)
    | exact hf.1
    | exact hf.2
    | ((repeat (first | rewrite [if_pos (by first | omega | assumption | (simp only [*, or_self, or_true, true_or, or_false, false_or, not_true_eq_false, not_false_eq_true, Bool.false_eq_true, Bool.true_eq_false, and_self, and_true, true_and]; done) | (simp only [*]; omega) | (simp [*]; done) | (simp [*]; omega))] at he | rewrite [if_neg (by first | omega | assumption | (simp only [*, or_self, or_true, true_or, or_false, false_or, not_true_eq_false, not_false_eq_true, Bool.false_eq_true, Bool.true_eq_false, and_self, and_true, true_and]; done) | (simp only [*]; omega) | (simp [*]; done) | (simp [*]; omega))] at he)); subst he; ((repeat (first | rewrite [if_pos (by first | omega | assumption | (simp only [*, or_self, or_true, true_or, or_false, false_or, not_true_eq_false, not_false_eq_true, Bool.false_eq_true, Bool.true_eq_false, and_self, and_true, true_and]; done) | (simp only [*]; omega) | (simp [*]; done) | (simp [*]; omega))] at hl | rewrite [if_neg (by first | omega | assumption | (simp only [*, or_self, or_true, true_or, or_false, false_or, not_true_eq_false, not_false_eq_true, Bool.false_eq_true, Bool.true_eq_false, and_self, and_true, true_and]; done) | (simp only [*]; omega) | (simp [*]; done) | (simp [*]; omega))] at hl))); subst hl; first | rfl | omega)
def sAppend__c (I : Alg) (args : List D) (hp : List HO) : Option CT := match args, hp with
  | [.v (.one (.ptr 0 0)), .v (.one (.p (.int .i64 id))), .v (.one (.p (.int .i64 off))), .v (.one (.p (.list .byte b)))], [.pack [.obj 79 [(.row 1), (.p (.int .i64 n))], .row .upl 70 l]] => (fun (l : List Upl) (n id off : Int) (b : Str) => (some (.one ⟨I.hid (SplOk l n ∧ b.length ≤ 1000000), (.ret (.v (.one (.p (.int .i64 (I.hid ((appC l id off b)))))))), [.pack [.obj 79 [(.row 1), (.p (.int .i64 n))], .row .upl 70 (I.hid ((appL l id off b)))]]⟩) : Option CT)) l n id off b
  | _, _ => none
theorem sAppend__g : GoodC Tryz.prog 99 (sAppend__c alg) := by
  intro args hp r h
  unfold sAppend__c at h
  split at h
  · cases h; exact fun hn => sAppend_ _ _ _ _ _ hn
  · cases h
def sAppend__k : Know Tryz.prog := ⟨99, sAppend__c, sAppend__g⟩
def sAppend__l : Know Tryz.prog := ⟨99, fun I => lendC I (sAppend__c I), lendC_good sAppend__g⟩
end Go.Proofs.YtjapkdcomcgamaaGreatDoor
