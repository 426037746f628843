/- Uploads: are two lists of them the same? -/
import Derived.Test.YtjapkdcomcgamaaGreatDoorSplC
set_option linter.all false
namespace Go.Proofs.YtjapkdcomcgamaaGreatDoor
open Go Go.Sep Go.Ab
set_option maxRecDepth 100000

theorem upl_ext {a b : Upl} (h1 : a.id = b.id) (h2 : a.size = b.size) (h3 : a.note = b.note) (h4 : a.sent = b.sent) (h5 : a.bytes = b.bytes) : a = b := by
  cases a; cases b; simp_all
theorem list_ext_drop {l m : List Upl} {i : Nat} (h1 : i < l.length) (h2 : i < m.length) : (decide (l.drop i = m.drop i)) = (decide (l.getD i ⟨0, 0, [], [], 0⟩ = m.getD i ⟨0, 0, [], [], 0⟩) && decide (l.drop (i + 1) = m.drop (i + 1))) := by
  have e1 : l.getD i ⟨0, 0, [], [], 0⟩ = l[i] := by simp [h1]
  have e2 : m.getD i ⟨0, 0, [], [], 0⟩ = m[i] := by simp [h2]
  rw [e1, e2, Bool.eq_iff_iff, Bool.and_eq_true, decide_eq_true_iff, decide_eq_true_iff, decide_eq_true_iff, List.drop_eq_getElem_cons h1, List.drop_eq_getElem_cons h2, List.cons.injEq]
set_option maxHeartbeats 4000000 in
theorem sameU_ (l m : List Upl) (hneed : l.length ≤ 1000000 ∧ m.length ≤ 1000000) : Spc Tryz.prog 14 [.v (.one (.row 0)), .v (.one (.row 1))] [.row .upl 70 l, .row .upl 70 m] (.ret (.v (.one (.p (.bool ((decide (l = m)))))))) [.row .upl 70 l, .row .upl 70 m] := by
  obtain ⟨hl, hm⟩ := hneed
  generalize hr : decide (l = m) = r
  refine spcG tab_ok mixed Tryz.func14 (by kernel_rfl) { keep := some [0, 1, 4, 5] } [sameBytes__k, sameBytes__l] (by kernel_rfl) ?_
  intro I X hI hX
  refine ev_rule (.br (I.bnot (I.ieq (I.len (α := Go.Ab.Upl) l) (I.len (α := Go.Ab.Upl) m))) (.fin (.ret (.v (.one (.p (.bool Bool.false))))) [(.row .upl 70 l), (.row .upl 70 m)]) (.code 0 [1, 1, 0, 1, 0] ⟨[(5, (.v (.one (.p (.int .i64 0))))), (4, (.v (.one (.p (.val (.bool .false)))))), (0, (.v (.one (.row 0)))), (1, (.v (.one (.row 1))))], [(.row .upl 70 l), (.row .upl 70 m)], 81, none⟩)) (by kernel_rfl) ?_
  simp only [instL]
  refine ⟨fun c1 => ?_, fun c1 => ?_⟩
  · subst hI
    simp only [nrmA, nrmB] at c1
    simp only [nrmA, nrmB]
    rw [← hr]
    exact (decide_eq_false fun e => c1 (by rw [e])).symm
  have hlm : l.length = m.length := by
    subst hI
    simp only [nrmA, nrmB] at c1
    omega
  refine loop_inv hI tab_ok mixed [sameBytes__k, sameBytes__l] hX [0, 1, 5] (fun (i : Nat) => i ≤ l.length ∧ r = decide (l.drop i = m.drop i)) (fun (i : Nat) => ⟨[(0, .v (.one (.row 0))), (1, .v (.one (.row 1))), (5, .v (.one (.p (.int .i64 i))))], [.row .upl 70 l, .row .upl 70 m], 81, none⟩) (fun (i : Nat) => l.length - i) 0 (by kernel_rfl) (by kernel_rfl) ?_ ?_
  · exact ⟨Nat.zero_le _, hr.symm⟩
  rintro i ⟨h1, h2⟩ A hA
  refine ev_rule (let y0 := I.get (α := Go.Ab.Upl) l (Go.Ab.Upl.mk (0 : Int) (0 : Int) ([] : List UInt8) ([] : List UInt8) (0 : Int)) (Nat.cast i); let y1 := I.get (α := Go.Ab.Upl) m (Go.Ab.Upl.mk (0 : Int) (0 : Int) ([] : List UInt8) ([] : List UInt8) (0 : Int)) (Nat.cast i); let y2 := I.inb (Nat.cast i) (I.len (α := Go.Ab.Upl) l); let y3 := I.inb (Nat.cast i) (I.len (α := Go.Ab.Upl) m); .br (I.ilt (Nat.cast i) (I.len (α := Go.Ab.Upl) l)) (.need y2 (.need y2 (.need y3 (.need y3 (.br (I.bnot (I.ieq (Go.Ab.Upl.id y0) (Go.Ab.Upl.id y1))) (.fin (.ret (.v (.one (.p (.bool Bool.false))))) [(.row .upl 70 l), (.row .upl 70 m)]) (.need y2 (.need y2 (.need y3 (.need y3 (.br (I.bnot (I.ieq (Go.Ab.Upl.size y0) (Go.Ab.Upl.size y1))) (.fin (.ret (.v (.one (.p (.bool Bool.false))))) [(.row .upl 70 l), (.row .upl 70 m)]) (.need y2 (.need y2 (.need y3 (.need y3 (.br (I.bnot (I.seq (Go.Ab.Upl.note y0) (Go.Ab.Upl.note y1))) (.fin (.ret (.v (.one (.p (.bool Bool.false))))) [(.row .upl 70 l), (.row .upl 70 m)]) (.need y2 (.need y2 (.need y3 (.need y3 (.br (I.bnot (I.ieq (Go.Ab.Upl.sent y0) (Go.Ab.Upl.sent y1))) (.fin (.ret (.v (.one (.p (.bool Bool.false))))) [(.row .upl 70 l), (.row .upl 70 m)]) (.need y2 (.need y2 (.need y3 (.need y3 (.need (I.hid (α := (Prop)) True) (.br (I.bnot (I.hid (α := Bool) (BEq.beq (Go.Ab.Upl.bytes y0) (Go.Ab.Upl.bytes y1)))) (.fin (.ret (.v (.one (.p (.bool Bool.false))))) [(.row .upl 70 l), (.row .upl 70 m)]) (.need (I.inr Go.IntKind.i64 (I.add (Nat.cast i) 1)) (.need (A ⟨[(0, (.v (.one (.row 0)))), (1, (.v (.one (.row 1)))), (5, (.v (.one (.p (.int .i64 (I.add (Nat.cast i) 1))))))], [(.row .upl 70 l), (.row .upl 70 m)], 81, none⟩) .qed)))))))))))))))))))))))))))) (.fin (.ret (.v (.one (.p (.bool Bool.true))))) [(.row .upl 70 l), (.row .upl 70 m)])) (by kernel_rfl) ?_
  simp only [instL]
  subst hI
  simp only [nrmA, nrmB, nrlB, reduceCtorEq]
  have hd : i < l.length → _ := fun h => list_ext_drop (l := l) (m := m) (i := i) h (by omega)
  have hend : ¬ i < l.length → r = true := fun h => by
    rw [h2, List.drop_of_length_le (by omega), List.drop_of_length_le (by omega)]; simp
  generalize l.getD i ⟨0, 0, [], [], 0⟩ = x at *
  generalize m.getD i ⟨0, 0, [], [], 0⟩ = y at *
  have hx : ¬ x = y → i < l.length → r = false := fun h hi => by rw [h2, hd hi, decide_eq_false h, Bool.false_and]
  have hy : x = y → i < l.length → r = decide (l.drop (i + 1) = m.drop (i + 1)) := fun h hi => by rw [h2, hd hi, decide_eq_true h, Bool.true_and]
  (repeat' (first | refine And.intro ?_ ?_ | intro _)) <;> first | omega | exact True.intro | exact False.elim ‹False› | skip
  all_goals first
    | (exact (hx (by rintro rfl; simp_all) (by omega)).symm)
    | (rw [hx (by rintro rfl; simp_all) (by omega)])
    | exact hA (i + 1) ⟨by omega, hy (upl_ext (by assumption) (by assumption) (by assumption) (by assumption) (by assumption)) (by omega)⟩ (by omega)
    | (rw [hend (by omega)])
    | omega
def sameU__c (I : Alg) (args : List D) (hp : List HO) : Option CT := match args, hp with
  | [.v (.one (.row 0)), .v (.one (.row 1))], [.row .upl 70 l, .row .upl 70 m] => (fun (l m : List Upl) => (some (.one ⟨I.hid (l.length ≤ 1000000 ∧ m.length ≤ 1000000), (.ret (.v (.one (.p (.bool (I.hid ((decide (l = m))))))))), [.row .upl 70 l, .row .upl 70 m]⟩) : Option CT)) l m
  | _, _ => none
theorem sameU__g : GoodC Tryz.prog 14 (sameU__c alg) := by
  intro args hp r h
  unfold sameU__c at h
  split at h
  · cases h; exact fun hn => sameU_ _ _ hn
  · cases h
def sameU__k : Know Tryz.prog := ⟨14, sameU__c, sameU__g⟩
def sameU__l : Know Tryz.prog := ⟨14, fun I => lendC I (sameU__c I), lendC_good sameU__g⟩

set_option maxHeartbeats 4000000 in
theorem sameUc_ (l m : List Upl) (a b : Int) (hneed : l.length ≤ 1000000 ∧ m.length ≤ 1000000 ∧ 0 ≤ a ∧ a ≤ b ∧ b ≤ m.length) : Spc Tryz.prog 14 [.v (.one (.row 0)), .v (.one (.sub .upl 1 a b))] [.row .upl 70 l, .row .upl 70 m] (.ret (.v (.one (.p (.bool ((decide (l = (m.drop a.toNat).take (b.toNat - a.toNat))))))))) [.row .upl 70 l, .row .upl 70 m] := by
  obtain ⟨hl, hml, ha, hab, hb⟩ := hneed
  obtain ⟨a, rfl⟩ : ∃ x : Nat, a = x := ⟨a.toNat, by omega⟩
  obtain ⟨b, rfl⟩ : ∃ x : Nat, b = x := ⟨b.toNat, by omega⟩
  have hq : ((m.drop a).take (b - a)).length = b - a := by rw [List.length_take, List.length_drop]; omega
  have hqg : ∀ i, i < b - a → ((m.drop a).take (b - a)).getD i ⟨0, 0, [], [], 0⟩ = m.getD (a + i) ⟨0, 0, [], [], 0⟩ := fun i hi => by
    simp only [List.getD_eq_getElem?_getD, List.getElem?_take, List.getElem?_drop, if_pos hi]
  obtain ⟨q, hqe⟩ : ∃ q, q = (m.drop a).take (b - a) := ⟨_, rfl⟩
  rw [← hqe] at hq hqg
  generalize hr0 : decide (l = (m.drop (a : Int).toNat).take ((b : Int).toNat - (a : Int).toNat)) = r
  have hr : decide (l = q) = r := by rw [← hr0]; exact decide_eq_decide.2 (by rw [hqe, Int.toNat_natCast, Int.toNat_natCast])
  refine spcG tab_ok mixed Tryz.func14 (by kernel_rfl) { keep := some [0, 1, 4, 5] } [sameBytes__k, sameBytes__l, sameU__k, sameU__l] (by kernel_rfl) ?_
  intro I X hI hX
  refine ev_rule (.br (I.bnot (I.ieq (I.len (α := Go.Ab.Upl) l) (I.sub (Nat.cast b) (Nat.cast a)))) (.fin (.ret (.v (.one (.p (.bool Bool.false))))) [(.row .upl 70 l), (.row .upl 70 m)]) (.code 0 [1, 1, 0, 1, 0] ⟨[(5, (.v (.one (.p (.int .i64 0))))), (4, (.v (.one (.p (.val (.bool .false)))))), (0, (.v (.one (.row 0)))), (1, (.v (.one (.sub .upl 1 (Nat.cast a) (Nat.cast b)))))], [(.row .upl 70 l), (.row .upl 70 m)], 81, none⟩)) (by kernel_rfl) ?_
  simp only [instL]
  refine ⟨fun c1 => ?_, fun c1 => ?_⟩
  · subst hI
    simp only [nrmA, nrmB] at c1
    simp only [nrmA, nrmB]
    rw [← hr]
    exact (decide_eq_false fun e => c1 (by rw [e, hq]; omega)).symm
  have hlm : l.length = q.length := by
    subst hI
    simp only [nrmA, nrmB] at c1
    omega
  refine loop_inv hI tab_ok mixed [sameBytes__k, sameBytes__l, sameU__k, sameU__l] hX [0, 1, 5] (fun (i : Nat) => i ≤ l.length ∧ r = decide (l.drop i = q.drop i)) (fun (i : Nat) => ⟨[(0, .v (.one (.row 0))), (1, .v (.one (.sub .upl 1 (a : Int) (b : Int)))), (5, .v (.one (.p (.int .i64 i))))], [.row .upl 70 l, .row .upl 70 m], 81, none⟩) (fun (i : Nat) => l.length - i) 0 (by kernel_rfl) (by kernel_rfl) ?_ ?_
  · exact ⟨Nat.zero_le _, hr.symm⟩
  rintro i ⟨h1, h2⟩ A hA
  refine ev_rule (let y0 := I.get (α := Go.Ab.Upl) m (Go.Ab.Upl.mk (0 : Int) (0 : Int) ([] : List UInt8) ([] : List UInt8) (0 : Int)) (I.add (Nat.cast a) (Nat.cast i)); let y1 := I.get (α := Go.Ab.Upl) l (Go.Ab.Upl.mk (0 : Int) (0 : Int) ([] : List UInt8) ([] : List UInt8) (0 : Int)) (Nat.cast i); let y2 := I.inb (Nat.cast i) (I.len (α := Go.Ab.Upl) l); let y3 := I.inb (I.add (Nat.cast a) (Nat.cast i)) (I.len (α := Go.Ab.Upl) m); let y4 := I.inb (Nat.cast i) (I.sub (Nat.cast b) (Nat.cast a)); .br (I.ilt (Nat.cast i) (I.len (α := Go.Ab.Upl) l)) (.need y2 (.need y2 (.need y4 (.need y3 (.br (I.bnot (I.ieq (Go.Ab.Upl.id y1) (Go.Ab.Upl.id y0))) (.fin (.ret (.v (.one (.p (.bool Bool.false))))) [(.row .upl 70 l), (.row .upl 70 m)]) (.need y2 (.need y2 (.need y4 (.need y3 (.br (I.bnot (I.ieq (Go.Ab.Upl.size y1) (Go.Ab.Upl.size y0))) (.fin (.ret (.v (.one (.p (.bool Bool.false))))) [(.row .upl 70 l), (.row .upl 70 m)]) (.need y2 (.need y2 (.need y4 (.need y3 (.br (I.bnot (I.seq (Go.Ab.Upl.note y1) (Go.Ab.Upl.note y0))) (.fin (.ret (.v (.one (.p (.bool Bool.false))))) [(.row .upl 70 l), (.row .upl 70 m)]) (.need y2 (.need y2 (.need y4 (.need y3 (.br (I.bnot (I.ieq (Go.Ab.Upl.sent y1) (Go.Ab.Upl.sent y0))) (.fin (.ret (.v (.one (.p (.bool Bool.false))))) [(.row .upl 70 l), (.row .upl 70 m)]) (.need y2 (.need y2 (.need y4 (.need y3 (.need (I.hid (α := (Prop)) True) (.br (I.bnot (I.hid (α := Bool) (BEq.beq (Go.Ab.Upl.bytes y1) (Go.Ab.Upl.bytes y0)))) (.fin (.ret (.v (.one (.p (.bool Bool.false))))) [(.row .upl 70 l), (.row .upl 70 m)]) (.need (I.inr Go.IntKind.i64 (I.add (Nat.cast i) 1)) (.need (A ⟨[(0, (.v (.one (.row 0)))), (1, (.v (.one (.sub .upl 1 (Nat.cast a) (Nat.cast b))))), (5, (.v (.one (.p (.int .i64 (I.add (Nat.cast i) 1))))))], [(.row .upl 70 l), (.row .upl 70 m)], 81, none⟩) .qed)))))))))))))))))))))))))))) (.fin (.ret (.v (.one (.p (.bool Bool.true))))) [(.row .upl 70 l), (.row .upl 70 m)])) (by kernel_rfl) ?_
  simp only [instL]
  subst hI
  simp only [nrmA, nrmB, nrlB, reduceCtorEq]
  have hd : i < l.length → _ := fun h => list_ext_drop (l := l) (m := q) (i := i) h (by omega)
  have hend : ¬ i < l.length → r = true := fun h => by
    rw [h2, List.drop_of_length_le (by omega), List.drop_of_length_le (by omega)]; simp
  have hqi : i < l.length → q.getD i ⟨0, 0, [], [], 0⟩ = m.getD (a + i) ⟨0, 0, [], [], 0⟩ := fun h => hqg i (by omega)
  rw [show ((a : Int) + (i : Int)).toNat = a + i by omega]
  generalize l.getD i ⟨0, 0, [], [], 0⟩ = x at *
  generalize q.getD i ⟨0, 0, [], [], 0⟩ = y0 at *
  generalize m.getD (a + i) ⟨0, 0, [], [], 0⟩ = y at *
  have hx : ¬ x = y → i < l.length → r = false := fun h hi => by rw [h2, hd hi, hqi hi, decide_eq_false h, Bool.false_and]
  have hy : x = y → i < l.length → r = decide (l.drop (i + 1) = q.drop (i + 1)) := fun h hi => by rw [h2, hd hi, hqi hi, decide_eq_true h, Bool.true_and]
  (repeat' (first | refine And.intro ?_ ?_ | intro _)) <;> first | omega | exact True.intro | exact False.elim ‹False› | skip
  all_goals first
    | (exact (hx (by rintro rfl; simp_all) (by omega)).symm)
    | (rw [hx (by rintro rfl; simp_all) (by omega)])
    | exact hA (i + 1) ⟨by omega, hy (upl_ext (by assumption) (by assumption) (by assumption) (by assumption) (by assumption)) (by omega)⟩ (by omega)
    | (rw [hend (by omega)])
    | omega
def sameUc__c (I : Alg) (args : List D) (hp : List HO) : Option CT := match args, hp with
  | [.v (.one (.row 0)), .v (.one (.sub .upl 1 a b))], [.row .upl 70 l, .row .upl 70 m] => (fun (l m : List Upl) (a b : Int) => (some (.one ⟨I.hid (l.length ≤ 1000000 ∧ m.length ≤ 1000000 ∧ 0 ≤ a ∧ a ≤ b ∧ b ≤ m.length), (.ret (.v (.one (.p (.bool (I.hid ((decide (l = (m.drop a.toNat).take (b.toNat - a.toNat)))))))))), [.row .upl 70 l, .row .upl 70 m]⟩) : Option CT)) l m a b
  | _, _ => none
theorem sameUc__g : GoodC Tryz.prog 14 (sameUc__c alg) := by
  intro args hp r h
  unfold sameUc__c at h
  split at h
  · cases h; exact fun hn => sameUc_ _ _ _ _ hn
  · cases h
def sameUc__k : Know Tryz.prog := ⟨14, sameUc__c, sameUc__g⟩
def sameUc__l : Know Tryz.prog := ⟨14, fun I => lendC I (sameUc__c I), lendC_good sameUc__g⟩
end Go.Proofs.YtjapkdcomcgamaaGreatDoor
