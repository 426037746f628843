/- A log's entries: Decode and its reference, the walks. -/
import Derived.Test.YtjapkdcomcgamaaGreatDoorJrnB
set_option linter.all false
namespace Go.Proofs.YtjapkdcomcgamaaGreatDoor
open Go Go.Sep Go.Ab Go.Jrn
set_option maxRecDepth 100000

theorem numK_le : ∀ (l : Str) (i : Nat), numK i l ≤ i + l.length ∧ i ≤ numK i l
  | [], i => by simp [numK]
  | c :: r, i => by
    rw [numK]
    split
    · simp
    · split
      · simp
      · have := numK_le r (i + 1); simp; omega
theorem numAt_ok {s : Str} (h : (num s).2.2 = true) : numAt s = ((num s).1, ((numK 0 s : Nat) : Int)) ∧ (num s).2.1 = s.drop (numK 0 s) ∧ 1 ≤ numK 0 s ∧ numK 0 s ≤ s.length := by
  obtain ⟨h1, h2⟩ := numF_rest s 0 0 s rfl h
  have := numK_le s 0
  exact ⟨by unfold numAt; rw [if_pos h], h1, h2, by omega⟩
theorem numAt_no {s : Str} (h : (num s).2.2 = false) : numAt s = (0, 0) := by unfold numAt; rw [if_neg (by rw [h]; decide)]

def usedM (b : Str) : Int := (b.length : Int) - ((dec b).2.length : Int)
theorem decode_ (b : Str) (hneed : b.length ≤ 50000000) : Spc Tryz.prog 70 [.v (.one (.p (.list .byte b)))] [] (.ret (.tup [(.one (.row 0)), (.one (.p (.int .i64 (usedM b))))])) [.row .ent 97 (((dec b).1))] := by
  refine spcG tab_ok mixed Tryz.func70 (by kernel_rfl) { nr := [4], keep := some [0, 2, 3, 4, 5, 6, 7, 8] } [jone__k, jone__l] (by kernel_rfl) ?_
  intro I X hI hX
  refine ev_rule (.code 0 [1, 1, 1, 0] ⟨[(5, (.v (.one (.p (.list .byte b))))), (4, (.v (.one (.row 0)))), (3, (.v (.one (.p (.int .i64 0))))), (2, (.v (.one .nilS))), (0, (.v (.one (.p (.list .byte b)))))], [(.row .ent 97 ([] : List Go.Ab.Ent))], 29, none⟩) (by kernel_rfl) ?_
  simp only [instL]
  generalize hd1 : (dec b).1 = d1
  generalize hd2 : usedM b = d2
  refine loop_inv hI tab_ok mixed [jone__k, jone__l] hX [0, 4, 5] (fun (g : List Ent × Str) => match g with | (out, rest) => out ++ (dec rest).1 = d1 ∧ (dec rest).2 = (dec b).2 ∧ out.length + rest.length ≤ b.length) (fun (g : List Ent × Str) => match g with | (out, rest) => ⟨[(0, .v (.one (.p (.list .byte b)))), (4, .v (.one (.row 0))), (5, .v (.one (.p (.list .byte rest))))], [.row .ent 97 out], 29, none⟩) (fun (g : List Ent × Str) => match g with | (out, rest) => rest.length) ([], b) (by kernel_rfl) (by kernel_rfl) ?_ ?_
  · exact ⟨hd1, rfl, by simp⟩
  rintro ⟨out, rest⟩ ⟨h1, h2, h3⟩ A hA
  simp only at hA
  refine ev_rule (let y0 := I.hid (α := (List UInt8)) (Go.Ab.Ent.text (Prod.fst (Go.Jrn.oneX rest))); let y1 := I.hid (α := Int) (Go.Ab.Ent.kind (Prod.fst (Go.Jrn.oneX rest))); let y2 := I.hid (α := Int) (Go.Ab.Ent.id (Prod.fst (Go.Jrn.oneX rest))); let y3 := I.hid (α := Int) (Go.Ab.Ent.n (Prod.fst (Go.Jrn.oneX rest))); let y4 := I.sub (I.len (α := UInt8) b) (I.len (α := UInt8) rest); .need (I.hid (α := (Prop)) (LE.le (List.length rest) 100000000)) (.br (I.bnot (I.hid (α := Bool) (Prod.snd (Prod.snd (Go.Jrn.oneX rest))))) (.need (I.inr Go.IntKind.i64 y4) (.fin (.ret (.tup [(.one (.row 0)), (.one (.p (.int .i64 y4)))])) [(.row .ent 97 out)])) (.need (I.few (I.add (I.len (α := Go.Ab.Ent) out) (I.len (α := Go.Ab.Ent) ([(Go.Ab.Ent.mk y1 y2 y3 y0)] : List Go.Ab.Ent))) 100000000) (.need (A ⟨[(0, (.v (.one (.p (.list .byte b))))), (4, (.v (.one (.row 0)))), (5, (.v (.one (.p (.list .byte (I.hid (α := (List UInt8)) (Prod.fst (Prod.snd (Go.Jrn.oneX rest)))))))))], [(.row .ent 97 (I.app (α := Go.Ab.Ent) out ([(Go.Ab.Ent.mk y1 y2 y3 y0)] : List Go.Ab.Ent)))], 29, none⟩) .qed)))) (by kernel_rfl) ?_
  simp only [instL]
  subst hI
  simp only [nrmA, nrmB, nrlB, reduceCtorEq]
  have hone : (oneX rest).2.2 = true → oneM rest = some ((oneX rest).1, (oneX rest).2.1) := fun h => by rw [oneM, if_pos h]
  have hnone : (oneX rest).2.2 = false → oneM rest = none := fun h => by rw [oneM, if_neg (by rw [h]; decide)]
  refine ⟨by omega, fun h => ?_, fun h => ?_⟩
  · rw [dec_none (hnone h)] at h1 h2
    refine ⟨by omega, ?_, by simpa using h1⟩
    rw [← hd2, usedM, ← h2]
  · have hx := dec_some (hone h)
    have hlt := oneX_lt h
    refine ⟨by simp only [List.length_cons, List.length_nil]; omega, hA (out ++ [(oneX rest).1], (oneX rest).2.1) ⟨?_, ?_, ?_⟩ hlt⟩
    · rw [← h1, hx, List.append_assoc]; rfl
    · rw [← h2, hx]
    · simp only [List.length_append, List.length_cons, List.length_nil]; omega
def decode__c (I : Alg) (args : List D) (hp : List HO) : Option CT := match args, hp with
  | [.v (.one (.p (.list .byte b)))], [] => (fun (b : Str) => (some (.one ⟨I.hid (b.length ≤ 50000000), (.ret (.tup [(.one (.row 0)), (.one (.p (.int .i64 (I.hid (usedM b)))))])), [.row .ent 97 (I.hid (((dec b).1)))]⟩) : Option CT)) b
  | _, _ => none
theorem decode__g : GoodC Tryz.prog 70 (decode__c alg) := by
  intro args hp r h
  unfold decode__c at h
  split at h
  · cases h; exact fun hn => decode_ _ hn
  · cases h
def decode__k : Know Tryz.prog := ⟨70, decode__c, decode__g⟩
def decode__l : Know Tryz.prog := ⟨70, fun I => lendC I (decode__c I), lendC_good decode__g⟩

theorem entries_ (b : Str) (hneed : b.length ≤ 1000000) : Spc Tryz.prog 78 [.v (.one (.p (.list .byte b)))] [] (.ret (.tup [(.one (.row 0)), (.one (.p (.int .i64 (usedM b))))])) [.row .ent 109 (((dec b).1))] := by
  refine spcG tab_ok mixed Tryz.func78 (by kernel_rfl) { nr := [4], keep := some [0, 2, 3, 4, 5, 6, 7, 8, 9, 10, 11, 12, 13, 14, 15, 17] } [numberAt__k, numberAt__l, entryBytes__k, entryBytes__l] (by kernel_rfl) ?_
  intro I X hI hX
  refine ev_rule (.code 0 [1, 1, 1, 0] ⟨[(5, (.v (.one (.p (.int .i64 0))))), (4, (.v (.one (.row 0)))), (3, (.v (.one (.p (.int .i64 0))))), (2, (.v (.one .nilS))), (0, (.v (.one (.p (.list .byte b)))))], [(.row .ent 109 ([] : List Go.Ab.Ent))], 104, none⟩) (by kernel_rfl) ?_
  simp only [instL]
  generalize hd1 : (dec b).1 = d1
  generalize hd2 : usedM b = d2
  refine loop_inv hI tab_ok mixed [numberAt__k, numberAt__l, entryBytes__k, entryBytes__l] hX [0, 4, 5] (fun (g : List Ent × Nat) => match g with | (out, at1) => out ++ (dec (b.drop at1)).1 = d1 ∧ (dec (b.drop at1)).2 = (dec b).2 ∧ out.length ≤ at1 ∧ at1 ≤ b.length) (fun (g : List Ent × Nat) => match g with | (out, at1) => ⟨[(0, .v (.one (.p (.list .byte b)))), (4, .v (.one (.row 0))), (5, .v (.one (.p (.int .i64 at1))))], [.row .ent 109 out], 104, none⟩) (fun (g : List Ent × Nat) => match g with | (out, at1) => b.length - at1) ([], 0) (by kernel_rfl) (by kernel_rfl) ?_ ?_
  · exact ⟨hd1, rfl, Nat.le_refl _, Nat.zero_le _⟩
  rintro ⟨out, at1⟩ ⟨h1, h2, h3, h4⟩ A hA
  simp only at hA
  refine ev_rule (let y0 := I.hid (α := Int) (Prod.snd (numAt (I.cut (α := UInt8) b (Int.ofNat at1) (I.len (α := UInt8) b)))); let y1 := I.hid (α := Int) (Prod.fst (numAt (I.cut (α := UInt8) b (Int.ofNat at1) (I.len (α := UInt8) b)))); let y2 := I.sub (I.len (α := UInt8) b) (Nat.cast at1); let y3 := I.add (I.add (Nat.cast at1) y0) y1; let y4 := I.inr Go.IntKind.i64 (I.add (Nat.cast at1) y0); .need (I.cutb (Int.ofNat at1) (I.len (α := UInt8) b) (I.len (α := UInt8) b)) (.need (I.hid (α := (Prop)) True) (.br (I.ieq y0 0) (.fin (.ret (.tup [(.one (.row 0)), (.one (.p (.int .i64 (Nat.cast at1))))])) [(.row .ent 109 out)]) (.br (I.ilt y1 0) (.fin (.ret (.tup [(.one (.row 0)), (.one (.p (.int .i64 (Nat.cast at1))))])) [(.row .ent 109 out)]) (.need (I.inr Go.IntKind.i64 y2) (.need (I.inr Go.IntKind.i64 (I.sub y2 y0)) (.br (I.ilt (I.sub y2 y0) y1) (.fin (.ret (.tup [(.one (.row 0)), (.one (.p (.int .i64 (Nat.cast at1))))])) [(.row .ent 109 out)]) (.need y4 (.need y4 (.need (I.inr Go.IntKind.i64 y3) (.need (I.cutb (I.add (Nat.cast at1) y0) y3 (I.len (α := UInt8) b)) (.code 0 [0, 1, 1, 1, 1, 1, 0, 1, 0] ⟨[(11, (.v (.one (.p (.int .i64 0))))), (10, (.v (.one (.p (.int .i64 0))))), (9, (.v (.one (.ptr 1 0)))), (8, (.v (.one (.p (.list .byte (I.cut (α := UInt8) b (I.add (Nat.cast at1) y0) y3)))))), (7, (.v (.one (.p (.int .i64 y0))))), (6, (.v (.one (.p (.int .i64 y1))))), (0, (.v (.one (.p (.list .byte b))))), (4, (.v (.one (.row 0)))), (5, (.v (.one (.p (.int .i64 (Nat.cast at1))))))], [(.row .ent 109 out), (.obj 133 [(.p (.int .i64 0)), (.p (.int .i64 0)), (.p (.int .i64 0))])], 104, none⟩)))))))))))) (by kernel_rfl) ?_
  simp only [instL]
  have hs : I.cut (α := UInt8) b (Int.ofNat at1) (I.len (α := UInt8) b) = b.drop at1 := by
    rw [hI]; simp only [nrmA, nrmB]; rw [List.take_of_length_le (by simp)]
  rw [hs]
  have hsl : (b.drop at1).length = b.length - at1 := List.length_drop ..
  generalize hsd : b.drop at1 = s at *
  have hfin : oneM s = none → (at1 : Int) = d2 ∧ out = d1 := by
    intro h
    rw [dec_none h] at h1 h2
    refine ⟨?_, by simpa using h1⟩
    rw [← hd2, usedM, ← h2]; simp only; omega
  refine ⟨(by rw [hI]; simp only [nrmA, nrmB]; omega), (by rw [hI]; trivial), fun c1 => ?_, fun c1 => ⟨fun c2 => ?_, fun c2 => ⟨?_, ?_, fun c3 => ?_, fun c3 => ?_⟩⟩⟩
  · have hno : oneM s = none := by
      cases h : (num s).2.2 with
      | false => exact oneM_no h
      | true =>
        obtain ⟨n1, n2, n3, n4⟩ := numAt_ok h
        rw [n1] at c1
        rw [hI] at c1; simp only [nrmA, nrmB] at c1
        omega
    obtain ⟨f1, f2⟩ := hfin hno
    rw [f1, f2]; exact ⟨rfl, rfl⟩
  · rw [hI] at c2; simp only [nrmA, nrmB] at c2
    have hno : oneM s = none := by
      cases h : (num s).2.2 with
      | false => exact oneM_no h
      | true =>
        obtain ⟨n1, n2, n3, n4⟩ := numAt_ok h
        rw [n1] at c2
        exact oneM_neg (.inl c2)
    obtain ⟨f1, f2⟩ := hfin hno
    rw [f1, f2]; exact ⟨rfl, rfl⟩
  · rw [hI]; simp only [nrmA, nrmB]; omega
  · rw [hI]; simp only [nrmA, nrmB]
    cases h : (num s).2.2 with
    | false => rw [numAt_no h]; omega
    | true => obtain ⟨n1, n2, n3, n4⟩ := numAt_ok h; rw [n1]; omega
  · rw [hI] at c1; simp only [nrmA, nrmB] at c1
    rw [hI] at c2; simp only [nrmA, nrmB] at c2
    rw [hI] at c3; simp only [nrmA, nrmB] at c3
    have hno : oneM s = none := by
      cases h : (num s).2.2 with
      | false => exact oneM_no h
      | true =>
        obtain ⟨n1, n2, n3, n4⟩ := numAt_ok h
        rw [n1] at c3
        simp only at c3
        exact oneM_neg (.inr (by rw [n2, List.length_drop]; omega))
    obtain ⟨f1, f2⟩ := hfin hno
    rw [f1, f2]; exact ⟨rfl, rfl⟩
  rw [hI] at c1; simp only [nrmA, nrmB] at c1
  rw [hI] at c2; simp only [nrmA, nrmB] at c2
  rw [hI] at c3; simp only [nrmA, nrmB] at c3
  have hok : (num s).2.2 = true := by
    cases h : (num s).2.2 with
    | true => rfl
    | false => rw [numAt_no h] at c1; exact (c1 rfl).elim
  obtain ⟨n1, n2, n3, n4⟩ := numAt_ok hok
  generalize numK 0 s = k at *
  rw [n1] at c1 c2 c3 ⊢
  simp only at c1 c2 c3 ⊢
  have hnum : num s = ((num s).1, s.drop k, true) := by rw [← n2, ← hok]
  generalize hv : (num s).1 = v at *
  obtain ⟨v, rfl⟩ := Int.eq_ofNat_of_zero_le (show 0 ≤ v by omega)
  have hin : I.cut (α := UInt8) b (I.add (at1 : Int) (I.hid (α := Int) (k : Int))) (I.add (I.add (at1 : Int) (I.hid (α := Int) (k : Int))) (I.hid (α := Int) (v : Int))) = (s.drop k).take v := by
    rw [hI, ← hsd]; simp only [nrmA, nrmB]
    rw [List.drop_drop, show ((at1 : Int) + (k : Int)).toNat = at1 + k by omega, show ((at1 : Int) + (k : Int) + (v : Int)).toNat - (at1 + k) = v by omega]
  rw [hin]
  refine ⟨(by rw [hI]; simp only [nrmA, nrmB]; omega), (by rw [hI]; simp only [nrmA, nrmB]; omega), (by rw [hI]; simp only [nrmA, nrmB]; omega), (by rw [hI]; simp only [nrmA, nrmB]; omega), ?_⟩
  have hil : ((s.drop k).take v).length = v := by rw [List.length_take, List.length_drop]; omega
  have hx : oneX s = (match three ((s.drop k).take v) with | some (a, i, m, t) => (⟨a, i, m, t⟩, s.drop (k + v), mayM ⟨a, i, m, t⟩) | none => (⟨0, 0, 0, []⟩, [], false)) := by
    unfold oneX
    rw [hnum]
    simp only
    rw [if_neg (by rw [List.length_drop]; omega), Int.toNat_natCast, List.drop_drop]
    cases three ((s.drop k).take v) <;> rfl
  generalize hib : (s.drop k).take v = inn at *
  refine loop_inv hI tab_ok mixed [numberAt__k, numberAt__l, entryBytes__k, entryBytes__l] hX [0, 4, 5, 6, 7, 8, 9, 10, 11] (fun (g : Nat × Nat × Int × Int × Int) => match g with | (j, i, a, c, d) => j ≤ 3 ∧ i ≤ inn.length ∧ thr j a c d (inn.drop i) = three inn) (fun (g : Nat × Nat × Int × Int × Int) => match g with | (j, i, a, c, d) => ⟨[(0, .v (.one (.p (.list .byte b)))), (4, .v (.one (.row 0))), (5, .v (.one (.p (.int .i64 at1)))), (6, .v (.one (.p (.int .i64 ((I.hid (α := Int) (v : Int))))))), (7, .v (.one (.p (.int .i64 ((I.hid (α := Int) (k : Int))))))), (8, .v (.one (.p (.list .byte inn)))), (9, .v (.one (.ptr 1 0))), (10, .v (.one (.p (.int .i64 i)))), (11, .v (.one (.p (.int .i64 j))))], [.row .ent 109 out, .pack [.obj 133 [(.p (.int .i64 a)), (.p (.int .i64 c)), (.p (.int .i64 d))]]], 104, none⟩) (fun (g : Nat × Nat × Int × Int × Int) => match g with | (j, i, a, c, d) => 3 - j) (0, 0, 0, 0, 0) (by kernel_rfl) (by kernel_rfl) ?_ ?_
  · exact ⟨Nat.zero_le _, Nat.zero_le _, rfl⟩
  rintro ⟨j, i, a, c, d⟩ ⟨hj, hi, hthr⟩ B hB
  simp only at hB
  have hs2 : I.cut (α := UInt8) inn (Int.ofNat i) (I.len (α := UInt8) inn) = inn.drop i := by
    rw [hI]; simp only [nrmA, nrmB]; rw [List.take_of_length_le (by simp)]
  have hs3 : I.cut (α := UInt8) inn (i : Int) (I.len (α := UInt8) inn) = inn.drop i := hs2
  have hrl : (inn.drop i).length = inn.length - i := List.length_drop ..
  generalize hrd : inn.drop i = r at *
  have hu : j < 3 → ∀ e : (num r).2.2 = false, oneM s = none := by
    intro h e
    have e2 : num r = ((num r).1, (num r).2.1, false) := by rw [← e]
    have e3 : thr j a c d r = none := by
      rcases (show j = 0 ∨ j = 1 ∨ j = 2 by omega) with rfl | rfl | rfl
      · rw [thr, three, e2]
      · rw [thr, e2]
      · rw [thr, e2]
    rw [hthr] at e3
    rw [oneM, hx, e3]; rfl
  have hcase : (num r).2.2 = false ∧ numAt r = (0, 0) ∨ (∃ w u, numAt r = (u, ((w : Nat) : Int)) ∧ 1 ≤ w ∧ w ≤ r.length ∧ num r = (u, r.drop w, true)) := by
    cases h : (num r).2.2 with
    | false => exact .inl ⟨rfl, numAt_no h⟩
    | true =>
      obtain ⟨q1, q2, q3, q4⟩ := numAt_ok h
      exact .inr ⟨numK 0 r, (num r).1, q1, q3, q4, by rw [← q2, ← h]⟩
  rcases (show j = 0 ∨ j = 1 ∨ j = 2 ∨ j = 3 by omega) with rfl | rfl | rfl | rfl
  · refine ev_rule (let y0 := I.cut (α := UInt8) inn (Int.ofNat i) (I.len (α := UInt8) inn); let y1 := I.add (I.hid (α := Int) (Nat.cast k)) (I.hid (α := Int) (Nat.cast v)); let y2 := I.few (I.add (I.len (α := Go.Ab.Ent) out) (I.len (α := Go.Ab.Ent) ([(Go.Ab.Ent.mk a c d y0)] : List Go.Ab.Ent))) 100000000; let y3 := I.hid (α := Int) (Prod.snd (numAt y0)); let y4 := I.bnot (I.ieq (I.hid (α := Int) (Go.Jrn.encC (Go.Ab.Ent.mk a c d y0))) 0); let y5 := I.cutb (Int.ofNat i) (I.len (α := UInt8) inn) (I.len (α := UInt8) inn); let y6 := I.inr Go.IntKind.i64 (I.add (Nat.cast at1) y1); let y7 := I.few (I.len (α := UInt8) y0) 140737488355328; .br (I.ilt (Nat.cast 0) 3) (.need y5 (.need (I.hid (α := (Prop)) True) (.br (I.ieq y3 0) (.fin (.ret (.tup [(.one (.row 0)), (.one (.p (.int .i64 (Nat.cast at1))))])) [(.row .ent 109 out)]) (.need (I.inr Go.IntKind.i64 (I.add (Nat.cast i) y3)) (.need (I.inr Go.IntKind.i64 (I.add (Nat.cast 0) 1)) (.need (B ⟨[(0, (.v (.one (.p (.list .byte b))))), (4, (.v (.one (.row 0)))), (5, (.v (.one (.p (.int .i64 (Nat.cast at1)))))), (6, (.v (.one (.p (.int .i64 (I.hid (α := Int) (Nat.cast v))))))), (7, (.v (.one (.p (.int .i64 (I.hid (α := Int) (Nat.cast k))))))), (8, (.v (.one (.p (.list .byte inn))))), (9, (.v (.one (.ptr 1 0)))), (10, (.v (.one (.p (.int .i64 (I.add (Nat.cast i) y3)))))), (11, (.v (.one (.p (.int .i64 (I.add (Nat.cast 0) 1))))))], [(.row .ent 109 out), (.pack [(.obj 133 [(.p (.int .i64 (I.hid (α := Int) (Prod.fst (numAt y0))))), (.p (.int .i64 c)), (.p (.int .i64 d))])])], 104, none⟩) .qed)))))) (.need y5 (.both (.need y7 (.need (I.hid (α := (Prop)) True) (.br y4 (.fin (.ret (.tup [(.one (.row 0)), (.one (.p (.int .i64 (Nat.cast at1))))])) [(.row .ent 109 out)]) (.need y2 (.need (I.inr Go.IntKind.i64 y1) (.need y6 (.need (A ⟨[(0, (.v (.one (.p (.list .byte b))))), (4, (.v (.one (.row 0)))), (5, (.v (.one (.p (.int .i64 (I.add (Nat.cast at1) y1))))))], [(.row .ent 109 (I.app (α := Go.Ab.Ent) out ([(Go.Ab.Ent.mk a c d y0)] : List Go.Ab.Ent)))], 104, none⟩) .qed))))))) (.need y7 (.need (I.hid (α := (Prop)) True) (.br y4 (.fin (.ret (.tup [(.one (.row 0)), (.one (.p (.int .i64 (Nat.cast at1))))])) [(.row .ent 109 out)]) (.need y2 (.need (I.inr Go.IntKind.i64 y1) (.need y6 (.need (A ⟨[(0, (.v (.one (.p (.list .byte b))))), (4, (.v (.one (.row 0)))), (5, (.v (.one (.p (.int .i64 (I.add (Nat.cast at1) y1))))))], [(.row .ent 109 (I.app (α := Go.Ab.Ent) out ([(Go.Ab.Ent.mk a c d y0)] : List Go.Ab.Ent)))], 104, none⟩) .qed)))))))))) (by kernel_rfl) ?_
    simp only [instL]
    rw [hs2]
    subst hI
    rcases hcase with ⟨q1, q2⟩ | ⟨w, u, q1, q2, q3, q4⟩
    · obtain ⟨f1, f2⟩ := hfin (hu (by omega) q1)
      rw [q2]
      simp only [nrmA, nrmB, nrlB, reduceCtorEq]
      exact ⟨fun _ => ⟨by omega, fun _ => ⟨f1, f2⟩, fun h => h.elim⟩, fun h => (h (by omega)).elim⟩
    · rw [q1]
      simp only [nrmA, nrmB, nrlB, reduceCtorEq]
      refine ⟨fun _ => ⟨by omega, fun h => (by omega), fun _ => ⟨by omega, by omega, ?_⟩⟩, fun h => (h (by omega)).elim⟩
      refine hB (1, i + w, u, c, d) ⟨by omega, (show i + w ≤ inn.length by omega), ?_⟩ (by simp only; omega)
      rw [← List.drop_drop, hrd, ← hthr]
      rw [thr, thr, three, q4]
  · refine ev_rule (let y0 := I.cut (α := UInt8) inn (Int.ofNat i) (I.len (α := UInt8) inn); let y1 := I.add (I.hid (α := Int) (Nat.cast k)) (I.hid (α := Int) (Nat.cast v)); let y2 := I.few (I.add (I.len (α := Go.Ab.Ent) out) (I.len (α := Go.Ab.Ent) ([(Go.Ab.Ent.mk a c d y0)] : List Go.Ab.Ent))) 100000000; let y3 := I.hid (α := Int) (Prod.snd (numAt y0)); let y4 := I.bnot (I.ieq (I.hid (α := Int) (Go.Jrn.encC (Go.Ab.Ent.mk a c d y0))) 0); let y5 := I.cutb (Int.ofNat i) (I.len (α := UInt8) inn) (I.len (α := UInt8) inn); let y6 := I.inr Go.IntKind.i64 (I.add (Nat.cast at1) y1); let y7 := I.few (I.len (α := UInt8) y0) 140737488355328; .br (I.ilt (Nat.cast 1) 3) (.need y5 (.need (I.hid (α := (Prop)) True) (.br (I.ieq y3 0) (.fin (.ret (.tup [(.one (.row 0)), (.one (.p (.int .i64 (Nat.cast at1))))])) [(.row .ent 109 out)]) (.need (I.inr Go.IntKind.i64 (I.add (Nat.cast i) y3)) (.need (I.inr Go.IntKind.i64 (I.add (Nat.cast 1) 1)) (.need (B ⟨[(0, (.v (.one (.p (.list .byte b))))), (4, (.v (.one (.row 0)))), (5, (.v (.one (.p (.int .i64 (Nat.cast at1)))))), (6, (.v (.one (.p (.int .i64 (I.hid (α := Int) (Nat.cast v))))))), (7, (.v (.one (.p (.int .i64 (I.hid (α := Int) (Nat.cast k))))))), (8, (.v (.one (.p (.list .byte inn))))), (9, (.v (.one (.ptr 1 0)))), (10, (.v (.one (.p (.int .i64 (I.add (Nat.cast i) y3)))))), (11, (.v (.one (.p (.int .i64 (I.add (Nat.cast 1) 1))))))], [(.row .ent 109 out), (.pack [(.obj 133 [(.p (.int .i64 a)), (.p (.int .i64 (I.hid (α := Int) (Prod.fst (numAt y0))))), (.p (.int .i64 d))])])], 104, none⟩) .qed)))))) (.need y5 (.both (.need y7 (.need (I.hid (α := (Prop)) True) (.br y4 (.fin (.ret (.tup [(.one (.row 0)), (.one (.p (.int .i64 (Nat.cast at1))))])) [(.row .ent 109 out)]) (.need y2 (.need (I.inr Go.IntKind.i64 y1) (.need y6 (.need (A ⟨[(0, (.v (.one (.p (.list .byte b))))), (4, (.v (.one (.row 0)))), (5, (.v (.one (.p (.int .i64 (I.add (Nat.cast at1) y1))))))], [(.row .ent 109 (I.app (α := Go.Ab.Ent) out ([(Go.Ab.Ent.mk a c d y0)] : List Go.Ab.Ent)))], 104, none⟩) .qed))))))) (.need y7 (.need (I.hid (α := (Prop)) True) (.br y4 (.fin (.ret (.tup [(.one (.row 0)), (.one (.p (.int .i64 (Nat.cast at1))))])) [(.row .ent 109 out)]) (.need y2 (.need (I.inr Go.IntKind.i64 y1) (.need y6 (.need (A ⟨[(0, (.v (.one (.p (.list .byte b))))), (4, (.v (.one (.row 0)))), (5, (.v (.one (.p (.int .i64 (I.add (Nat.cast at1) y1))))))], [(.row .ent 109 (I.app (α := Go.Ab.Ent) out ([(Go.Ab.Ent.mk a c d y0)] : List Go.Ab.Ent)))], 104, none⟩) .qed)))))))))) (by kernel_rfl) ?_
    simp only [instL]
    rw [hs2]
    subst hI
    rcases hcase with ⟨q1, q2⟩ | ⟨w, u, q1, q2, q3, q4⟩
    · obtain ⟨f1, f2⟩ := hfin (hu (by omega) q1)
      rw [q2]
      simp only [nrmA, nrmB, nrlB, reduceCtorEq]
      exact ⟨fun _ => ⟨by omega, fun _ => ⟨f1, f2⟩, fun h => h.elim⟩, fun h => (h (by omega)).elim⟩
    · rw [q1]
      simp only [nrmA, nrmB, nrlB, reduceCtorEq]
      refine ⟨fun _ => ⟨by omega, fun h => (by omega), fun _ => ⟨by omega, by omega, ?_⟩⟩, fun h => (h (by omega)).elim⟩
      refine hB (2, i + w, a, u, d) ⟨by omega, (show i + w ≤ inn.length by omega), ?_⟩ (by simp only; omega)
      rw [← List.drop_drop, hrd, ← hthr]
      rw [thr, thr, q4]
  · refine ev_rule (let y0 := I.cut (α := UInt8) inn (Int.ofNat i) (I.len (α := UInt8) inn); let y1 := I.add (I.hid (α := Int) (Nat.cast k)) (I.hid (α := Int) (Nat.cast v)); let y2 := I.few (I.add (I.len (α := Go.Ab.Ent) out) (I.len (α := Go.Ab.Ent) ([(Go.Ab.Ent.mk a c d y0)] : List Go.Ab.Ent))) 100000000; let y3 := I.hid (α := Int) (Prod.snd (numAt y0)); let y4 := I.bnot (I.ieq (I.hid (α := Int) (Go.Jrn.encC (Go.Ab.Ent.mk a c d y0))) 0); let y5 := I.cutb (Int.ofNat i) (I.len (α := UInt8) inn) (I.len (α := UInt8) inn); let y6 := I.inr Go.IntKind.i64 (I.add (Nat.cast at1) y1); let y7 := I.few (I.len (α := UInt8) y0) 140737488355328; .br (I.ilt (Nat.cast 2) 3) (.need y5 (.need (I.hid (α := (Prop)) True) (.br (I.ieq y3 0) (.fin (.ret (.tup [(.one (.row 0)), (.one (.p (.int .i64 (Nat.cast at1))))])) [(.row .ent 109 out)]) (.need (I.inr Go.IntKind.i64 (I.add (Nat.cast i) y3)) (.need (I.inr Go.IntKind.i64 (I.add (Nat.cast 2) 1)) (.need (B ⟨[(0, (.v (.one (.p (.list .byte b))))), (4, (.v (.one (.row 0)))), (5, (.v (.one (.p (.int .i64 (Nat.cast at1)))))), (6, (.v (.one (.p (.int .i64 (I.hid (α := Int) (Nat.cast v))))))), (7, (.v (.one (.p (.int .i64 (I.hid (α := Int) (Nat.cast k))))))), (8, (.v (.one (.p (.list .byte inn))))), (9, (.v (.one (.ptr 1 0)))), (10, (.v (.one (.p (.int .i64 (I.add (Nat.cast i) y3)))))), (11, (.v (.one (.p (.int .i64 (I.add (Nat.cast 2) 1))))))], [(.row .ent 109 out), (.pack [(.obj 133 [(.p (.int .i64 a)), (.p (.int .i64 c)), (.p (.int .i64 (I.hid (α := Int) (Prod.fst (numAt y0)))))])])], 104, none⟩) .qed)))))) (.need y5 (.both (.need y7 (.need (I.hid (α := (Prop)) True) (.br y4 (.fin (.ret (.tup [(.one (.row 0)), (.one (.p (.int .i64 (Nat.cast at1))))])) [(.row .ent 109 out)]) (.need y2 (.need (I.inr Go.IntKind.i64 y1) (.need y6 (.need (A ⟨[(0, (.v (.one (.p (.list .byte b))))), (4, (.v (.one (.row 0)))), (5, (.v (.one (.p (.int .i64 (I.add (Nat.cast at1) y1))))))], [(.row .ent 109 (I.app (α := Go.Ab.Ent) out ([(Go.Ab.Ent.mk a c d y0)] : List Go.Ab.Ent)))], 104, none⟩) .qed))))))) (.need y7 (.need (I.hid (α := (Prop)) True) (.br y4 (.fin (.ret (.tup [(.one (.row 0)), (.one (.p (.int .i64 (Nat.cast at1))))])) [(.row .ent 109 out)]) (.need y2 (.need (I.inr Go.IntKind.i64 y1) (.need y6 (.need (A ⟨[(0, (.v (.one (.p (.list .byte b))))), (4, (.v (.one (.row 0)))), (5, (.v (.one (.p (.int .i64 (I.add (Nat.cast at1) y1))))))], [(.row .ent 109 (I.app (α := Go.Ab.Ent) out ([(Go.Ab.Ent.mk a c d y0)] : List Go.Ab.Ent)))], 104, none⟩) .qed)))))))))) (by kernel_rfl) ?_
    simp only [instL]
    rw [hs2]
    subst hI
    rcases hcase with ⟨q1, q2⟩ | ⟨w, u, q1, q2, q3, q4⟩
    · obtain ⟨f1, f2⟩ := hfin (hu (by omega) q1)
      rw [q2]
      simp only [nrmA, nrmB, nrlB, reduceCtorEq]
      exact ⟨fun _ => ⟨by omega, fun _ => ⟨f1, f2⟩, fun h => h.elim⟩, fun h => (h (by omega)).elim⟩
    · rw [q1]
      simp only [nrmA, nrmB, nrlB, reduceCtorEq]
      refine ⟨fun _ => ⟨by omega, fun h => (by omega), fun _ => ⟨by omega, by omega, ?_⟩⟩, fun h => (h (by omega)).elim⟩
      refine hB (3, i + w, a, c, u) ⟨by omega, (show i + w ≤ inn.length by omega), ?_⟩ (by simp only; omega)
      rw [← List.drop_drop, hrd, ← hthr]
      simp only [thr]; rw [q4]
  · have hthr3 : three inn = some (a, c, d, r) := by rw [← hthr]; simp only [thr]
    rw [hthr3] at hx
    simp only at hx
    have hmay : encC ⟨a, c, d, r⟩ = 0 ↔ mayM ⟨a, c, d, r⟩ = true := by
      unfold encC
      cases mayM ⟨a, c, d, r⟩ <;> simp
    have hno : ¬ encC ⟨a, c, d, r⟩ = 0 → (at1 : Int) = d2 ∧ out = d1 := fun h => hfin (by
      have : mayM ⟨a, c, d, r⟩ = false := by
        cases hmm : mayM ⟨a, c, d, r⟩ with
        | false => rfl
        | true => exact (h (hmay.2 hmm)).elim
      rw [oneM, hx, this]; rfl)
    have hyes : encC ⟨a, c, d, r⟩ = 0 → A ⟨[(0, .v (.one (.p (.list .byte b)))), (4, .v (.one (.row 0))), (5, .v (.one (.p (.int .i64 (((at1 : Int) + ((k : Int) + (v : Int))))))))], [.row .ent 109 ((out ++ [⟨a, c, d, r⟩]))], 104, none⟩ := by
      intro h
      have h9 : oneM s = some (⟨a, c, d, r⟩, s.drop (k + v)) := by rw [oneM, hx, hmay.1 h]; rfl
      have h8 := dec_some h9
      rw [h8] at h1 h2
      refine hA (out ++ [⟨a, c, d, r⟩], at1 + (k + v)) ⟨?_, ?_, ?_, by omega⟩ (by simp only; omega)
      · rw [← List.drop_drop, hsd, ← h1, List.append_assoc]; rfl
      · rw [← List.drop_drop, hsd, ← h2]
      · simp only [List.length_append, List.length_cons, List.length_nil]; omega
    refine ev_rule (let y0 := I.cut (α := UInt8) inn (Int.ofNat i) (I.len (α := UInt8) inn); let y1 := I.add (I.hid (α := Int) (Nat.cast k)) (I.hid (α := Int) (Nat.cast v)); let y2 := I.few (I.add (I.len (α := Go.Ab.Ent) out) (I.len (α := Go.Ab.Ent) ([(Go.Ab.Ent.mk a c d y0)] : List Go.Ab.Ent))) 100000000; let y3 := I.bnot (I.ieq (I.hid (α := Int) (Go.Jrn.encC (Go.Ab.Ent.mk a c d y0))) 0); let y4 := I.cutb (Int.ofNat i) (I.len (α := UInt8) inn) (I.len (α := UInt8) inn); let y5 := I.inr Go.IntKind.i64 (I.add (Nat.cast at1) y1); let y6 := I.few (I.len (α := UInt8) y0) 140737488355328; .br (I.ilt (Nat.cast 3) 3) (.need y4 (.need (I.hid (α := (Prop)) True) (.br (I.ieq (I.hid (α := Int) (Prod.snd (numAt y0))) 0) (.fin (.ret (.tup [(.one (.row 0)), (.one (.p (.int .i64 (Nat.cast at1))))])) [(.row .ent 109 out)]) (.stop 0)))) (.need y4 (.both (.need y6 (.need (I.hid (α := (Prop)) True) (.br y3 (.fin (.ret (.tup [(.one (.row 0)), (.one (.p (.int .i64 (Nat.cast at1))))])) [(.row .ent 109 out)]) (.need y2 (.need (I.inr Go.IntKind.i64 y1) (.need y5 (.need (A ⟨[(0, (.v (.one (.p (.list .byte b))))), (4, (.v (.one (.row 0)))), (5, (.v (.one (.p (.int .i64 (I.add (Nat.cast at1) y1))))))], [(.row .ent 109 (I.app (α := Go.Ab.Ent) out ([(Go.Ab.Ent.mk a c d y0)] : List Go.Ab.Ent)))], 104, none⟩) .qed))))))) (.need y6 (.need (I.hid (α := (Prop)) True) (.br y3 (.fin (.ret (.tup [(.one (.row 0)), (.one (.p (.int .i64 (Nat.cast at1))))])) [(.row .ent 109 out)]) (.need y2 (.need (I.inr Go.IntKind.i64 y1) (.need y5 (.need (A ⟨[(0, (.v (.one (.p (.list .byte b))))), (4, (.v (.one (.row 0)))), (5, (.v (.one (.p (.int .i64 (I.add (Nat.cast at1) y1))))))], [(.row .ent 109 (I.app (α := Go.Ab.Ent) out ([(Go.Ab.Ent.mk a c d y0)] : List Go.Ab.Ent)))], 104, none⟩) .qed)))))))))) (by kernel_rfl) ?_
    simp only [instL]
    rw [hs2]
    subst hI
    simp only [nrmA, nrmB, nrlB, reduceCtorEq]
    have hrl2 : (r.length : Int) ≤ 140737488355328 := by omega
    have hol : (out.length : Int) + (([(⟨a, c, d, r⟩ : Ent)] : List Ent).length : Int) ≤ 100000000 := by simp only [List.length_cons, List.length_nil]; omega
    exact ⟨fun h => (by omega), fun _ => ⟨by omega, ⟨hrl2, hno, fun h => ⟨hol, by omega, by omega, hyes h⟩⟩, hrl2, hno, fun h => ⟨hol, by omega, by omega, hyes h⟩⟩⟩
def entries__c (I : Alg) (args : List D) (hp : List HO) : Option CT := match args, hp with
  | [.v (.one (.p (.list .byte b)))], [] => (fun (b : Str) => (some (.one ⟨I.hid (b.length ≤ 1000000), (.ret (.tup [(.one (.row 0)), (.one (.p (.int .i64 (I.hid (usedM b)))))])), [.row .ent 109 (I.hid (((dec b).1)))]⟩) : Option CT)) b
  | _, _ => none
theorem entries__g : GoodC Tryz.prog 78 (entries__c alg) := by
  intro args hp r h
  unfold entries__c at h
  split at h
  · cases h; exact fun hn => entries_ _ hn
  · cases h
def entries__k : Know Tryz.prog := ⟨78, entries__c, entries__g⟩
def entries__l : Know Tryz.prog := ⟨78, fun I => lendC I (entries__c I), lendC_good entries__g⟩
end Go.Proofs.YtjapkdcomcgamaaGreatDoor
