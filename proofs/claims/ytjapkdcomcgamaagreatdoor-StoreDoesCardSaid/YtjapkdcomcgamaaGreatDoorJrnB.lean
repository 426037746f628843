/- A log's entries: written and read, the walks. -/
import Derived.Test.YtjapkdcomcgamaaGreatDoorJrnA
set_option linter.all false
namespace Go.Proofs.YtjapkdcomcgamaaGreatDoor
open Go Go.Sep Go.Ab Go.Jrn
set_option maxRecDepth 100000



def pre3 (k i n : Int) : Nat → Str
  | 0 => []
  | 1 => sev (k + 1).toNat
  | 2 => sev (k + 1).toNat ++ sev (i + 1).toNat
  | _ => sev (k + 1).toNat ++ sev (i + 1).toNat ++ sev (n + 1).toNat

theorem encode_ (k i n : Int) (t : Str) : Spc Tryz.prog 95 [.v (.agg [(.p (.int .i64 k)), (.p (.int .i64 i)), (.p (.int .i64 n)), (.p (.list .byte t))])] [] (.ret (.tup [(.one (.row 0)), (.one (.p (.int .i64 (encC ⟨k, i, n, t⟩))))])) [.row .byte 5 ((encM ⟨k, i, n, t⟩))] := by
  refine spcG tab_ok mixed Tryz.func95 (by kernel_rfl) { nr := [4], own := [126], keep := some [0, 1, 2, 3, 4, 6, 16, 17, 18] } [put__k, put__l, may__k, may__l] (by kernel_rfl) ?_
  intro I X hI hX
  refine ev_rule (.need (I.hid (α := (Prop)) True) (.br (I.bnot (I.hid (α := Bool) (Go.Jrn.mayM (Go.Ab.Ent.mk k i n t)))) (.fin (.ret (.tup [(.one (.row 0)), (.one (.p (.int .i64 1)))])) [(.row .byte 5 ([] : List UInt8))]) (.code 0 [1, 1, 1, 0, 1, 0] ⟨[(18, (.v (.one (.p (.int .i64 0))))), (17, (.v (.one (.p (.int .i64 (I.len (α := Int) ([k, i, n] : List Int))))))), (16, (.v (.one (.row 2)))), (4, (.v (.one (.row 1)))), (3, (.v (.one (.p (.int .i64 0))))), (2, (.v (.one .nilS))), (1, (.v (.one (.ptr 0 0)))), (0, (.v (.agg [(.p (.int .i64 k)), (.p (.int .i64 i)), (.p (.int .i64 n)), (.p (.list .byte t))])))], [(.obj 97 [(.p (.int .i64 k)), (.p (.int .i64 i)), (.p (.int .i64 n)), (.p (.list .byte t))]), (.row .byte 5 ([] : List UInt8)), (.row .int 3 ([k, i, n] : List Int))], 35, none⟩))) (by kernel_rfl) ?_
  simp only [instL]
  refine ⟨(by rw [hI]; trivial), fun hm => ?_, fun hm => ?_⟩
  · subst hI
    simp only [nrmA, nrmB, nrlB, reduceCtorEq] at hm
    simp only [nrmA, nrmB, nrlB, reduceCtorEq]
    simp only [encC, encM, hm, Bool.false_eq_true, if_false]
    exact ⟨trivial, trivial⟩
  rw [hI] at hm; simp only [nrmA, nrmB] at hm
  have hmay := hm
  simp only [mayM, few, Bool.and_eq_true, decide_eq_true_eq] at hmay
  obtain ⟨⟨⟨⟨m1, m2⟩, m3, m4⟩, m5, m6⟩, m7⟩ := hmay
  simp only [encC, encM, hm, if_true]
  generalize hr : encB ⟨k, i, n, t⟩ = r
  refine loop_inv hI tab_ok mixed [put__k, put__l, may__k, may__l] hX [1, 4, 16, 17, 18] (fun (g : Nat × Str) => match g with | (j, m) => j ≤ 3 ∧ m = pre3 k i n j) (fun (g : Nat × Str) => match g with | (j, m) => ⟨[(1, .v (.one (.ptr 0 0))), (4, .v (.one (.row 1))), (16, .v (.one (.row 2))), (17, .v (.one (.p (.int .i64 ((I.len (α := Int) [k, i, n])))))), (18, .v (.one (.p (.int .i64 j))))], [.pack [.obj 97 [(.p (.int .i64 k)), (.p (.int .i64 i)), (.p (.int .i64 n)), (.p (.list .byte t))]], .row .byte 5 m, .row .int 3 ([k, i, n])], 35, none⟩) (fun (g : Nat × Str) => match g with | (j, m) => 3 - j) (0, []) (by kernel_rfl) (by kernel_rfl) ?_ ?_
  · exact ⟨Nat.zero_le _, rfl⟩
  rintro ⟨j, m⟩ ⟨hj, hjm⟩ A hA
  simp only at hA
  refine ev_rule (let y0 := I.len (α := UInt8) (I.app (α := UInt8) m t); let y1 := I.len (α := Int) ([k, i, n] : List Int); let y2 := I.hid (α := (List UInt8)) (HAppend.hAppend ([] : List UInt8) (Go.Jrn.sev (Int.toNat (HAdd.hAdd y0 (1 : Int))))); let y3 := I.get (α := Int) ([k, i, n] : List Int) 0 (Nat.cast j); .br (I.ilt (Nat.cast j) y1) (.need (I.inb (Nat.cast j) y1) (.need (I.inb (Nat.cast j) y1) (.need (I.hid (α := (Prop)) (And (LE.le (Neg.neg (1 : Int)) y3) (And (LT.lt y3 (34359738368 : Int)) (LE.le (List.length m) 50000000)))) (.need (I.inr Go.IntKind.i64 (I.add (Nat.cast j) 1)) (.need (A ⟨[(1, (.v (.one (.ptr 0 0)))), (4, (.v (.one (.row 1)))), (16, (.v (.one (.row 2)))), (17, (.v (.one (.p (.int .i64 y1))))), (18, (.v (.one (.p (.int .i64 (I.add (Nat.cast j) 1))))))], [(.pack [(.obj 97 [(.p (.int .i64 k)), (.p (.int .i64 i)), (.p (.int .i64 n)), (.p (.list .byte t))])]), (.row .byte 5 (I.hid (α := (List UInt8)) (HAppend.hAppend m (Go.Jrn.sev (Int.toNat (HAdd.hAdd y3 (1 : Int))))))), (.row .int 3 ([k, i, n] : List Int))], 35, none⟩) .qed))))) (.need (I.few (I.add (I.len (α := UInt8) m) (I.len (α := UInt8) t)) 140737488355328) (.need (I.hid (α := (Prop)) (And (LE.le (Neg.neg (1 : Int)) y0) (And (LT.lt y0 (34359738368 : Int)) (LE.le (List.length ([] : List UInt8)) 50000000)))) (.need (I.few (I.add (I.len (α := UInt8) y2) y0) 140737488355328) (.fin (.ret (.tup [(.one (.row 0)), (.one (.p (.int .i64 0)))])) [(.row .byte 5 (I.app (α := UInt8) y2 (I.app (α := UInt8) m t)))]))))) (by kernel_rfl) ?_
  simp only [instL]
  subst hI
  simp only [nrmA, nrmB, nrlB, reduceCtorEq]
  have l1 := sev_len (k + 1).toNat
  have l2 := sev_len (i + 1).toNat
  have l3 := sev_len (n + 1).toNat
  simp only [List.length_cons, List.length_nil]
  rcases (show j = 0 ∨ j = 1 ∨ j = 2 ∨ j = 3 by omega) with rfl | rfl | rfl | rfl
  · have hb := hA (1, sev (k + 1).toNat) ⟨by omega, rfl⟩ (by simp only; omega)
    subst hjm
    (repeat' (first | refine And.intro ?_ ?_ | intro _)) <;> first | omega | exact True.intro | exact False.elim ‹False› | skip
    · simp only [List.getD_cons_zero]; omega
    · simp only [List.getD_cons_zero]; omega
    · simp only [pre3, List.length_nil]; omega
    · exact hb
  · have hb := hA (2, sev (k + 1).toNat ++ sev (i + 1).toNat) ⟨by omega, rfl⟩ (by simp only; omega)
    subst hjm
    (repeat' (first | refine And.intro ?_ ?_ | intro _)) <;> first | omega | exact True.intro | exact False.elim ‹False› | skip
    · simp only [List.getD_cons_zero, List.getD_cons_succ]; omega
    · simp only [List.getD_cons_zero, List.getD_cons_succ]; omega
    · simp only [pre3]; omega
    · exact hb
  · have hb := hA (3, sev (k + 1).toNat ++ sev (i + 1).toNat ++ sev (n + 1).toNat) ⟨by omega, rfl⟩ (by simp only; omega)
    subst hjm
    (repeat' (first | refine And.intro ?_ ?_ | intro _)) <;> first | omega | exact True.intro | exact False.elim ‹False› | skip
    · simp only [List.getD_cons_zero, List.getD_cons_succ]; omega
    · simp only [List.getD_cons_zero, List.getD_cons_succ]; omega
    · simp only [pre3, List.length_append]; omega
    · exact hb
  · have hm3 : (m ++ t).length ≤ 1048606 := by rw [hjm]; simp only [pre3, List.length_append]; omega
    have hml : m.length ≤ 30 := by rw [hjm]; simp only [pre3, List.length_append]; omega
    have l4 := sev_len (((m ++ t).length : Nat) + 1 : Int).toNat
    (repeat' (first | refine And.intro ?_ ?_ | intro _)) <;> first | omega | exact True.intro | exact False.elim ‹False› | skip
    · simp only [List.nil_append]; omega
    · rw [← hr, hjm]
      simp only [encB, enc3, pre3, List.nil_append]
      rfl
def encode__c (I : Alg) (args : List D) (hp : List HO) : Option CT := match args, hp with
  | [.v (.agg [(.p (.int .i64 k)), (.p (.int .i64 i)), (.p (.int .i64 n)), (.p (.list .byte t))])], [] => (fun (k i n : Int) (t : Str) => (some (.one ⟨I.hid (True), (.ret (.tup [(.one (.row 0)), (.one (.p (.int .i64 (I.hid (encC ⟨k, i, n, t⟩)))))])), [.row .byte 5 (I.hid ((encM ⟨k, i, n, t⟩)))]⟩) : Option CT)) k i n t
  | _, _ => none
theorem encode__g : GoodC Tryz.prog 95 (encode__c alg) := by
  intro args hp r h
  unfold encode__c at h
  split at h
  · cases h; exact fun hn => encode_ _ _ _ _
  · cases h
def encode__k : Know Tryz.prog := ⟨95, encode__c, encode__g⟩
def encode__l : Know Tryz.prog := ⟨95, fun I => lendC I (encode__c I), lendC_good encode__g⟩

theorem encM_no {e : Ent} (h : ¬ mayM e = true) : encM e = [] ∧ encC e = 1 := by simp [encM, encC, h]
theorem mayM_iff (k i n : Int) (t : Str) : mayM ⟨k, i, n, t⟩ = true ↔ (1 ≤ k ∧ k ≤ 6 ∧ -1 ≤ i ∧ i < 1073741824 ∧ -1 ≤ n ∧ n < 1073741824 ∧ t.length < 1048576) := by
  simp only [mayM, few, Bool.and_eq_true, decide_eq_true_eq, and_assoc]

theorem entryBytes_ (k i n : Int) (t : Str) : Spc Tryz.prog 106 [.v (.agg [(.p (.int .i64 k)), (.p (.int .i64 i)), (.p (.int .i64 n)), (.p (.list .byte t))])] [] (.ret (.tup [(.one (.row 0)), (.one (.p (.int .i64 (encC ⟨k, i, n, t⟩))))])) [.row .byte 5 ((encM ⟨k, i, n, t⟩))] := by
  refine spcG tab_ok mixed Tryz.func106 (by kernel_rfl) { nr := [4], keep := some [0, 1, 2, 3, 4] } [seven__k, seven__l] (by kernel_rfl) ?_
  intro I X hI hX
  refine ev_rule (let y1 := I.hid (α := (List UInt8)) (Go.Jrn.sev (Int.toNat (HAdd.hAdd k (1 : Int)))); let y2 := I.hid (α := (List UInt8)) (Go.Jrn.sev (Int.toNat (HAdd.hAdd i (1 : Int)))); let y3 := I.hid (α := (List UInt8)) (Go.Jrn.sev (Int.toNat (HAdd.hAdd n (1 : Int)))); let y0 := I.len (α := UInt8) (I.app (α := UInt8) (I.app (α := UInt8) (I.app (α := UInt8) y1 y2) y3) t); let y4 := I.hid (α := (List UInt8)) (Go.Jrn.sev (Int.toNat (HAdd.hAdd y0 (1 : Int)))); .br (I.ilt k 1) (.fin (.ret (.tup [(.one (.row 0)), (.one (.p (.int .i64 1)))])) [(.row .byte 5 ([] : List UInt8))]) (.br (I.ilt 6 k) (.fin (.ret (.tup [(.one (.row 0)), (.one (.p (.int .i64 1)))])) [(.row .byte 5 ([] : List UInt8))]) (.br (I.ilt i (Neg.neg (1 : Int))) (.fin (.ret (.tup [(.one (.row 0)), (.one (.p (.int .i64 1)))])) [(.row .byte 5 ([] : List UInt8))]) (.br (I.ile 1073741824 i) (.fin (.ret (.tup [(.one (.row 0)), (.one (.p (.int .i64 1)))])) [(.row .byte 5 ([] : List UInt8))]) (.br (I.ilt n (Neg.neg (1 : Int))) (.fin (.ret (.tup [(.one (.row 0)), (.one (.p (.int .i64 1)))])) [(.row .byte 5 ([] : List UInt8))]) (.br (I.ile 1073741824 n) (.fin (.ret (.tup [(.one (.row 0)), (.one (.p (.int .i64 1)))])) [(.row .byte 5 ([] : List UInt8))]) (.br (I.ile 1048576 (I.len (α := UInt8) t)) (.fin (.ret (.tup [(.one (.row 0)), (.one (.p (.int .i64 1)))])) [(.row .byte 5 ([] : List UInt8))]) (.need (I.hid (α := (Prop)) (And (LE.le (Neg.neg (1 : Int)) k) (LT.lt k (34359738368 : Int)))) (.need (I.hid (α := (Prop)) (And (LE.le (Neg.neg (1 : Int)) i) (LT.lt i (34359738368 : Int)))) (.need (I.few (I.add (I.len (α := UInt8) y1) (I.len (α := UInt8) y2)) 140737488355328) (.need (I.hid (α := (Prop)) (And (LE.le (Neg.neg (1 : Int)) n) (LT.lt n (34359738368 : Int)))) (.need (I.few (I.add (I.len (α := UInt8) (I.app (α := UInt8) y1 y2)) (I.len (α := UInt8) y3)) 140737488355328) (.need (I.few (I.add (I.len (α := UInt8) (I.app (α := UInt8) (I.app (α := UInt8) y1 y2) y3)) (I.len (α := UInt8) t)) 140737488355328) (.need (I.hid (α := (Prop)) (And (LE.le (Neg.neg (1 : Int)) y0) (LT.lt y0 (34359738368 : Int)))) (.need (I.few (I.add (I.len (α := UInt8) y4) y0) 140737488355328) (.fin (.ret (.tup [(.one (.row 0)), (.one (.p (.int .i64 0)))])) [(.row .byte 5 (I.app (α := UInt8) y4 (I.app (α := UInt8) (I.app (α := UInt8) (I.app (α := UInt8) y1 y2) y3) t)))])))))))))))))))) (by kernel_rfl) ?_
  simp only [instL]
  have hno : ¬ (1 ≤ k ∧ k ≤ 6 ∧ -1 ≤ i ∧ i < 1073741824 ∧ -1 ≤ n ∧ n < 1073741824 ∧ t.length < 1048576) → encM ⟨k, i, n, t⟩ = [] ∧ encC ⟨k, i, n, t⟩ = 1 := fun h => encM_no (fun h' => h ((mayM_iff k i n t).1 h'))
  have hyes : (1 ≤ k ∧ k ≤ 6 ∧ -1 ≤ i ∧ i < 1073741824 ∧ -1 ≤ n ∧ n < 1073741824 ∧ t.length < 1048576) → encM ⟨k, i, n, t⟩ = encB ⟨k, i, n, t⟩ ∧ encC ⟨k, i, n, t⟩ = 0 := fun h => by
    have := (mayM_iff k i n t).2 h
    simp [encM, encC, this]
  generalize encM ⟨k, i, n, t⟩ = r1 at *
  generalize encC ⟨k, i, n, t⟩ = r2 at *
  have l1 := sev_len (k + 1).toNat
  have l2 := sev_len (i + 1).toNat
  have l3 := sev_len (n + 1).toNat
  subst hI
  simp only [nrmA, nrmB, nrlB, reduceCtorEq]
  have l4 : t.length < 1048576 → 1 ≤ k ∧ k ≤ 6 → (enc3 ⟨k, i, n, t⟩).length ≤ 1048606 := fun h _ => by simp only [enc3, List.length_append]; omega
  have l5 := sev_len (((sev (k + 1).toNat ++ sev (i + 1).toNat ++ sev (n + 1).toNat ++ t).length : Nat) + 1 : Int).toNat
  simp only [List.length_append] at l5 ⊢
  (repeat' (first | refine And.intro ?_ ?_ | intro _)) <;> first | omega | exact True.intro | exact False.elim ‹False› | skip
  all_goals first
    | exact (hno (by omega)).2.symm
    | exact (hno (by omega)).1.symm
    | exact (hyes (by omega)).2.symm
    | skip
  rw [(hyes (by omega)).1]
  simp only [encB, enc3, List.length_append]
  rfl
def entryBytes__c (I : Alg) (args : List D) (hp : List HO) : Option CT := match args, hp with
  | [.v (.agg [(.p (.int .i64 k)), (.p (.int .i64 i)), (.p (.int .i64 n)), (.p (.list .byte t))])], [] => (fun (k i n : Int) (t : Str) => (some (.one ⟨I.hid (True), (.ret (.tup [(.one (.row 0)), (.one (.p (.int .i64 (I.hid (encC ⟨k, i, n, t⟩)))))])), [.row .byte 5 (I.hid ((encM ⟨k, i, n, t⟩)))]⟩) : Option CT)) k i n t
  | _, _ => none
theorem entryBytes__g : GoodC Tryz.prog 106 (entryBytes__c alg) := by
  intro args hp r h
  unfold entryBytes__c at h
  split at h
  · cases h; exact fun hn => entryBytes_ _ _ _ _
  · cases h
def entryBytes__k : Know Tryz.prog := ⟨106, entryBytes__c, entryBytes__g⟩
def entryBytes__l : Know Tryz.prog := ⟨106, fun I => lendC I (entryBytes__c I), lendC_good entryBytes__g⟩

theorem jone_ (b : Str) (hneed : b.length ≤ 100000000) : Spc Tryz.prog 97 [.v (.one (.p (.list .byte b)))] [] (.ret (.tup [(.agg [(.p (.int .i64 ((oneX b).1.kind))), (.p (.int .i64 ((oneX b).1.id))), (.p (.int .i64 ((oneX b).1.n))), (.p (.list .byte ((oneX b).1.text)))]), (.one (.p (.list .byte ((oneX b).2.1)))), (.one (.p (.bool ((oneX b).2.2))))])) [] := by
  refine spcG tab_ok mixed Tryz.func97 (by kernel_rfl) { rl := [1], keep := some [0, 2, 3, 4, 5, 6, 7, 8, 9, 10, 11, 12, 38] } [clone__k, clone__l, may__k, may__l, get__k, get__l] (by kernel_rfl) ?_
  intro I X hI hX
  refine ev_rule (let y0 := I.hid (α := (List UInt8)) (Prod.fst (Prod.snd (Go.Jrn.num b))); let y1 := I.hid (α := Int) (Prod.fst (Go.Jrn.num b)); let y2 := I.hid (α := Bool) (Prod.snd (Prod.snd (Go.Jrn.num b))); .need (I.hid (α := (Prop)) True) (.br (I.bnot y2) (.fin (.ret (.tup [(.agg [(.p (.int .i64 0)), (.p (.int .i64 0)), (.p (.int .i64 0)), (.p (.list .byte ([] : List UInt8)))]), (.one (.p (.list .byte ([] : List UInt8)))), (.one (.p (.bool Bool.false)))])) []) (.br (I.ilt y1 0) (.fin (.ret (.tup [(.agg [(.p (.int .i64 0)), (.p (.int .i64 0)), (.p (.int .i64 0)), (.p (.list .byte ([] : List UInt8)))]), (.one (.p (.list .byte ([] : List UInt8)))), (.one (.p (.bool Bool.false)))])) []) (.br (I.ilt (I.len (α := UInt8) y0) y1) (.fin (.ret (.tup [(.agg [(.p (.int .i64 0)), (.p (.int .i64 0)), (.p (.int .i64 0)), (.p (.list .byte ([] : List UInt8)))]), (.one (.p (.list .byte ([] : List UInt8)))), (.one (.p (.bool Bool.false)))])) []) (.need (I.cutb 0 y1 (I.len (α := UInt8) y0)) (.need (I.cutb y1 (I.len (α := UInt8) y0) (I.len (α := UInt8) y0)) (.code 0 [1, 1, 1, 1, 1, 0, 1, 0] ⟨[(38, (.v (.one (.p (.int .i64 0))))), (10, (.v (.one (.ptr 1 0)))), (9, (.v (.one (.p (.list .byte (I.cut (α := UInt8) y0 y1 (I.len (α := UInt8) y0))))))), (8, (.v (.one (.p (.list .byte (I.cut (α := UInt8) y0 0 y1)))))), (7, (.v (.one (.p (.bool y2))))), (6, (.v (.one (.p (.list .byte y0))))), (5, (.v (.one (.p (.int .i64 y1))))), (4, (.v (.one (.p (.val (.bool .false)))))), (3, (.v (.one .nilS))), (2, (.v (.one (.ptr 0 0)))), (0, (.v (.one (.p (.list .byte b)))))], [(.obj 97 [(.p (.int .i64 0)), (.p (.int .i64 0)), (.p (.int .i64 0)), .nilS]), (.obj 133 [(.p (.int .i64 0)), (.p (.int .i64 0)), (.p (.int .i64 0))])], 66, none⟩))))))) (by kernel_rfl) ?_
  simp only [instL]
  generalize hv : (num b).1 = v
  generalize hq : (num b).2.1 = q
  generalize hok : (num b).2.2 = ok
  have hnum : num b = (v, q, ok) := by rw [← hv, ← hq, ← hok]
  generalize hx : oneX b = x
  have hx' := hx
  rw [oneX, hnum] at hx'
  have hql : q.length ≤ b.length := by
    rcases ok with _ | _
    · have := num_rest_le b; rw [hnum] at this; exact this
    · have := num_rest_lt (b := b) (by rw [hnum]); rw [hnum] at this; exact Nat.le_of_lt this
  refine ⟨(by rw [hI]; trivial), fun h1 => ?_, fun h1 => ⟨fun h2 => ?_, fun h2 => ⟨fun h3 => ?_, fun h3 => ?_⟩⟩⟩
  · subst hI; simp only [nrmA, nrmB] at h1; subst h1; simp only at hx'; subst hx'; simp only [nrmA, nrmB, nrlB, reduceCtorEq]
  · subst hI; simp only [nrmA, nrmB] at h1; simp only [nrmA, nrmB] at h2; subst h1; simp only at hx'; rw [if_pos (.inl h2)] at hx'; subst hx'; simp only [nrmA, nrmB, nrlB, reduceCtorEq]
  · subst hI; simp only [nrmA, nrmB] at h1; simp only [nrmA, nrmB] at h2; simp only [nrmA, nrmB] at h3; subst h1; simp only at hx'; rw [if_pos (.inr h3)] at hx'; subst hx'; simp only [nrmA, nrmB, nrlB, reduceCtorEq]
  rw [hI] at h1; simp only [nrmA, nrmB] at h1
  rw [hI] at h2; simp only [nrmA, nrmB] at h2
  rw [hI] at h3; simp only [nrmA, nrmB] at h3
  subst h1
  simp only at hx'
  rw [if_neg (by omega)] at hx'
  refine ⟨(by rw [hI]; simp only [nrmA, nrmB]; omega), (by rw [hI]; simp only [nrmA, nrmB]; omega), ?_⟩
  have hin : I.cut (α := UInt8) (I.hid (α := List UInt8) q) 0 (I.hid (α := Int) v) = q.take v.toNat := by rw [hI]; simp only [nrmA, nrmB]
  have hbh : I.cut (α := UInt8) (I.hid (α := List UInt8) q) (I.hid (α := Int) v) (I.len (α := UInt8) (I.hid (α := List UInt8) q)) = q.drop v.toNat := by
    rw [hI]; simp only [nrmA, nrmB]; rw [List.take_of_length_le (by simp)]
  have hil : (q.take v.toNat).length ≤ b.length := by simp; omega
  rw [hin, hbh]
  generalize q.take v.toNat = inn at *
  generalize q.drop v.toNat = bh at *
  refine loop_inv hI tab_ok mixed [clone__k, clone__l, may__k, may__l, get__k, get__l] hX [2, 8, 9, 10, 38] (fun (g : Nat × Int × Int × Int × Str) => match g with | (j, a, c, d, s) => j ≤ 3 ∧ s.length ≤ b.length ∧ thr j a c d s = three inn) (fun (g : Nat × Int × Int × Int × Str) => match g with | (j, a, c, d, s) => ⟨[(2, .v (.one (.ptr 0 0))), (8, .v (.one (.p (.list .byte s)))), (9, .v (.one (.p (.list .byte bh)))), (10, .v (.one (.ptr 1 0))), (38, .v (.one (.p (.int .i64 j))))], [.pack [.obj 97 [(.p (.int .i64 0)), (.p (.int .i64 0)), (.p (.int .i64 0)), .nilS]], .pack [.obj 133 [(.p (.int .i64 a)), (.p (.int .i64 c)), (.p (.int .i64 d))]]], 66, none⟩) (fun (g : Nat × Int × Int × Int × Str) => match g with | (j, a, c, d, s) => 3 - j) (0, 0, 0, 0, inn) (by kernel_rfl) (by kernel_rfl) ?_ ?_
  · exact ⟨Nat.zero_le _, hil, rfl⟩
  rintro ⟨j, a, c, d, s⟩ ⟨hj, hsl, hthr⟩ A hA
  simp only at hA
  have hu : j < 3 → ∀ e : (num s).2.2 = false, thr j a c d s = none := by
    intro h e
    have e2 : num s = ((num s).1, (num s).2.1, false) := by rw [← e]
    rcases (show j = 0 ∨ j = 1 ∨ j = 2 by omega) with rfl | rfl | rfl
    · rw [thr, three, e2]
    · rw [thr, e2]
    · rw [thr, e2]
  have hfail : j < 3 → (num s).2.2 = false → x = (⟨0, 0, 0, []⟩, [], false) := by
    intro h e
    rw [← hthr, hu h e] at hx'
    exact hx'.symm
  have hnl := num_rest_le s
  have hle : (num s).2.1.length ≤ b.length := by omega
  rcases (show j = 0 ∨ j = 1 ∨ j = 2 ∨ j = 3 by omega) with rfl | rfl | rfl | rfl
  · refine ev_rule (let y0 := I.hid (α := Bool) (Go.Jrn.mayM (Go.Ab.Ent.mk a c d s)); let y1 := I.hid (α := (Prop)) (LE.le (List.length s) 100000000); .br (I.ilt (Nat.cast 0) 3) (.need (I.hid (α := (Prop)) True) (.br (I.bnot (I.hid (α := Bool) (Prod.snd (Prod.snd (Go.Jrn.num s))))) (.fin (.ret (.tup [(.agg [(.p (.int .i64 0)), (.p (.int .i64 0)), (.p (.int .i64 0)), (.p (.list .byte ([] : List UInt8)))]), (.one (.p (.list .byte ([] : List UInt8)))), (.one (.p (.bool Bool.false)))])) []) (.need (I.inr Go.IntKind.i64 (I.add (Nat.cast 0) 1)) (.need (A ⟨[(2, (.v (.one (.ptr 0 0)))), (8, (.v (.one (.p (.list .byte (I.hid (α := (List UInt8)) (Prod.fst (Prod.snd (Go.Jrn.num s))))))))), (9, (.v (.one (.p (.list .byte bh))))), (10, (.v (.one (.ptr 1 0)))), (38, (.v (.one (.p (.int .i64 (I.add (Nat.cast 0) 1))))))], [(.pack [(.obj 97 [(.p (.int .i64 0)), (.p (.int .i64 0)), (.p (.int .i64 0)), .nilS])]), (.pack [(.obj 133 [(.p (.int .i64 (I.hid (α := Int) (Prod.fst (Go.Jrn.num s))))), (.p (.int .i64 c)), (.p (.int .i64 d))])])], 66, none⟩) .qed)))) (.both (.need y1 (.need (I.hid (α := (Prop)) True) (.fin (.ret (.tup [(.agg [(.p (.int .i64 a)), (.p (.int .i64 c)), (.p (.int .i64 d)), (.p (.list .byte s))]), (.one (.p (.list .byte bh))), (.one (.p (.bool y0)))])) []))) (.need y1 (.need (I.hid (α := (Prop)) True) (.fin (.ret (.tup [(.agg [(.p (.int .i64 a)), (.p (.int .i64 c)), (.p (.int .i64 d)), (.p (.list .byte s))]), (.one (.p (.list .byte bh))), (.one (.p (.bool y0)))])) []))))) (by kernel_rfl) ?_
    simp only [instL]
    subst hI
    simp only [nrmA, nrmB, nrlB, reduceCtorEq]
    refine ⟨fun _ => ⟨fun e => ?_, fun e => ⟨by omega, ?_⟩⟩, fun h => (by omega)⟩
    · rw [hfail (by omega) e]; exact ⟨rfl, rfl, rfl⟩
    · refine hA (1, (num s).1, c, d, (num s).2.1) ⟨by omega, hle, ?_⟩ (by simp only; omega)
      rw [← hthr, thr, thr, three, show num s = ((num s).1, (num s).2.1, true) by rw [← e]]
  · refine ev_rule (let y0 := I.hid (α := Bool) (Go.Jrn.mayM (Go.Ab.Ent.mk a c d s)); let y1 := I.hid (α := (Prop)) (LE.le (List.length s) 100000000); .br (I.ilt (Nat.cast 1) 3) (.need (I.hid (α := (Prop)) True) (.br (I.bnot (I.hid (α := Bool) (Prod.snd (Prod.snd (Go.Jrn.num s))))) (.fin (.ret (.tup [(.agg [(.p (.int .i64 0)), (.p (.int .i64 0)), (.p (.int .i64 0)), (.p (.list .byte ([] : List UInt8)))]), (.one (.p (.list .byte ([] : List UInt8)))), (.one (.p (.bool Bool.false)))])) []) (.need (I.inr Go.IntKind.i64 (I.add (Nat.cast 1) 1)) (.need (A ⟨[(2, (.v (.one (.ptr 0 0)))), (8, (.v (.one (.p (.list .byte (I.hid (α := (List UInt8)) (Prod.fst (Prod.snd (Go.Jrn.num s))))))))), (9, (.v (.one (.p (.list .byte bh))))), (10, (.v (.one (.ptr 1 0)))), (38, (.v (.one (.p (.int .i64 (I.add (Nat.cast 1) 1))))))], [(.pack [(.obj 97 [(.p (.int .i64 0)), (.p (.int .i64 0)), (.p (.int .i64 0)), .nilS])]), (.pack [(.obj 133 [(.p (.int .i64 a)), (.p (.int .i64 (I.hid (α := Int) (Prod.fst (Go.Jrn.num s))))), (.p (.int .i64 d))])])], 66, none⟩) .qed)))) (.both (.need y1 (.need (I.hid (α := (Prop)) True) (.fin (.ret (.tup [(.agg [(.p (.int .i64 a)), (.p (.int .i64 c)), (.p (.int .i64 d)), (.p (.list .byte s))]), (.one (.p (.list .byte bh))), (.one (.p (.bool y0)))])) []))) (.need y1 (.need (I.hid (α := (Prop)) True) (.fin (.ret (.tup [(.agg [(.p (.int .i64 a)), (.p (.int .i64 c)), (.p (.int .i64 d)), (.p (.list .byte s))]), (.one (.p (.list .byte bh))), (.one (.p (.bool y0)))])) []))))) (by kernel_rfl) ?_
    simp only [instL]
    subst hI
    simp only [nrmA, nrmB, nrlB, reduceCtorEq]
    refine ⟨fun _ => ⟨fun e => ?_, fun e => ⟨by omega, ?_⟩⟩, fun h => (by omega)⟩
    · rw [hfail (by omega) e]; exact ⟨rfl, rfl, rfl⟩
    · refine hA (2, a, (num s).1, d, (num s).2.1) ⟨by omega, hle, ?_⟩ (by simp only; omega)
      rw [← hthr, thr, thr, show num s = ((num s).1, (num s).2.1, true) by rw [← e]]
  · refine ev_rule (let y0 := I.hid (α := Bool) (Go.Jrn.mayM (Go.Ab.Ent.mk a c d s)); let y1 := I.hid (α := (Prop)) (LE.le (List.length s) 100000000); .br (I.ilt (Nat.cast 2) 3) (.need (I.hid (α := (Prop)) True) (.br (I.bnot (I.hid (α := Bool) (Prod.snd (Prod.snd (Go.Jrn.num s))))) (.fin (.ret (.tup [(.agg [(.p (.int .i64 0)), (.p (.int .i64 0)), (.p (.int .i64 0)), (.p (.list .byte ([] : List UInt8)))]), (.one (.p (.list .byte ([] : List UInt8)))), (.one (.p (.bool Bool.false)))])) []) (.need (I.inr Go.IntKind.i64 (I.add (Nat.cast 2) 1)) (.need (A ⟨[(2, (.v (.one (.ptr 0 0)))), (8, (.v (.one (.p (.list .byte (I.hid (α := (List UInt8)) (Prod.fst (Prod.snd (Go.Jrn.num s))))))))), (9, (.v (.one (.p (.list .byte bh))))), (10, (.v (.one (.ptr 1 0)))), (38, (.v (.one (.p (.int .i64 (I.add (Nat.cast 2) 1))))))], [(.pack [(.obj 97 [(.p (.int .i64 0)), (.p (.int .i64 0)), (.p (.int .i64 0)), .nilS])]), (.pack [(.obj 133 [(.p (.int .i64 a)), (.p (.int .i64 c)), (.p (.int .i64 (I.hid (α := Int) (Prod.fst (Go.Jrn.num s)))))])])], 66, none⟩) .qed)))) (.both (.need y1 (.need (I.hid (α := (Prop)) True) (.fin (.ret (.tup [(.agg [(.p (.int .i64 a)), (.p (.int .i64 c)), (.p (.int .i64 d)), (.p (.list .byte s))]), (.one (.p (.list .byte bh))), (.one (.p (.bool y0)))])) []))) (.need y1 (.need (I.hid (α := (Prop)) True) (.fin (.ret (.tup [(.agg [(.p (.int .i64 a)), (.p (.int .i64 c)), (.p (.int .i64 d)), (.p (.list .byte s))]), (.one (.p (.list .byte bh))), (.one (.p (.bool y0)))])) []))))) (by kernel_rfl) ?_
    simp only [instL]
    subst hI
    simp only [nrmA, nrmB, nrlB, reduceCtorEq]
    refine ⟨fun _ => ⟨fun e => ?_, fun e => ⟨by omega, ?_⟩⟩, fun h => (by omega)⟩
    · rw [hfail (by omega) e]; exact ⟨rfl, rfl, rfl⟩
    · refine hA (3, a, c, (num s).1, (num s).2.1) ⟨by omega, hle, ?_⟩ (by simp only; omega)
      have e2 : num s = ((num s).1, (num s).2.1, true) := by rw [← e]
      rw [← hthr]
      simp only [thr]
      generalize num s = z at *
      obtain ⟨z1, z2, z3⟩ := z
      simp only at e
      subst e; rfl
  · refine ev_rule (let y0 := I.hid (α := Bool) (Go.Jrn.mayM (Go.Ab.Ent.mk a c d s)); let y1 := I.hid (α := (Prop)) (LE.le (List.length s) 100000000); .br (I.ilt (Nat.cast 3) 3) (.need (I.hid (α := (Prop)) True) (.stop 0)) (.both (.need y1 (.need (I.hid (α := (Prop)) True) (.fin (.ret (.tup [(.agg [(.p (.int .i64 a)), (.p (.int .i64 c)), (.p (.int .i64 d)), (.p (.list .byte s))]), (.one (.p (.list .byte bh))), (.one (.p (.bool y0)))])) []))) (.need y1 (.need (I.hid (α := (Prop)) True) (.fin (.ret (.tup [(.agg [(.p (.int .i64 a)), (.p (.int .i64 c)), (.p (.int .i64 d)), (.p (.list .byte s))]), (.one (.p (.list .byte bh))), (.one (.p (.bool y0)))])) []))))) (by kernel_rfl) ?_
    simp only [instL]
    subst hI
    simp only [nrmA, nrmB, nrlB, reduceCtorEq]
    rw [← hthr] at hx'
    simp only [thr] at hx'
    subst hx'
    have : s.length ≤ 100000000 := by omega
    exact ⟨fun h => (by omega), fun _ => ⟨⟨this, rfl, rfl, rfl⟩, this, rfl, rfl, rfl⟩⟩
def jone__c (I : Alg) (args : List D) (hp : List HO) : Option CT := match args, hp with
  | [.v (.one (.p (.list .byte b)))], [] => (fun (b : Str) => (some (.one ⟨I.hid (b.length ≤ 100000000), (.ret (.tup [(.agg [(.p (.int .i64 (I.hid ((oneX b).1.kind)))), (.p (.int .i64 (I.hid ((oneX b).1.id)))), (.p (.int .i64 (I.hid ((oneX b).1.n)))), (.p (.list .byte (I.hid ((oneX b).1.text))))]), (.one (.p (.list .byte (I.hid ((oneX b).2.1))))), (.one (.p (.bool (I.hid ((oneX b).2.2)))))])), []⟩) : Option CT)) b
  | _, _ => none
theorem jone__g : GoodC Tryz.prog 97 (jone__c alg) := by
  intro args hp r h
  unfold jone__c at h
  split at h
  · cases h; exact fun hn => jone_ _ hn
  · cases h
def jone__k : Know Tryz.prog := ⟨97, jone__c, jone__g⟩
def jone__l : Know Tryz.prog := ⟨97, fun I => lendC I (jone__c I), lendC_good jone__g⟩
end Go.Proofs.YtjapkdcomcgamaaGreatDoor
