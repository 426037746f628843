/- A store: a step of the laws. -/
import Derived.Test.YtjapkdcomcgamaaGreatDoorSplS
import Derived.Test.YtjapkdcomcgamaaGreatDoorStoA
set_option linter.all false
namespace Go.Proofs.YtjapkdcomcgamaaGreatDoor
open Go Go.Sep Go.Ab
set_option maxRecDepth 100000

/-- A sum that may run over. -/
def sumW (n : Int) : List Sst → Int
  | [] => n
  | x :: l => sumW (IntKind.i64.wrap (n + x.text.length)) l
def sumT : List Sst → Int
  | [] => 0
  | x :: l => x.text.length + sumT l
def greatM (l : List Sst) : Bool := decide (200 < l.length) || decide (20000 < sumW 0 l)
theorem sumT_nonneg : ∀ l : List Sst, 0 ≤ sumT l
  | [] => Int.le_refl _
  | x :: l => by have := sumT_nonneg l; simp only [sumT]; omega
theorem sumW_small : ∀ (l : List Sst) (n : Int), 0 ≤ n → n + l.length * 140737488355328 ≤ 9223372036854775807 → (∀ x ∈ l, x.text.length ≤ 140737488355328) → sumW n l = n + sumT l
  | [], n, _, _, _ => by simp [sumW, sumT]
  | x :: l, n, h0, h1, h2 => by
    have hx := h2 x (List.mem_cons_self ..)
    rw [List.length_cons] at h1
    have e : IntKind.i64.wrap (n + x.text.length) = n + x.text.length := wrap_id (k := .i64) (by rw [alg_inr, i64_min, i64_max]; omega)
    rw [sumW, e, sumW_small l _ (by omega) (by omega) (fun y hy => h2 y (List.mem_cons_of_mem _ hy)), sumT]
    omega
theorem sumT_mem : ∀ {l : List Sst} {x : Sst}, x ∈ l → (x.text.length : Int) ≤ sumT l
  | y :: l, x, h => by
    have := sumT_nonneg l
    simp only [sumT]
    rcases List.mem_cons.1 h with rfl | h
    · omega
    · have := sumT_mem h; omega
theorem great_few {l : List Sst} (hw : ∀ x ∈ l, x.text.length ≤ 140737488355328) (h : greatM l = false) : l.length ≤ 200 ∧ ∀ x ∈ l, x.text.length ≤ 20000 := by
  unfold greatM at h
  simp only [Bool.or_eq_false_iff, decide_eq_false_iff_not] at h
  have e := sumW_small l 0 (Int.le_refl _) (by omega) hw
  exact ⟨by omega, fun x hx => by have := sumT_mem hx; omega⟩


end Go.Proofs.YtjapkdcomcgamaaGreatDoor
namespace Go.Proofs.YtjapkdcomcgamaaGreatDoor
open Go Go.Sep Go.Ab Go.Jrn
set_option maxRecDepth 100000

structure Sto where
  l : List Upl
  n : Int
  b : Str
  s : Int
def stepE (n : Int) (x : Sst) : Ent :=
  if x.op = 0 then ⟨1, n + 1, x.n, x.text⟩ else if x.op = 1 then ⟨2, x.id, 0, x.text⟩ else if x.op = 2 then ⟨3, x.id, x.n, []⟩ else if x.op = 3 then ⟨4, x.id, 0, []⟩ else if x.op = 4 then ⟨5, x.id, 0, []⟩ else ⟨6, x.id, 0, []⟩
def stepG (l : List Upl) (x : Sst) : Bool := decide (x.op = 1) && apG l x.id x.n
def stepS (q : Sto) (x : Sst) : Sto :=
  if x.op = 7 then ⟨(crsP q.b q.s x.n).1, (crsP q.b q.s x.n).2, crsB q.b q.s x.n, ((crsB q.b q.s x.n).length : Int)⟩
  else if x.op = 6 then ⟨q.l, q.n, q.b, (q.b.length : Int)⟩
  else if 0 ≤ x.op ∧ x.op ≤ 5 ∧ stepG q.l x = false then ⟨wrtL q.l q.n q.b (stepE q.n x), wrtN q.l q.n q.b (stepE q.n x), wrtB q.l q.n q.b (stepE q.n x), q.s⟩
  else q
def stepC (q : Sto) (x : Sst) : Int := if 0 ≤ x.op ∧ x.op ≤ 5 then (if stepG q.l x then 17 else wrtC q.l q.n q.b (stepE q.n x)) else 0
def stepI (q : Sto) (x : Sst) : Int := if x.op = 0 ∧ wrtC q.l q.n q.b (stepE q.n x) = 0 then q.n + 1 else 0
structure StoOk (q : Sto) : Prop where
  spl : SplOk q.l q.n
  n : q.n ≤ 150000
  b : q.b.length ≤ 100000
  s0 : 0 ≤ q.s
  s1 : q.s ≤ q.b.length

set_option maxHeartbeats 4000000 in
theorem step_ (l : List Upl) (n : Int) (b : Str) (s o d m : Int) (t : Str) (hneed : SplOk l n ∧ n ≤ 200000 ∧ t.length ≤ 1000000 ∧ b.length ≤ 100000 ∧ 0 ≤ s ∧ s ≤ b.length) : Spc Tryz.prog 10 [.v (.one (.ptr 0 0)), .v (.agg [(.p (.int .i64 o)), (.p (.int .i64 d)), (.p (.int .i64 m)), (.p (.str t))])] [.pack [.obj 47 [(.ptr 1 0), (.ptr 2 0)], .pack [.obj 79 [(.row 1), (.p (.int .i64 n))], .row .upl 70 l], .pack [.obj 107 [(.row 1), (.p (.int .i64 s))], .row .byte 5 b]]] (.ret (.tup [(.one (.p (.int .i64 ((stepI ⟨l, n, b, s⟩ ⟨o, d, m, t⟩))))), (.one (.p (.int .i64 ((stepC ⟨l, n, b, s⟩ ⟨o, d, m, t⟩)))))])) [.pack [.obj 47 [(.ptr 1 0), (.ptr 2 0)], .pack [.obj 79 [(.row 1), (.p (.int .i64 ((stepS ⟨l, n, b, s⟩ ⟨o, d, m, t⟩).n)))], .row .upl 70 ((stepS ⟨l, n, b, s⟩ ⟨o, d, m, t⟩).l)], .pack [.obj 107 [(.row 1), (.p (.int .i64 ((stepS ⟨l, n, b, s⟩ ⟨o, d, m, t⟩).s)))], .row .byte 5 ((stepS ⟨l, n, b, s⟩ ⟨o, d, m, t⟩).b)]]] := by
  obtain ⟨hs, hn, ht, hb, h0, h1⟩ := hneed
  generalize hI' : stepI ⟨l, n, b, s⟩ ⟨o, d, m, t⟩ = i'
  generalize hC : stepC ⟨l, n, b, s⟩ ⟨o, d, m, t⟩ = c'
  generalize hS : stepS ⟨l, n, b, s⟩ ⟨o, d, m, t⟩ = q'
  refine spcG tab_ok mixed Tryz.func10 (by kernel_rfl) { cfgSt with fz := [30], keep := some [0, 1, 3, 4, 5, 7] } [stoCreate__k, stoCreate__l, stoAppend__k, stoAppend__l, stoDeclare__k, stoDeclare__l, stoDrop__k, stoDrop__l, stoBegin__k, stoBegin__l, stoEnd__k, stoEnd__l, stoSync__k, stoSync__l, stoCrash__k, stoCrash__l] (by kernel_rfl) ?_
  intro I X hI hX
  refine ev_rule (let y0 := I.hid (α := (Prop)) (And (SplOk l n) (And (LE.le n (200000 : Int)) (LE.le (List.length b) 100000))); let y1 := I.hid (α := (Prop)) (And (SplOk l n) (And (LE.le n (200000 : Int)) (And (LE.le (List.length t) 1000000) (LE.le (List.length b) 100000)))); .br (I.ieq o 0) (.need y1 (.fin (.ret (.tup [(.one (.p (.int .i64 (I.hid (α := Int) (ite (Eq (wrtC l n b (Go.Ab.Ent.mk (1 : Int) (HAdd.hAdd n (1 : Int)) m t)) (0 : Int)) (HAdd.hAdd n (1 : Int)) (0 : Int)))))), (.one (.p (.int .i64 (I.hid (α := Int) (wrtC l n b (Go.Ab.Ent.mk (1 : Int) (HAdd.hAdd n (1 : Int)) m t))))))])) [(.pack [(.obj 47 [(.ptr 1 0), (.ptr 2 0)]), (.pack [(.obj 79 [(.row 1), (.p (.int .i64 (I.hid (α := Int) (wrtN l n b (Go.Ab.Ent.mk (1 : Int) (HAdd.hAdd n (1 : Int)) m t)))))]), (.row .upl 70 (I.hid (α := (List Go.Ab.Upl)) (wrtL l n b (Go.Ab.Ent.mk (1 : Int) (HAdd.hAdd n (1 : Int)) m t))))]), (.pack [(.obj 107 [(.row 1), (.p (.int .i64 s))]), (.row .byte 5 (I.hid (α := (List UInt8)) (wrtB l n b (Go.Ab.Ent.mk (1 : Int) (HAdd.hAdd n (1 : Int)) m t))))])])])) (.br (I.ieq o 1) (.need y1 (.fin (.ret (.tup [(.one (.p (.int .i64 0))), (.one (.p (.int .i64 (I.hid (α := Int) (ite (Eq (apG l d m) Bool.true) (17 : Int) (wrtC l n b (Go.Ab.Ent.mk (2 : Int) d (0 : Int) t)))))))])) [(.pack [(.obj 47 [(.ptr 1 0), (.ptr 2 0)]), (.pack [(.obj 79 [(.row 1), (.p (.int .i64 (I.hid (α := Int) (ite (Eq (apG l d m) Bool.true) n (wrtN l n b (Go.Ab.Ent.mk (2 : Int) d (0 : Int) t))))))]), (.row .upl 70 (I.hid (α := (List Go.Ab.Upl)) (ite (Eq (apG l d m) Bool.true) l (wrtL l n b (Go.Ab.Ent.mk (2 : Int) d (0 : Int) t)))))]), (.pack [(.obj 107 [(.row 1), (.p (.int .i64 s))]), (.row .byte 5 (I.hid (α := (List UInt8)) (ite (Eq (apG l d m) Bool.true) b (wrtB l n b (Go.Ab.Ent.mk (2 : Int) d (0 : Int) t)))))])])])) (.br (I.ieq o 2) (.need y0 (.fin (.ret (.tup [(.one (.p (.int .i64 0))), (.one (.p (.int .i64 (I.hid (α := Int) (wrtC l n b (Go.Ab.Ent.mk (3 : Int) d m ([] : List UInt8)))))))])) [(.pack [(.obj 47 [(.ptr 1 0), (.ptr 2 0)]), (.pack [(.obj 79 [(.row 1), (.p (.int .i64 (I.hid (α := Int) (wrtN l n b (Go.Ab.Ent.mk (3 : Int) d m ([] : List UInt8))))))]), (.row .upl 70 (I.hid (α := (List Go.Ab.Upl)) (wrtL l n b (Go.Ab.Ent.mk (3 : Int) d m ([] : List UInt8)))))]), (.pack [(.obj 107 [(.row 1), (.p (.int .i64 s))]), (.row .byte 5 (I.hid (α := (List UInt8)) (wrtB l n b (Go.Ab.Ent.mk (3 : Int) d m ([] : List UInt8)))))])])])) (.br (I.ieq o 3) (.need y0 (.fin (.ret (.tup [(.one (.p (.int .i64 0))), (.one (.p (.int .i64 (I.hid (α := Int) (wrtC l n b (Go.Ab.Ent.mk (4 : Int) d (0 : Int) ([] : List UInt8)))))))])) [(.pack [(.obj 47 [(.ptr 1 0), (.ptr 2 0)]), (.pack [(.obj 79 [(.row 1), (.p (.int .i64 (I.hid (α := Int) (wrtN l n b (Go.Ab.Ent.mk (4 : Int) d (0 : Int) ([] : List UInt8))))))]), (.row .upl 70 (I.hid (α := (List Go.Ab.Upl)) (wrtL l n b (Go.Ab.Ent.mk (4 : Int) d (0 : Int) ([] : List UInt8)))))]), (.pack [(.obj 107 [(.row 1), (.p (.int .i64 s))]), (.row .byte 5 (I.hid (α := (List UInt8)) (wrtB l n b (Go.Ab.Ent.mk (4 : Int) d (0 : Int) ([] : List UInt8)))))])])])) (.br (I.ieq o 4) (.need y0 (.fin (.ret (.tup [(.one (.p (.int .i64 0))), (.one (.p (.int .i64 (I.hid (α := Int) (wrtC l n b (Go.Ab.Ent.mk (5 : Int) d (0 : Int) ([] : List UInt8)))))))])) [(.pack [(.obj 47 [(.ptr 1 0), (.ptr 2 0)]), (.pack [(.obj 79 [(.row 1), (.p (.int .i64 (I.hid (α := Int) (wrtN l n b (Go.Ab.Ent.mk (5 : Int) d (0 : Int) ([] : List UInt8))))))]), (.row .upl 70 (I.hid (α := (List Go.Ab.Upl)) (wrtL l n b (Go.Ab.Ent.mk (5 : Int) d (0 : Int) ([] : List UInt8)))))]), (.pack [(.obj 107 [(.row 1), (.p (.int .i64 s))]), (.row .byte 5 (I.hid (α := (List UInt8)) (wrtB l n b (Go.Ab.Ent.mk (5 : Int) d (0 : Int) ([] : List UInt8)))))])])])) (.br (I.ieq o 5) (.need y0 (.fin (.ret (.tup [(.one (.p (.int .i64 0))), (.one (.p (.int .i64 (I.hid (α := Int) (wrtC l n b (Go.Ab.Ent.mk (6 : Int) d (0 : Int) ([] : List UInt8)))))))])) [(.pack [(.obj 47 [(.ptr 1 0), (.ptr 2 0)]), (.pack [(.obj 79 [(.row 1), (.p (.int .i64 (I.hid (α := Int) (wrtN l n b (Go.Ab.Ent.mk (6 : Int) d (0 : Int) ([] : List UInt8))))))]), (.row .upl 70 (I.hid (α := (List Go.Ab.Upl)) (wrtL l n b (Go.Ab.Ent.mk (6 : Int) d (0 : Int) ([] : List UInt8)))))]), (.pack [(.obj 107 [(.row 1), (.p (.int .i64 s))]), (.row .byte 5 (I.hid (α := (List UInt8)) (wrtB l n b (Go.Ab.Ent.mk (6 : Int) d (0 : Int) ([] : List UInt8)))))])])])) (.br (I.ieq o 6) (.need (I.hid (α := (Prop)) True) (.fin (.ret (.tup [(.one (.p (.int .i64 0))), (.one (.p (.int .i64 0)))])) [(.pack [(.obj 47 [(.ptr 1 0), (.ptr 2 0)]), (.pack [(.obj 79 [(.row 1), (.p (.int .i64 n))]), (.row .upl 70 l)]), (.pack [(.obj 107 [(.row 1), (.p (.int .i64 (I.hid (α := Int) (Nat.cast (List.length b)))))]), (.row .byte 5 b)])])])) (.br (I.ieq o 7) (.need (I.hid (α := (Prop)) (And (LE.le (List.length b) 100000) (And (LE.le (0 : Int) s) (LE.le s (Nat.cast (List.length b)))))) (.fin (.ret (.tup [(.one (.p (.int .i64 0))), (.one (.p (.int .i64 0)))])) [(.pack [(.obj 47 [(.ptr 1 0), (.ptr 2 0)]), (.pack [(.obj 79 [(.row 1), (.p (.int .i64 (I.hid (α := Int) (Prod.snd (crsP b s m)))))]), (.row .upl 70 (I.hid (α := (List Go.Ab.Upl)) (Prod.fst (crsP b s m))))]), (.pack [(.obj 107 [(.row 1), (.p (.int .i64 (I.hid (α := Int) (Nat.cast (List.length (crsB b s m))))))]), (.row .byte 5 (I.hid (α := (List UInt8)) (crsB b s m)))])])])) (.fin (.ret (.tup [(.one (.p (.int .i64 0))), (.one (.p (.int .i64 0)))])) [(.pack [(.obj 47 [(.ptr 1 0), (.ptr 2 0)]), (.pack [(.obj 79 [(.row 1), (.p (.int .i64 n))]), (.row .upl 70 l)]), (.pack [(.obj 107 [(.row 1), (.p (.int .i64 s))]), (.row .byte 5 b)])])]))))))))) (by kernel_rfl) ?_
  simp only [instL]
  subst hI
  simp only [nrmA, nrmB, nrlB, reduceCtorEq, HO.pack.injEq, HO.obj.injEq]
  unfold stepI stepE at hI'
  unfold stepC stepG stepE at hC
  unfold stepS stepG stepE at hS
  simp only at hI' hC hS
  have hcase : o = 0 ∨ o = 1 ∨ o = 2 ∨ o = 3 ∨ o = 4 ∨ o = 5 ∨ o = 6 ∨ o = 7 ∨ (o < 0 ∨ 7 < o) := by omega
  rcases hcase with rfl | rfl | rfl | rfl | rfl | rfl | rfl | rfl | ho
  · simp at hI' hC hS
    subst hI'; subst hC; subst hS
    (repeat' (first | refine And.intro ?_ ?_ | intro _)) <;> first | omega | exact True.intro | exact False.elim ‹False› | skip
    all_goals first
      | exact hs
      | exact hn
      | exact ht
      | exact hb
      | exact h0
      | exact h1
      | rfl
      | omega
      | contradiction
      | trace_state
  · by_cases hg : apG l d m = true
    · simp [hg] at hI' hC hS
      subst hI'; subst hC; subst hS
      simp only [hg, if_true]
      (repeat' (first | refine And.intro ?_ ?_ | intro _)) <;> first | omega | exact True.intro | exact False.elim ‹False› | skip
      all_goals first
        | exact hs
        | exact hn
        | exact ht
        | exact hb
        | exact h0
        | exact h1
        | rfl
        | omega
        | contradiction
        | trace_state
    · simp only [Bool.not_eq_true] at hg
      simp [hg] at hI' hC hS
      subst hI'; subst hC; subst hS
      simp only [hg, Bool.false_eq_true, if_false]
      (repeat' (first | refine And.intro ?_ ?_ | intro _)) <;> first | omega | exact True.intro | exact False.elim ‹False› | skip
      all_goals first
        | exact hs
        | exact hn
        | exact ht
        | exact hb
        | exact h0
        | exact h1
        | rfl
        | omega
        | contradiction
        | trace_state
  · simp at hI' hC hS
    subst hI'; subst hC; subst hS
    (repeat' (first | refine And.intro ?_ ?_ | intro _)) <;> first | omega | exact True.intro | exact False.elim ‹False› | skip
    all_goals first
      | exact hs
      | exact hn
      | exact ht
      | exact hb
      | exact h0
      | exact h1
      | rfl
      | omega
      | contradiction
      | trace_state
  · simp at hI' hC hS
    subst hI'; subst hC; subst hS
    (repeat' (first | refine And.intro ?_ ?_ | intro _)) <;> first | omega | exact True.intro | exact False.elim ‹False› | skip
    all_goals first
      | exact hs
      | exact hn
      | exact ht
      | exact hb
      | exact h0
      | exact h1
      | rfl
      | omega
      | contradiction
      | trace_state
  · simp at hI' hC hS
    subst hI'; subst hC; subst hS
    (repeat' (first | refine And.intro ?_ ?_ | intro _)) <;> first | omega | exact True.intro | exact False.elim ‹False› | skip
    all_goals first
      | exact hs
      | exact hn
      | exact ht
      | exact hb
      | exact h0
      | exact h1
      | rfl
      | omega
      | contradiction
      | trace_state
  · simp at hI' hC hS
    subst hI'; subst hC; subst hS
    (repeat' (first | refine And.intro ?_ ?_ | intro _)) <;> first | omega | exact True.intro | exact False.elim ‹False› | skip
    all_goals first
      | exact hs
      | exact hn
      | exact ht
      | exact hb
      | exact h0
      | exact h1
      | rfl
      | omega
      | contradiction
      | trace_state
  · simp at hI' hC hS
    subst hI'; subst hC; subst hS
    (repeat' (first | refine And.intro ?_ ?_ | intro _)) <;> first | omega | exact True.intro | exact False.elim ‹False› | skip
    all_goals first
      | exact hs
      | exact hn
      | exact ht
      | exact hb
      | exact h0
      | exact h1
      | rfl
      | omega
      | contradiction
      | trace_state
  · simp at hI' hC hS
    subst hI'; subst hC; subst hS
    (repeat' (first | refine And.intro ?_ ?_ | intro _)) <;> first | omega | exact True.intro | exact False.elim ‹False› | skip
    all_goals first
      | exact hs
      | exact hn
      | exact ht
      | exact hb
      | exact h0
      | exact h1
      | rfl
      | omega
      | contradiction
      | trace_state
  · rw [if_neg (by omega)] at hI' hC
    rw [if_neg (by omega), if_neg (by omega), if_neg (by omega)] at hS
    subst hI'; subst hC; subst hS
    (repeat' (first | refine And.intro ?_ ?_ | intro _)) <;> first | omega | exact True.intro | exact False.elim ‹False› | skip
    all_goals first
      | exact hs
      | exact hn
      | exact ht
      | exact hb
      | exact h0
      | exact h1
      | rfl
      | omega
      | contradiction
      | trace_state
def step__c (I : Alg) (args : List D) (hp : List HO) : Option CT := match args, hp with
  | [.v (.one (.ptr 0 0)), .v (.agg [(.p (.int .i64 o)), (.p (.int .i64 d)), (.p (.int .i64 m)), (.p (.str t))])], [.pack [.obj 47 [(.ptr 1 0), (.ptr 2 0)], .pack [.obj 79 [(.row 1), (.p (.int .i64 n))], .row .upl 70 l], .pack [.obj 107 [(.row 1), (.p (.int .i64 s))], .row .byte 5 b]]] => (fun (l : List Upl) (n : Int) (b : Str) (s o d m : Int) (t : Str) => (some (.one ⟨I.hid (SplOk l n ∧ n ≤ 200000 ∧ t.length ≤ 1000000 ∧ b.length ≤ 100000 ∧ 0 ≤ s ∧ s ≤ b.length), (.ret (.tup [(.one (.p (.int .i64 (I.hid ((stepI ⟨l, n, b, s⟩ ⟨o, d, m, t⟩)))))), (.one (.p (.int .i64 (I.hid ((stepC ⟨l, n, b, s⟩ ⟨o, d, m, t⟩))))))])), [.pack [.obj 47 [(.ptr 1 0), (.ptr 2 0)], .pack [.obj 79 [(.row 1), (.p (.int .i64 (I.hid ((stepS ⟨l, n, b, s⟩ ⟨o, d, m, t⟩).n))))], .row .upl 70 (I.hid ((stepS ⟨l, n, b, s⟩ ⟨o, d, m, t⟩).l))], .pack [.obj 107 [(.row 1), (.p (.int .i64 (I.hid ((stepS ⟨l, n, b, s⟩ ⟨o, d, m, t⟩).s))))], .row .byte 5 (I.hid ((stepS ⟨l, n, b, s⟩ ⟨o, d, m, t⟩).b))]]]⟩) : Option CT)) l n b s o d m t
  | _, _ => none
theorem step__g : GoodC Tryz.prog 10 (step__c alg) := by
  intro args hp r h
  unfold step__c at h
  split at h
  · cases h; exact fun hn => step_ _ _ _ _ _ _ _ _ hn
  · cases h
def step__k : Know Tryz.prog := ⟨10, step__c, step__g⟩
def step__l : Know Tryz.prog := ⟨10, fun I => lendC I (step__c I), lendC_good step__g⟩

def greatStM (l : List Sst) : Bool := decide (150 < l.length) || decide (20000 < sumW 0 l)
theorem greatSt_ (l : List Sst) (hneed : l.length ≤ 140737488355328) : Spc Tryz.prog 7 [.v (.one (.p (.list .sst l)))] [] (.ret (.v (.one (.p (.bool (greatStM l)))))) [] := by
  generalize hr : greatStM l = r
  refine spcG tab_ok mixed Tryz.func7 (by kernel_rfl) { wrp := true, keep := some [0, 2, 3, 4] } [] (by kernel_rfl) ?_
  intro I X hI hX
  refine ev_rule (.code 0 [1, 1, 0, 1, 0] ⟨[(4, (.v (.one (.p (.int .i64 0))))), (3, (.v (.one (.p (.int .i64 0))))), (2, (.v (.one (.p (.val (.bool .false)))))), (0, (.v (.one (.p (.list .sst l)))))], [], 26, none⟩) (by kernel_rfl) ?_
  simp only [instL]
  refine loop_inv hI tab_ok mixed [] hX [0, 3, 4] (fun (g : Nat × Int) => match g with | (i, n) => i ≤ l.length ∧ sumW n (l.drop i) = sumW 0 l) (fun (g : Nat × Int) => match g with | (i, n) => ⟨[(0, .v (.one (.p (.list .sst l)))), (3, .v (.one (.p (.int .i64 n)))), (4, .v (.one (.p (.int .i64 i))))], [], 26, none⟩) (fun (g : Nat × Int) => match g with | (i, n) => l.length - i) (0, 0) (by kernel_rfl) (by kernel_rfl) ?_ ?_
  · exact ⟨Nat.zero_le _, rfl⟩
  rintro ⟨i, n⟩ ⟨h1, h2⟩ A hA
  simp only at hA
  refine ev_rule (let y0 := I.inb (Nat.cast i) (I.len (α := Go.Ab.Sst) l); .br (I.ilt (Nat.cast i) (I.len (α := Go.Ab.Sst) l)) (.need y0 (.need y0 (.need (A ⟨[(0, (.v (.one (.p (.list .sst l))))), (3, (.v (.one (.p (.int .i64 (I.wrap Go.IntKind.i64 (I.add n (I.len (α := UInt8) (Go.Ab.Sst.text (I.get (α := Go.Ab.Sst) l (Go.Ab.Sst.mk (0 : Int) (0 : Int) (0 : Int) ([] : List UInt8)) (Nat.cast i))))))))))), (4, (.v (.one (.p (.int .i64 (I.wrap Go.IntKind.i64 (I.add (Nat.cast i) 1)))))))], [], 26, none⟩) .qed))) (.br (I.ilt 150 (I.len (α := Go.Ab.Sst) l)) (.fin (.ret (.v (.one (.p (.bool Bool.true))))) []) (.fin (.ret (.v (.one (.p (.bool (I.ilt 20000 n)))))) []))) (by kernel_rfl) ?_
  simp only [instL]
  subst hI
  simp only [nrmA, nrmB]
  have hd : i < l.length → sumW n (l.drop i) = sumW (IntKind.i64.wrap (n + (l.getD i ⟨0, 0, 0, []⟩).text.length)) (l.drop (i + 1)) := fun h => by
    rw [List.drop_eq_getElem_cons h, sumW]; simp [h]
  have hend : ¬ i < l.length → n = sumW 0 l := fun h => by rw [← h2, List.drop_of_length_le (by omega)]; rfl
  generalize l.getD i ⟨0, 0, 0, []⟩ = x at *
  have hrm : r = (decide (150 < l.length) || decide (20000 < sumW 0 l)) := hr.symm
  refine ⟨fun c => ⟨by omega, by omega, ?_⟩, fun c => ⟨fun c2 => ?_, fun c2 => ?_⟩⟩
  · rw [show IntKind.i64.wrap ((i : Int) + 1) = ((i + 1 : Nat) : Int) from wrap_id (k := .i64) (by rw [alg_inr, i64_min, i64_max]; omega)]
    exact hA (i + 1, IntKind.i64.wrap (n + x.text.length)) ⟨by simp only; omega, by simp only; rw [← hd (by omega), h2]⟩ (by simp only; omega)
  · rw [hrm, decide_eq_true (by omega), Bool.true_or]
  · rw [hrm, hend (by omega), decide_eq_false (p := 150 < l.length) (by omega), Bool.false_or]
def greatSt__c (I : Alg) (args : List D) (hp : List HO) : Option CT := match args, hp with
  | [.v (.one (.p (.list .sst l)))], [] => (fun (l : List Sst) => (some (.one ⟨I.hid (l.length ≤ 140737488355328), (.ret (.v (.one (.p (.bool (I.hid (greatStM l))))))), []⟩) : Option CT)) l
  | _, _ => none
theorem greatSt__g : GoodC Tryz.prog 7 (greatSt__c alg) := by
  intro args hp r h
  unfold greatSt__c at h
  split at h
  · cases h; exact fun hn => greatSt_ _ hn
  · cases h
def greatSt__k : Know Tryz.prog := ⟨7, greatSt__c, greatSt__g⟩
def greatSt__l : Know Tryz.prog := ⟨7, fun I => lendC I (greatSt__c I), lendC_good greatSt__g⟩
theorem greatSt_few {l : List Sst} (hw : ∀ x ∈ l, x.text.length ≤ 140737488355328) (h : greatStM l = false) : l.length ≤ 150 ∧ ∀ x ∈ l, x.text.length ≤ 20000 := by
  unfold greatStM at h
  simp only [Bool.or_eq_false_iff, decide_eq_false_iff_not] at h
  have e := sumW_small l 0 (Int.le_refl _) (by omega) hw
  exact ⟨by omega, fun x hx => by have := sumT_mem hx; omega⟩

set_option maxHeartbeats 4000000 in
theorem stoBegun_  : Spc Tryz.prog 6 [] [] (.ret (.v (.one (.p (.bool true))))) [] := by
  refine spcG tab_ok mixed Tryz.func6 (by kernel_rfl) { cfgSt with fz := [30], keep := some [0, 1, 2, 3, 4, 5, 6] } [sGetB__k, sGetB__l, sGet__k, sGet__l, stoNew__k, stoNew__l, stoCreate__k, stoCreate__l, stoAppend__k, stoAppend__l, stoSync__k, stoSync__l, stoCrash__k, stoCrash__l] (by kernel_rfl) ?_
  intro I X hI hX
  refine ev_rule (let y5 := I.hid (α := (List Go.Ab.Upl)) ([] : List Go.Ab.Upl); let y7 := I.hid (α := (List UInt8)) ([] : List UInt8); let y2 := I.hid (α := (List Go.Ab.Upl)) (wrtL y5 (0 : Int) y7 (Go.Ab.Ent.mk (1 : Int) (HAdd.hAdd (0 : Int) (1 : Int)) (3 : Int) (Array.toList (List.toArray ([] : List UInt8))))); let y1 := I.hid (α := (List UInt8)) (wrtB y5 (0 : Int) y7 (Go.Ab.Ent.mk (1 : Int) (HAdd.hAdd (0 : Int) (1 : Int)) (3 : Int) (Array.toList (List.toArray ([] : List UInt8))))); let y3 := I.hid (α := Int) (wrtN y5 (0 : Int) y7 (Go.Ab.Ent.mk (1 : Int) (HAdd.hAdd (0 : Int) (1 : Int)) (3 : Int) (Array.toList (List.toArray ([] : List UInt8))))); let y0 := I.hid (α := (List UInt8)) (ite (Eq (apG y2 (1 : Int) (0 : Int)) Bool.true) y1 (wrtB y2 y3 y1 (Go.Ab.Ent.mk (2 : Int) (1 : Int) (0 : Int) ([(I.i2b 97), (I.i2b 98)] : List UInt8)))); let y6 := I.hid (α := Int) (Nat.cast (List.length y1)); let y4 := I.hid (α := (List Go.Ab.Upl)) (Prod.fst (crsP y0 y6 (0 : Int))); .need (I.hid (α := (Prop)) True) (.need (I.hid (α := (Prop)) (And (SplOk y5 (0 : Int)) (And (LE.le (0 : Int) (200000 : Int)) (And (LE.le (List.length (Array.toList (List.toArray ([] : List UInt8)))) 1000000) (LE.le (List.length y7) 100000))))) (.need (I.hid (α := (Prop)) True) (.need (I.inr Go.IntKind.u8 97) (.need (I.inr Go.IntKind.u8 98) (.need (I.inb 0 (I.len (α := UInt8) ([(I.i2b 97), (I.i2b 98)] : List UInt8))) (.need (I.hid (α := (Prop)) (And (SplOk y2 y3) (And (LE.le y3 (200000 : Int)) (And (LE.le (List.length ([(I.i2b 97), (I.i2b 98)] : List UInt8)) 1000000) (LE.le (List.length y1) 100000))))) (.need (I.hid (α := (Prop)) (And (LE.le (List.length y0) 100000) (And (LE.le (0 : Int) y6) (LE.le y6 (Nat.cast (List.length y0)))))) (.need (I.hid (α := (Prop)) (SplOk y4 (I.hid (α := Int) (Prod.snd (crsP y0 y6 (0 : Int)))))) (.br (I.ieq (I.hid (α := Int) (ite (Eq (wrtC y5 (0 : Int) y7 (Go.Ab.Ent.mk (1 : Int) (HAdd.hAdd (0 : Int) (1 : Int)) (3 : Int) (Array.toList (List.toArray ([] : List UInt8))))) (0 : Int)) (HAdd.hAdd (0 : Int) (1 : Int)) (0 : Int))) 1) (.br (I.ieq (I.hid (α := Int) (wrtC y5 (0 : Int) y7 (Go.Ab.Ent.mk (1 : Int) (HAdd.hAdd (0 : Int) (1 : Int)) (3 : Int) (Array.toList (List.toArray ([] : List UInt8)))))) 0) (.br (I.ieq (I.hid (α := Int) (ite (Eq (apG y2 (1 : Int) (0 : Int)) Bool.true) (17 : Int) (wrtC y2 y3 y1 (Go.Ab.Ent.mk (2 : Int) (1 : Int) (0 : Int) ([(I.i2b 97), (I.i2b 98)] : List UInt8))))) 0) (.br (I.hid (α := Bool) (getB y4 (1 : Int))) (.br (I.ieq (I.len (α := UInt8) (I.hid (α := (List UInt8)) (Go.Ab.Upl.bytes (getU y4 (1 : Int))))) 0) (.fin (.ret (.v (.one (.p (.bool (I.ieq (I.hid (α := Int) (Go.Ab.Upl.size (getU y4 (1 : Int)))) 3)))))) []) (.fin (.ret (.v (.one (.p (.bool Bool.false))))) [])) (.fin (.ret (.v (.one (.p (.bool Bool.false))))) [])) (.fin (.ret (.v (.one (.p (.bool Bool.false))))) [])) (.fin (.ret (.v (.one (.p (.bool Bool.false))))) [])) (.fin (.ret (.v (.one (.p (.bool Bool.false))))) []))))))))))) (by kernel_rfl) ?_
  simp only [instL]
  subst hI
  simp only [nrmA, nrmB, nrlB, reduceCtorEq]
  (repeat' (first | refine And.intro ?_ ?_ | (intro h; first | exact absurd h (by decide +kernel) | clear h)))
  all_goals first
    | exact spl_nil
    | exact wrt_ok spl_nil _ _
    | exact replay_ok _ _ spl_nil
    | decide +kernel
    | trace_state
def stoBegun__c (I : Alg) (args : List D) (hp : List HO) : Option CT := match args, hp with
  | [], [] => (fun (_ : Unit) => (some (.one ⟨I.hid (True), (.ret (.v (.one (.p (.bool true))))), []⟩) : Option CT)) ()
  | _, _ => none
theorem stoBegun__g : GoodC Tryz.prog 6 (stoBegun__c alg) := by
  intro args hp r h
  unfold stoBegun__c at h
  split at h
  · cases h; exact fun hn => stoBegun_ 
  · cases h
def stoBegun__k : Know Tryz.prog := ⟨6, stoBegun__c, stoBegun__g⟩
def stoBegun__l : Know Tryz.prog := ⟨6, fun I => lendC I (stoBegun__c I), lendC_good stoBegun__g⟩
end Go.Proofs.YtjapkdcomcgamaaGreatDoor
