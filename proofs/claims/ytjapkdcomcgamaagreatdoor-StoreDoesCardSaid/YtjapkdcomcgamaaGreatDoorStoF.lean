/- A store: the law StoreDoes. -/
import Derived.Test.YtjapkdcomcgamaaGreatDoorStoE
import Derived.Test.YtjapkdcomcgamaaGreatDoorStoB
import Derived.Test.YtjapkdcomcgamaaGreatDoorStoQ
import Derived.Test.YtjapkdcomcgamaaGreatDoorSplS
set_option linter.all false
namespace Go.Proofs.YtjapkdcomcgamaaGreatDoor
open Go Go.Sep Go.Ab Go.Jrn
set_option maxRecDepth 100000

theorem stoRoom_ (l : List Upl) (n : Int) (b : Str) (s m : Int) (hneed : b.length ≤ 100000) : Spc Tryz.prog 17 [.v (.one (.ptr 0 0)), .v (.one (.p (.int .i64 m)))] [.pack [.obj 47 [(.ptr 1 0), (.ptr 2 0)], .pack [.obj 79 [(.row 1), (.p (.int .i64 n))], .row .upl 70 l], .pack [.obj 107 [(.row 1), (.p (.int .i64 s))], .row .byte 5 b]]] (.ret (.v (.one (.p (.bool ((roomB b m))))))) [.pack [.obj 47 [(.ptr 1 0), (.ptr 2 0)], .pack [.obj 79 [(.row 1), (.p (.int .i64 n))], .row .upl 70 l], .pack [.obj 107 [(.row 1), (.p (.int .i64 s))], .row .byte 5 b]]] := by
  refine spcG tab_ok mixed Tryz.func17 (by kernel_rfl) { cfgSt with keep := some [0, 1, 4] } [room__k, room__l] (by kernel_rfl) ?_
  intro I X hI hX
  refine ev_rule (.need (I.hid (α := (Prop)) (LE.le (List.length b) 100000000)) (.fin (.ret (.v (.one (.p (.bool (I.hid (α := Bool) (roomB b m))))))) [(.pack [(.obj 47 [(.ptr 1 0), (.ptr 2 0)]), (.pack [(.obj 79 [(.row 1), (.p (.int .i64 n))]), (.row .upl 70 l)]), (.pack [(.obj 107 [(.row 1), (.p (.int .i64 s))]), (.row .byte 5 b)])])])) (by kernel_rfl) ?_
  simp only [instL]
  subst hI
  simp only [nrmA, nrmB, nrlB, reduceCtorEq, HO.pack.injEq, HO.obj.injEq]
  (repeat' (first | refine And.intro ?_ ?_ | intro _)) <;> first | omega | exact True.intro | exact False.elim ‹False› | skip
def stoRoom__c (I : Alg) (args : List D) (hp : List HO) : Option CT := match args, hp with
  | [.v (.one (.ptr 0 0)), .v (.one (.p (.int .i64 m)))], [.pack [.obj 47 [(.ptr 1 0), (.ptr 2 0)], .pack [.obj 79 [(.row 1), (.p (.int .i64 n))], .row .upl 70 l], .pack [.obj 107 [(.row 1), (.p (.int .i64 s))], .row .byte 5 b]]] => (fun (l : List Upl) (n : Int) (b : Str) (s m : Int) => (some (.one ⟨I.hid (b.length ≤ 100000), (.ret (.v (.one (.p (.bool (I.hid ((roomB b m)))))))), [.pack [.obj 47 [(.ptr 1 0), (.ptr 2 0)], .pack [.obj 79 [(.row 1), (.p (.int .i64 n))], .row .upl 70 l], .pack [.obj 107 [(.row 1), (.p (.int .i64 s))], .row .byte 5 b]]]⟩) : Option CT)) l n b s m
  | _, _ => none
theorem stoRoom__g : GoodC Tryz.prog 17 (stoRoom__c alg) := by
  intro args hp r h
  unfold stoRoom__c at h
  split at h
  · cases h; exact fun hn => stoRoom_ _ _ _ _ _ hn
  · cases h
def stoRoom__k : Know Tryz.prog := ⟨17, stoRoom__c, stoRoom__g⟩
def stoRoom__l : Know Tryz.prog := ⟨17, fun I => lendC I (stoRoom__c I), lendC_good stoRoom__g⟩

set_option maxHeartbeats 4000000 in
theorem shStep_ (l : List Upl) (n : Int) (b : Str) (s o d m : Int) (t : Str) (hneed : SplOk l n ∧ n ≤ 200000 ∧ t.length ≤ 1000000 ∧ b.length ≤ 100000 ∧ 0 ≤ s ∧ s ≤ b.length) : Spc Tryz.prog 11 [.v (.one (.ptr 0 0)), .v (.agg [(.p (.int .i64 o)), (.p (.int .i64 d)), (.p (.int .i64 m)), (.p (.str t))])] [.pack [.obj 40 [(.ptr 1 0), (.row 2), (.p (.int .i64 s))], .pack [.obj 49 [(.row 1), (.p (.int .i64 n))], .row .upl 70 l], .row .byte 5 b]] (.ret (.tup [(.one (.p (.int .i64 ((stepI ⟨l, n, b, s⟩ ⟨o, d, m, t⟩))))), (.one (.p (.int .i64 ((stepC ⟨l, n, b, s⟩ ⟨o, d, m, t⟩)))))])) [.pack [.obj 40 [(.ptr 1 0), (.row 2), (.p (.int .i64 ((stepS ⟨l, n, b, s⟩ ⟨o, d, m, t⟩).s)))], .pack [.obj 49 [(.row 1), (.p (.int .i64 ((stepS ⟨l, n, b, s⟩ ⟨o, d, m, t⟩).n)))], .row .upl 70 ((stepS ⟨l, n, b, s⟩ ⟨o, d, m, t⟩).l)], .row .byte 5 ((stepS ⟨l, n, b, s⟩ ⟨o, d, m, t⟩).b)]] := by
  obtain ⟨hs, hn, ht, hb, h0, h1⟩ := hneed
  generalize hI' : stepI ⟨l, n, b, s⟩ ⟨o, d, m, t⟩ = i'
  generalize hC : stepC ⟨l, n, b, s⟩ ⟨o, d, m, t⟩ = c'
  generalize hS : stepS ⟨l, n, b, s⟩ ⟨o, d, m, t⟩ = q'
  refine spcG tab_ok mixed Tryz.func11 (by kernel_rfl) { cfgSh with fz := [40], keep := some [0, 1, 3, 4, 5, 7] } [shCreate__k, shCreate__l, shAppend__k, shAppend__l, shDeclare__k, shDeclare__l, shDrop__k, shDrop__l, shBegin__k, shBegin__l, shEnd__k, shEnd__l, shSync__k, shSync__l, shCrash__k, shCrash__l] (by kernel_rfl) ?_
  intro I X hI hX
  refine ev_rule (let y0 := I.hid (α := (Prop)) (And (SplOk l n) (And (LE.le n (200000 : Int)) (LE.le (List.length b) 100000))); let y1 := I.hid (α := (Prop)) (And (SplOk l n) (And (LE.le n (200000 : Int)) (And (LE.le (List.length t) 1000000) (LE.le (List.length b) 100000)))); .br (I.ieq o 0) (.need y1 (.fin (.ret (.tup [(.one (.p (.int .i64 (I.hid (α := Int) (ite (Eq (wrtC l n b (Go.Ab.Ent.mk (1 : Int) (HAdd.hAdd n (1 : Int)) m t)) (0 : Int)) (HAdd.hAdd n (1 : Int)) (0 : Int)))))), (.one (.p (.int .i64 (I.hid (α := Int) (wrtC l n b (Go.Ab.Ent.mk (1 : Int) (HAdd.hAdd n (1 : Int)) m t))))))])) [(.pack [(.obj 40 [(.ptr 1 0), (.row 2), (.p (.int .i64 s))]), (.pack [(.obj 49 [(.row 1), (.p (.int .i64 (I.hid (α := Int) (wrtN l n b (Go.Ab.Ent.mk (1 : Int) (HAdd.hAdd n (1 : Int)) m t)))))]), (.row .upl 70 (I.hid (α := (List Go.Ab.Upl)) (wrtL l n b (Go.Ab.Ent.mk (1 : Int) (HAdd.hAdd n (1 : Int)) m t))))]), (.row .byte 5 (I.hid (α := (List UInt8)) (wrtB l n b (Go.Ab.Ent.mk (1 : Int) (HAdd.hAdd n (1 : Int)) m t))))])])) (.br (I.ieq o 1) (.need y1 (.fin (.ret (.tup [(.one (.p (.int .i64 0))), (.one (.p (.int .i64 (I.hid (α := Int) (ite (Eq (apG l d m) Bool.true) (17 : Int) (wrtC l n b (Go.Ab.Ent.mk (2 : Int) d (0 : Int) t)))))))])) [(.pack [(.obj 40 [(.ptr 1 0), (.row 2), (.p (.int .i64 s))]), (.pack [(.obj 49 [(.row 1), (.p (.int .i64 (I.hid (α := Int) (ite (Eq (apG l d m) Bool.true) n (wrtN l n b (Go.Ab.Ent.mk (2 : Int) d (0 : Int) t))))))]), (.row .upl 70 (I.hid (α := (List Go.Ab.Upl)) (ite (Eq (apG l d m) Bool.true) l (wrtL l n b (Go.Ab.Ent.mk (2 : Int) d (0 : Int) t)))))]), (.row .byte 5 (I.hid (α := (List UInt8)) (ite (Eq (apG l d m) Bool.true) b (wrtB l n b (Go.Ab.Ent.mk (2 : Int) d (0 : Int) t)))))])])) (.br (I.ieq o 2) (.need y0 (.fin (.ret (.tup [(.one (.p (.int .i64 0))), (.one (.p (.int .i64 (I.hid (α := Int) (wrtC l n b (Go.Ab.Ent.mk (3 : Int) d m ([] : List UInt8)))))))])) [(.pack [(.obj 40 [(.ptr 1 0), (.row 2), (.p (.int .i64 s))]), (.pack [(.obj 49 [(.row 1), (.p (.int .i64 (I.hid (α := Int) (wrtN l n b (Go.Ab.Ent.mk (3 : Int) d m ([] : List UInt8))))))]), (.row .upl 70 (I.hid (α := (List Go.Ab.Upl)) (wrtL l n b (Go.Ab.Ent.mk (3 : Int) d m ([] : List UInt8)))))]), (.row .byte 5 (I.hid (α := (List UInt8)) (wrtB l n b (Go.Ab.Ent.mk (3 : Int) d m ([] : List UInt8)))))])])) (.br (I.ieq o 3) (.need y0 (.fin (.ret (.tup [(.one (.p (.int .i64 0))), (.one (.p (.int .i64 (I.hid (α := Int) (wrtC l n b (Go.Ab.Ent.mk (4 : Int) d (0 : Int) ([] : List UInt8)))))))])) [(.pack [(.obj 40 [(.ptr 1 0), (.row 2), (.p (.int .i64 s))]), (.pack [(.obj 49 [(.row 1), (.p (.int .i64 (I.hid (α := Int) (wrtN l n b (Go.Ab.Ent.mk (4 : Int) d (0 : Int) ([] : List UInt8))))))]), (.row .upl 70 (I.hid (α := (List Go.Ab.Upl)) (wrtL l n b (Go.Ab.Ent.mk (4 : Int) d (0 : Int) ([] : List UInt8)))))]), (.row .byte 5 (I.hid (α := (List UInt8)) (wrtB l n b (Go.Ab.Ent.mk (4 : Int) d (0 : Int) ([] : List UInt8)))))])])) (.br (I.ieq o 4) (.need y0 (.fin (.ret (.tup [(.one (.p (.int .i64 0))), (.one (.p (.int .i64 (I.hid (α := Int) (wrtC l n b (Go.Ab.Ent.mk (5 : Int) d (0 : Int) ([] : List UInt8)))))))])) [(.pack [(.obj 40 [(.ptr 1 0), (.row 2), (.p (.int .i64 s))]), (.pack [(.obj 49 [(.row 1), (.p (.int .i64 (I.hid (α := Int) (wrtN l n b (Go.Ab.Ent.mk (5 : Int) d (0 : Int) ([] : List UInt8))))))]), (.row .upl 70 (I.hid (α := (List Go.Ab.Upl)) (wrtL l n b (Go.Ab.Ent.mk (5 : Int) d (0 : Int) ([] : List UInt8)))))]), (.row .byte 5 (I.hid (α := (List UInt8)) (wrtB l n b (Go.Ab.Ent.mk (5 : Int) d (0 : Int) ([] : List UInt8)))))])])) (.br (I.ieq o 5) (.need y0 (.fin (.ret (.tup [(.one (.p (.int .i64 0))), (.one (.p (.int .i64 (I.hid (α := Int) (wrtC l n b (Go.Ab.Ent.mk (6 : Int) d (0 : Int) ([] : List UInt8)))))))])) [(.pack [(.obj 40 [(.ptr 1 0), (.row 2), (.p (.int .i64 s))]), (.pack [(.obj 49 [(.row 1), (.p (.int .i64 (I.hid (α := Int) (wrtN l n b (Go.Ab.Ent.mk (6 : Int) d (0 : Int) ([] : List UInt8))))))]), (.row .upl 70 (I.hid (α := (List Go.Ab.Upl)) (wrtL l n b (Go.Ab.Ent.mk (6 : Int) d (0 : Int) ([] : List UInt8)))))]), (.row .byte 5 (I.hid (α := (List UInt8)) (wrtB l n b (Go.Ab.Ent.mk (6 : Int) d (0 : Int) ([] : List UInt8)))))])])) (.br (I.ieq o 6) (.need (I.hid (α := (Prop)) True) (.fin (.ret (.tup [(.one (.p (.int .i64 0))), (.one (.p (.int .i64 0)))])) [(.pack [(.obj 40 [(.ptr 1 0), (.row 2), (.p (.int .i64 (I.hid (α := Int) (Nat.cast (List.length b)))))]), (.pack [(.obj 49 [(.row 1), (.p (.int .i64 n))]), (.row .upl 70 l)]), (.row .byte 5 b)])])) (.br (I.ieq o 7) (.need (I.hid (α := (Prop)) (And (LE.le (List.length b) 100000) (And (LE.le (0 : Int) s) (LE.le s (Nat.cast (List.length b)))))) (.fin (.ret (.tup [(.one (.p (.int .i64 0))), (.one (.p (.int .i64 0)))])) [(.pack [(.obj 40 [(.ptr 1 0), (.row 2), (.p (.int .i64 (I.hid (α := Int) (Nat.cast (List.length (crsB b s m))))))]), (.pack [(.obj 49 [(.row 1), (.p (.int .i64 (I.hid (α := Int) (Prod.snd (crsP b s m)))))]), (.row .upl 70 (I.hid (α := (List Go.Ab.Upl)) (Prod.fst (crsP b s m))))]), (.row .byte 5 (I.hid (α := (List UInt8)) (crsB b s m)))])])) (.fin (.ret (.tup [(.one (.p (.int .i64 0))), (.one (.p (.int .i64 0)))])) [(.pack [(.obj 40 [(.ptr 1 0), (.row 2), (.p (.int .i64 s))]), (.pack [(.obj 49 [(.row 1), (.p (.int .i64 n))]), (.row .upl 70 l)]), (.row .byte 5 b)])]))))))))) (by kernel_rfl) ?_
  simp only [instL]
  subst hI
  simp only [nrmA, nrmB, nrlB, reduceCtorEq, HO.pack.injEq, HO.obj.injEq]
  unfold stepI stepE at hI'
  unfold stepC stepG stepE at hC
  unfold stepS stepG stepE at hS
  simp only at hI' hC hS
  have hcase : o = 0 ∨ o = 1 ∨ o = 2 ∨ o = 3 ∨ o = 4 ∨ o = 5 ∨ o = 6 ∨ o = 7 ∨ (o < 0 ∨ 7 < o) := by omega
  rcases hcase with rfl | rfl | rfl | rfl | rfl | rfl | rfl | rfl | ho
  · simp at hI' hC hS
    subst hI'; subst hC; subst hS
    (repeat' (first | refine And.intro ?_ ?_ | intro _)) <;> first | omega | exact True.intro | exact False.elim ‹False› | skip
    all_goals first
      | exact hs
      | exact hn
      | exact ht
      | exact hb
      | exact h0
      | exact h1
      | rfl
      | omega
      | contradiction
      | trace_state
  · by_cases hg : apG l d m = true
    · simp [hg] at hI' hC hS
      subst hI'; subst hC; subst hS
      simp only [hg, if_true]
      (repeat' (first | refine And.intro ?_ ?_ | intro _)) <;> first | omega | exact True.intro | exact False.elim ‹False› | skip
      all_goals first
        | exact hs
        | exact hn
        | exact ht
        | exact hb
        | exact h0
        | exact h1
        | rfl
        | omega
        | contradiction
        | trace_state
    · simp only [Bool.not_eq_true] at hg
      simp [hg] at hI' hC hS
      subst hI'; subst hC; subst hS
      simp only [hg, Bool.false_eq_true, if_false]
      (repeat' (first | refine And.intro ?_ ?_ | intro _)) <;> first | omega | exact True.intro | exact False.elim ‹False› | skip
      all_goals first
        | exact hs
        | exact hn
        | exact ht
        | exact hb
        | exact h0
        | exact h1
        | rfl
        | omega
        | contradiction
        | trace_state
  · simp at hI' hC hS
    subst hI'; subst hC; subst hS
    (repeat' (first | refine And.intro ?_ ?_ | intro _)) <;> first | omega | exact True.intro | exact False.elim ‹False› | skip
    all_goals first
      | exact hs
      | exact hn
      | exact ht
      | exact hb
      | exact h0
      | exact h1
      | rfl
      | omega
      | contradiction
      | trace_state
  · simp at hI' hC hS
    subst hI'; subst hC; subst hS
    (repeat' (first | refine And.intro ?_ ?_ | intro _)) <;> first | omega | exact True.intro | exact False.elim ‹False› | skip
    all_goals first
      | exact hs
      | exact hn
      | exact ht
      | exact hb
      | exact h0
      | exact h1
      | rfl
      | omega
      | contradiction
      | trace_state
  · simp at hI' hC hS
    subst hI'; subst hC; subst hS
    (repeat' (first | refine And.intro ?_ ?_ | intro _)) <;> first | omega | exact True.intro | exact False.elim ‹False› | skip
    all_goals first
      | exact hs
      | exact hn
      | exact ht
      | exact hb
      | exact h0
      | exact h1
      | rfl
      | omega
      | contradiction
      | trace_state
  · simp at hI' hC hS
    subst hI'; subst hC; subst hS
    (repeat' (first | refine And.intro ?_ ?_ | intro _)) <;> first | omega | exact True.intro | exact False.elim ‹False› | skip
    all_goals first
      | exact hs
      | exact hn
      | exact ht
      | exact hb
      | exact h0
      | exact h1
      | rfl
      | omega
      | contradiction
      | trace_state
  · simp at hI' hC hS
    subst hI'; subst hC; subst hS
    (repeat' (first | refine And.intro ?_ ?_ | intro _)) <;> first | omega | exact True.intro | exact False.elim ‹False› | skip
    all_goals first
      | exact hs
      | exact hn
      | exact ht
      | exact hb
      | exact h0
      | exact h1
      | rfl
      | omega
      | contradiction
      | trace_state
  · simp at hI' hC hS
    subst hI'; subst hC; subst hS
    (repeat' (first | refine And.intro ?_ ?_ | intro _)) <;> first | omega | exact True.intro | exact False.elim ‹False› | skip
    all_goals first
      | exact hs
      | exact hn
      | exact ht
      | exact hb
      | exact h0
      | exact h1
      | rfl
      | omega
      | contradiction
      | trace_state
  · rw [if_neg (by omega)] at hI' hC
    rw [if_neg (by omega), if_neg (by omega), if_neg (by omega)] at hS
    subst hI'; subst hC; subst hS
    (repeat' (first | refine And.intro ?_ ?_ | intro _)) <;> first | omega | exact True.intro | exact False.elim ‹False› | skip
    all_goals first
      | exact hs
      | exact hn
      | exact ht
      | exact hb
      | exact h0
      | exact h1
      | rfl
      | omega
      | contradiction
      | trace_state
def shStep__c (I : Alg) (args : List D) (hp : List HO) : Option CT := match args, hp with
  | [.v (.one (.ptr 0 0)), .v (.agg [(.p (.int .i64 o)), (.p (.int .i64 d)), (.p (.int .i64 m)), (.p (.str t))])], [.pack [.obj 40 [(.ptr 1 0), (.row 2), (.p (.int .i64 s))], .pack [.obj 49 [(.row 1), (.p (.int .i64 n))], .row .upl 70 l], .row .byte 5 b]] => (fun (l : List Upl) (n : Int) (b : Str) (s o d m : Int) (t : Str) => (some (.one ⟨I.hid (SplOk l n ∧ n ≤ 200000 ∧ t.length ≤ 1000000 ∧ b.length ≤ 100000 ∧ 0 ≤ s ∧ s ≤ b.length), (.ret (.tup [(.one (.p (.int .i64 (I.hid ((stepI ⟨l, n, b, s⟩ ⟨o, d, m, t⟩)))))), (.one (.p (.int .i64 (I.hid ((stepC ⟨l, n, b, s⟩ ⟨o, d, m, t⟩))))))])), [.pack [.obj 40 [(.ptr 1 0), (.row 2), (.p (.int .i64 (I.hid ((stepS ⟨l, n, b, s⟩ ⟨o, d, m, t⟩).s))))], .pack [.obj 49 [(.row 1), (.p (.int .i64 (I.hid ((stepS ⟨l, n, b, s⟩ ⟨o, d, m, t⟩).n))))], .row .upl 70 (I.hid ((stepS ⟨l, n, b, s⟩ ⟨o, d, m, t⟩).l))], .row .byte 5 (I.hid ((stepS ⟨l, n, b, s⟩ ⟨o, d, m, t⟩).b))]]⟩) : Option CT)) l n b s o d m t
  | _, _ => none
theorem shStep__g : GoodC Tryz.prog 11 (shStep__c alg) := by
  intro args hp r h
  unfold shStep__c at h
  split at h
  · cases h; exact fun hn => shStep_ _ _ _ _ _ _ _ _ hn
  · cases h
def shStep__k : Know Tryz.prog := ⟨11, shStep__c, shStep__g⟩
def shStep__l : Know Tryz.prog := ⟨11, fun I => lendC I (shStep__c I), lendC_good shStep__g⟩

end Go.Proofs.YtjapkdcomcgamaaGreatDoor
