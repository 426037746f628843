/- A store: the law StoreDoes. -/
import Derived.Test.YtjapkdcomcgamaaGreatDoorStoF
set_option linter.all false
namespace Go.Proofs.YtjapkdcomcgamaaGreatDoor
open Go Go.Sep Go.Ab Go.Jrn
set_option maxRecDepth 100000

theorem get_smallZ {l : List Sst} (h : ∀ x ∈ l, x.text.length ≤ 20000) (i : Nat) : (l.getD i (⟨0, 0, 0, []⟩ : Sst)).text.length ≤ 1000000 := by
  rw [List.getD_eq_getElem?_getD]
  cases hq : l[i]? with
  | none => decide
  | some y => have := h y (List.mem_of_getElem? hq); simp only [Option.getD_some]; omega
set_option maxHeartbeats 4000000 in
theorem stDoes_ (l : List Sst) (room : Int) (hneed : l.length ≤ 140737488355328 ∧ ∀ x ∈ l, x.text.length ≤ 140737488355328) : Spc Tryz.prog 3 [.v (.one (.p (.list .sst l))), .v (.one (.p (.int .i64 room)))] [] (.ret (.v (.one (.p (.bool true))))) [] := by
  obtain ⟨hll, htx⟩ := hneed
  have hgf := greatSt_few (l := l) htx
  refine spcG tab_ok mixed Tryz.func3 (by kernel_rfl) { sl := cfgSt.sl ++ cfgSh.sl, seam := [12], keep := some [0, 1, 4, 5, 6, 7, 8, 9, 10, 11, 12, 13] } [sameBytes__k, sameBytes__l, sNext__k, sNext__l, sListB__k, sListB__l, sList__k, sList__l, stoNew__k, stoNew__l, stoLog__k, stoLog__l, sameU__k, sameU__l, sameUc__k, sameUc__l, step__k, step__l, greatSt__k, greatSt__l, stoBegun__k, stoBegun__l, shNew__k, shNew__l, shRoom__k, shRoom__l, stoRoom__k, stoRoom__l, shStep__k, shStep__l] (by kernel_rfl) ?_
  intro I X hI hX
  refine ev_rule (let y0 := I.hid (α := (List Go.Ab.Upl)) ([] : List Go.Ab.Upl); let y1 := I.hid (α := (List UInt8)) ([] : List UInt8); .need (I.hid (α := (Prop)) True) (.br (I.bnot Bool.true) (.fin (.ret (.v (.one (.p (.bool Bool.false))))) []) (.need (I.hid (α := (Prop)) (LE.le (List.length l) 140737488355328)) (.br (I.hid (α := Bool) (greatStM l)) (.fin (.ret (.v (.one (.p (.bool Bool.true))))) []) (.need (I.hid (α := (Prop)) True) (.need (I.hid (α := (Prop)) True) (.code 0 [1, 1, 1, 1, 0, 1, 0] ⟨[(7, (.v (.one (.p (.int .i64 0))))), (6, (.v (.one (.ptr 1 0)))), (5, (.v (.one (.ptr 0 0)))), (4, (.v (.one (.p (.val (.bool .false)))))), (0, (.v (.one (.p (.list .sst l))))), (1, (.v (.one (.p (.int .i64 room)))))], [(.pack [(.obj 47 [(.ptr 1 0), (.ptr 2 0)]), (.pack [(.obj 79 [(.row 1), (.p (.int .i64 0))]), (.row .upl 70 y0)]), (.pack [(.obj 107 [(.row 1), (.p (.int .i64 0))]), (.row .byte 5 y1)])]), (.pack [(.obj 40 [(.ptr 1 0), (.row 2), (.p (.int .i64 0))]), (.pack [(.obj 49 [(.row 1), (.p (.int .i64 0))]), (.row .upl 70 y0)]), (.row .byte 5 y1)])], 115, none⟩))))))) (by kernel_rfl) ?_
  simp only [instL]
  refine ⟨(by rw [hI]; trivial), fun h => (by rw [hI] at h; cases h), fun _ => ⟨(by rw [hI]; exact hll), fun _ => ⟨trivial, trivial⟩, fun h1 => ⟨(by rw [hI]; trivial), (by rw [hI]; trivial), ?_⟩⟩⟩
  have hg : l.length ≤ 150 ∧ ∀ x ∈ l, x.text.length ≤ 20000 := hgf (by rw [hI] at h1; exact h1)
  have hnil : (I.hid ([] : List Upl)) = [] := by rw [hI]; rfl
  have hnil2 : (I.hid ([] : Str)) = [] := by rw [hI]; rfl
  rw [hnil, hnil2]
  refine loop_inv hI tab_ok mixed [sameBytes__k, sameBytes__l, sNext__k, sNext__l, sListB__k, sListB__l, sList__k, sList__l, stoNew__k, stoNew__l, stoLog__k, stoLog__l, sameU__k, sameU__l, sameUc__k, sameUc__l, step__k, step__l, greatSt__k, greatSt__l, stoBegun__k, stoBegun__l, shNew__k, shNew__l, shRoom__k, shRoom__l, stoRoom__k, stoRoom__l, shStep__k, shStep__l] hX [0, 1, 5, 6, 7] (fun (g : Nat × Sto) => match g with | (i, q) => i ≤ l.length ∧ ∃ W k, Hist q W k) (fun (g : Nat × Sto) => match g with | (i, q) => ⟨[(0, .v (.one (.p (.list .sst l)))), (1, .v (.one (.p (.int .i64 room)))), (5, .v (.one (.ptr 0 0))), (6, .v (.one (.ptr 1 0))), (7, .v (.one (.p (.int .i64 i))))], [.pack [.obj 47 [(.ptr 1 0), (.ptr 2 0)], .pack [.obj 79 [(.row 1), (.p (.int .i64 q.n))], .row .upl 70 q.l], .pack [.obj 107 [(.row 1), (.p (.int .i64 q.s))], .row .byte 5 q.b]], .pack [.obj 40 [(.ptr 1 0), (.row 2), (.p (.int .i64 q.s))], .pack [.obj 49 [(.row 1), (.p (.int .i64 q.n))], .row .upl 70 q.l], .row .byte 5 q.b]], 115, none⟩) (fun (g : Nat × Sto) => match g with | (i, q) => l.length - i) (0, ⟨[], 0, [], 0⟩) (by kernel_rfl) (by kernel_rfl) ?_ ?_
  · exact ⟨Nat.zero_le _, [], 0, hist_nil⟩
  rintro ⟨i, q⟩ ⟨h3, h4⟩ A hA
  have hok : StoOk q := by obtain ⟨W, k, h⟩ := h4; exact hist_ok h
  obtain ⟨k1, k2, k3, k4, k5⟩ := hok
  simp only at hA h3 h4
  refine ev_rule (let y0 := I.get (α := Go.Ab.Sst) l (Go.Ab.Sst.mk (0 : Int) (0 : Int) (0 : Int) ([] : List UInt8)) (Nat.cast i); let y1 := I.hid (α := (List UInt8)) (Sto.b (stepS (Sto.mk (Sto.l q) (Sto.n q) (Sto.b q) (Sto.s q)) (Go.Ab.Sst.mk (Go.Ab.Sst.op y0) (Go.Ab.Sst.id y0) (Go.Ab.Sst.n y0) (Go.Ab.Sst.text y0)))); let y2 := I.hid (α := Int) (Sto.s (stepS (Sto.mk (Sto.l q) (Sto.n q) (Sto.b q) (Sto.s q)) (Go.Ab.Sst.mk (Go.Ab.Sst.op y0) (Go.Ab.Sst.id y0) (Go.Ab.Sst.n y0) (Go.Ab.Sst.text y0)))); let y3 := I.hid (α := (Prop)) (And (SplOk (Sto.l q) (Sto.n q)) (And (LE.le (Sto.n q) (200000 : Int)) (And (LE.le (List.length (Go.Ab.Sst.text y0)) 1000000) (And (LE.le (List.length (Sto.b q)) 100000) (And (LE.le (0 : Int) (Sto.s q)) (LE.le (Sto.s q) (Nat.cast (List.length (Sto.b q))))))))); let y4 := I.hid (α := (List Go.Ab.Upl)) (Sto.l (stepS (Sto.mk (Sto.l q) (Sto.n q) (Sto.b q) (Sto.s q)) (Go.Ab.Sst.mk (Go.Ab.Sst.op y0) (Go.Ab.Sst.id y0) (Go.Ab.Sst.n y0) (Go.Ab.Sst.text y0)))); let y5 := I.hid (α := Int) (Sto.n (stepS (Sto.mk (Sto.l q) (Sto.n q) (Sto.b q) (Sto.s q)) (Go.Ab.Sst.mk (Go.Ab.Sst.op y0) (Go.Ab.Sst.id y0) (Go.Ab.Sst.n y0) (Go.Ab.Sst.text y0)))); let y6 := I.hid (α := Int) (stepC (Sto.mk (Sto.l q) (Sto.n q) (Sto.b q) (Sto.s q)) (Go.Ab.Sst.mk (Go.Ab.Sst.op y0) (Go.Ab.Sst.id y0) (Go.Ab.Sst.n y0) (Go.Ab.Sst.text y0))); let y7 := I.hid (α := Int) (stepI (Sto.mk (Sto.l q) (Sto.n q) (Sto.b q) (Sto.s q)) (Go.Ab.Sst.mk (Go.Ab.Sst.op y0) (Go.Ab.Sst.id y0) (Go.Ab.Sst.n y0) (Go.Ab.Sst.text y0))); let y8 := I.inb (Nat.cast i) (I.len (α := Go.Ab.Sst) l); .br (I.ilt (Nat.cast i) (I.len (α := Go.Ab.Sst) l)) (.need y8 (.need y8 (.need y3 (.need y8 (.need y8 (.need y3 (.need (I.hid (α := (Prop)) (LE.le (List.length y1) 100000)) (.code 0 [1, 0, 0, 1, 1, 1, 0] ⟨[(13, (.v (.one (.p (.int .i64 y2))))), (12, (.v (.one (.row 2)))), (11, (.v (.one (.p (.int .i64 y6))))), (10, (.v (.one (.p (.int .i64 y7))))), (9, (.v (.one (.p (.int .i64 y6))))), (8, (.v (.one (.p (.int .i64 y7))))), (0, (.v (.one (.p (.list .sst l))))), (1, (.v (.one (.p (.int .i64 room))))), (5, (.v (.one (.ptr 0 0)))), (6, (.v (.one (.ptr 1 0)))), (7, (.v (.one (.p (.int .i64 (Nat.cast i))))))], [(.pack [(.obj 47 [(.ptr 1 0), (.ptr 2 0)]), (.pack [(.obj 79 [(.row 1), (.p (.int .i64 y5))]), (.row .upl 70 y4)]), (.pack [(.obj 107 [(.row 1), (.p (.int .i64 y2))]), (.row .byte 5 y1)])]), (.pack [(.obj 40 [(.ptr 1 0), (.row 2), (.p (.int .i64 y2))]), (.pack [(.obj 49 [(.row 1), (.p (.int .i64 y5))]), (.row .upl 70 y4)]), (.row .byte 5 y1)]), (.row .byte 5 y1)], 115, none⟩)))))))) (.fin (.ret (.v (.one (.p (.bool Bool.true))))) [])) (by kernel_rfl) ?_
  simp only [instL]
  refine ⟨fun cg => ?_, fun _ => ⟨trivial, trivial⟩⟩
  have hil : i < l.length := by
    rw [hI] at cg
    simp only [nrmA, nrmB] at cg
    omega
  have hx : (I.get l (⟨0, 0, 0, []⟩ : Sst) (i : Int)).text.length ≤ 1000000 := by
    subst hI
    rw [alg_get, Int.toNat_natCast]
    exact get_smallZ hg.2 i
  have hinb : I.inb (i : Int) (I.len l) := by subst hI; simp only [nrmA, nrmB]; omega
  have hh : ∀ {α : Type} (x : α), I.hid x = x := by subst hI; intros; rfl
  simp only [hh]
  generalize I.get l (⟨0, 0, 0, []⟩ : Sst) (i : Int) = x at *
  have hq : stepS ⟨q.l, q.n, q.b, q.s⟩ ⟨x.op, x.id, x.n, x.text⟩ = stepS q x := rfl
  have hqi : stepI ⟨q.l, q.n, q.b, q.s⟩ ⟨x.op, x.id, x.n, x.text⟩ = stepI q x := rfl
  have hqc : stepC ⟨q.l, q.n, q.b, q.s⟩ ⟨x.op, x.id, x.n, x.text⟩ = stepC q x := rfl
  rw [hq, hqi, hqc]
  have h5 := hist_any h4 x
  have hok2 : StoOk (stepS q x) := by obtain ⟨W, k, h⟩ := h5; exact hist_ok h
  have hfin := hA (i + 1, stepS q x) ⟨by simp only; omega, h5⟩ (by simp only; omega)
  generalize stepS q x = q2 at *
  generalize stepI q x = ci at *
  generalize stepC q x = cc at *
  obtain ⟨m1, m2, m3, m4, m5⟩ := hok2
  refine ⟨hinb, hinb, ⟨k1, by omega, hx, k3, k4, k5⟩, hinb, hinb, ⟨k1, by omega, hx, k3, k4, k5⟩, m3, ?_⟩
  obtain ⟨l2, n2, b2, s2⟩ := q2
  simp only at m1 m2 m3 m4 m5 hfin
  have hn0 := m1.n0
  have hf := spl_few m1
  have hroom : (decide (0 ≤ room) && decide (room ≤ 100000 - (b2.length : Int))) = roomB b2 room := by unfold roomB; simp [Bool.decide_and]
  refine seam hI tab_ok mixed [sameBytes__k, sameBytes__l, sNext__k, sNext__l, sListB__k, sListB__l, sList__k, sList__l, stoNew__k, stoNew__l, stoLog__k, stoLog__l, sameU__k, sameU__l, sameUc__k, sameUc__l, step__k, step__l, greatSt__k, greatSt__l, stoBegun__k, stoBegun__l, shNew__k, shNew__l, shRoom__k, shRoom__l, stoRoom__k, stoRoom__l, shStep__k, shStep__l] hX [0, 1, 5, 6, 7, 8, 9, 10, 11, 12, 13] ⟨[(0, .v (.one (.p (.list .sst l)))), (1, .v (.one (.p (.int .i64 room)))), (5, .v (.one (.ptr 0 0))), (6, .v (.one (.ptr 1 0))), (7, .v (.one (.p (.int .i64 i)))), (8, .v (.one (.p (.int .i64 ci)))), (9, .v (.one (.p (.int .i64 cc)))), (10, .v (.one (.p (.int .i64 ci)))), (11, .v (.one (.p (.int .i64 cc)))), (12, .v (.one (.row 2))), (13, .v (.one (.p (.int .i64 s2))))], [.pack [.obj 47 [(.ptr 1 0), (.ptr 2 0)], .pack [.obj 79 [(.row 1), (.p (.int .i64 n2))], .row .upl 70 l2], .pack [.obj 107 [(.row 1), (.p (.int .i64 s2))], .row .byte 5 b2]], .pack [.obj 40 [(.ptr 1 0), (.row 2), (.p (.int .i64 s2))], .pack [.obj 49 [(.row 1), (.p (.int .i64 n2))], .row .upl 70 l2], .row .byte 5 b2], .row .byte 5 b2], 115, none⟩ (by kernel_rfl) ?_
  refine ev_rule (let y0 := I.bnot (I.beq (I.hid (α := Bool) (roomB b2 room)) (I.hid (α := Bool) (Bool.and (Decidable.decide (LE.le (0 : Int) room)) (Decidable.decide (LE.le room (HSub.hSub (100000 : Int) (Nat.cast (List.length b2)))))))); let y1 := I.hid (α := (Prop)) (LE.le (List.length b2) 100000); let y2 := I.hid (α := (Prop)) (And (LE.le (List.length l2) 1000000) (LE.le (List.length l2) 1000000)); let y3 := I.hid (α := (Prop)) (And (LE.le (0 : Int) n2) (LE.le n2 (1000000 : Int))); let y4 := I.bnot (I.ieq (I.hid (α := Int) (HAdd.hAdd n2 (1 : Int))) (I.add n2 1)); let y5 := I.bnot (I.hid (α := Bool) (Decidable.decide (Eq l2 l2))); let y6 := I.inr Go.IntKind.i64 (I.add (Nat.cast i) 1); let y7 := I.hid (α := (Prop)) (SplOk l2 n2); let y8 := I.inr Go.IntKind.i64 (I.add n2 1); .br (I.bnot (I.ieq ci ci)) (.fin (.ret (.v (.one (.p (.bool Bool.false))))) []) (.br (I.bnot (I.ieq cc cc)) (.fin (.ret (.v (.one (.p (.bool Bool.false))))) []) (.need (I.hid (α := (Prop)) True) (.br (I.bnot (I.hid (α := Bool) (BEq.beq b2 b2))) (.fin (.ret (.v (.one (.p (.bool Bool.false))))) []) (.br (I.bnot (I.ieq s2 s2)) (.fin (.ret (.v (.one (.p (.bool Bool.false))))) []) (.both (.need y7 (.need y2 (.br y5 (.fin (.ret (.v (.one (.p (.bool Bool.false))))) []) (.need y8 (.need y3 (.br y4 (.fin (.ret (.v (.one (.p (.bool Bool.false))))) []) (.need y1 (.need y1 (.br y0 (.fin (.ret (.v (.one (.p (.bool Bool.false))))) []) (.need y6 (.need (A ⟨[(0, (.v (.one (.p (.list .sst l))))), (1, (.v (.one (.p (.int .i64 room))))), (5, (.v (.one (.ptr 0 0)))), (6, (.v (.one (.ptr 1 0)))), (7, (.v (.one (.p (.int .i64 (I.add (Nat.cast i) 1))))))], [(.pack [(.obj 47 [(.ptr 1 0), (.ptr 2 0)]), (.pack [(.obj 79 [(.row 1), (.p (.int .i64 n2))]), (.row .upl 70 l2)]), (.pack [(.obj 107 [(.row 1), (.p (.int .i64 s2))]), (.row .byte 5 b2)])]), (.pack [(.obj 40 [(.ptr 1 0), (.row 2), (.p (.int .i64 s2))]), (.pack [(.obj 49 [(.row 1), (.p (.int .i64 n2))]), (.row .upl 70 l2)]), (.row .byte 5 b2)])], 115, none⟩) .qed))))))))))) (.need y7 (.need y2 (.br y5 (.fin (.ret (.v (.one (.p (.bool Bool.false))))) []) (.need y8 (.need y3 (.br y4 (.fin (.ret (.v (.one (.p (.bool Bool.false))))) []) (.need y1 (.need y1 (.br y0 (.fin (.ret (.v (.one (.p (.bool Bool.false))))) []) (.need y6 (.need (A ⟨[(0, (.v (.one (.p (.list .sst l))))), (1, (.v (.one (.p (.int .i64 room))))), (5, (.v (.one (.ptr 0 0)))), (6, (.v (.one (.ptr 1 0)))), (7, (.v (.one (.p (.int .i64 (I.add (Nat.cast i) 1))))))], [(.pack [(.obj 47 [(.ptr 1 0), (.ptr 2 0)]), (.pack [(.obj 79 [(.row 1), (.p (.int .i64 n2))]), (.row .upl 70 l2)]), (.pack [(.obj 107 [(.row 1), (.p (.int .i64 s2))]), (.row .byte 5 b2)])]), (.pack [(.obj 40 [(.ptr 1 0), (.row 2), (.p (.int .i64 s2))]), (.pack [(.obj 49 [(.row 1), (.p (.int .i64 n2))]), (.row .upl 70 l2)]), (.row .byte 5 b2)])], 115, none⟩) .qed))))))))))))))))) (by kernel_rfl) ?_
  simp only [instL]
  simp only [hh, hroom]
  subst hI
  simp only [nrmA, nrmB, nrlB, reduceCtorEq]
  (repeat' (first | refine And.intro ?_ ?_ | intro _)) <;> first | omega | exact True.intro | exact False.elim ‹False› | skip
  all_goals first
    | exact m1
    | exact m3
    | exact ⟨hf.1, hf.1⟩
    | exact ⟨hn0, by omega⟩
    | exact hfin
    | omega
    | contradiction
    | trace_state
def stDoes__c (I : Alg) (args : List D) (hp : List HO) : Option CT := match args, hp with
  | [.v (.one (.p (.list .sst l))), .v (.one (.p (.int .i64 room)))], [] => (fun (l : List Sst) (room : Int) => (some (.one ⟨I.hid (l.length ≤ 140737488355328 ∧ ∀ x ∈ l, x.text.length ≤ 140737488355328), (.ret (.v (.one (.p (.bool true))))), []⟩) : Option CT)) l room
  | _, _ => none
theorem stDoes__g : GoodC Tryz.prog 3 (stDoes__c alg) := by
  intro args hp r h
  unfold stDoes__c at h
  split at h
  · cases h; exact fun hn => stDoes_ _ _ hn
  · cases h
def stDoes__k : Know Tryz.prog := ⟨3, stDoes__c, stDoes__g⟩
def stDoes__l : Know Tryz.prog := ⟨3, fun I => lendC I (stDoes__c I), lendC_good stDoes__g⟩
end Go.Proofs.YtjapkdcomcgamaaGreatDoor
