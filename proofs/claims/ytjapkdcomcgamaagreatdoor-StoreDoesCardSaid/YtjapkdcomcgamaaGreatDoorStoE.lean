/- A store: the document's own, the crash. -/
import Derived.Test.YtjapkdcomcgamaaGreatDoorEntS
set_option linter.all false
namespace Go.Proofs.YtjapkdcomcgamaaGreatDoor
open Go Go.Sep Go.Ab Go.Jrn
set_option maxRecDepth 100000

theorem dup {P : Prop} (h : P) : P ∧ P := ⟨h, h⟩
theorem shareD {Pr : Program} {X : Ctx} {G : AOut → List HO → Prop} {α : Type} {L : St → Tree} {mk : α → St} {Inv : α → Prop} {Q : Prop} (h1 : (∀ a, Inv a → Ok Pr X G (L (mk a))) → Q) (h2 : ∀ a, Inv a → Ok Pr X G (L (mk a))) : Q := h1 h2

set_option maxHeartbeats 4000000 in
theorem shCrash_ (l : List Upl) (n : Int) (b : Str) (s keep : Int) (hneed : b.length ≤ 100000 ∧ 0 ≤ s ∧ s ≤ b.length) : Spc Tryz.prog 46 [.v (.one (.ptr 0 0)), .v (.one (.p (.int .i64 keep)))] [.pack [.obj 40 [(.ptr 1 0), (.row 2), (.p (.int .i64 s))], .pack [.obj 49 [(.row 1), (.p (.int .i64 n))], .row .upl 70 l], .row .byte 5 b]] (.ret (.tup [])) [.pack [.obj 40 [(.ptr 1 0), (.row 2), (.p (.int .i64 (((crsB b s keep).length : Int))))], .pack [.obj 49 [(.row 1), (.p (.int .i64 ((crsP b s keep).2)))], .row .upl 70 ((crsP b s keep).1)], .row .byte 5 ((crsB b s keep))]] := by
  obtain ⟨hb, hs0, hs1⟩ := hneed
  have h2 := crB_len b s keep
  have h3 := crsE_small (s := s) (k := keep) hb
  have h4 := usedM_le (crB b s keep)
  have h5 : crsB b s keep = (crB b s keep).take (usedM (crB b s keep)).toNat := by
    unfold crsB cuB
    split
    · rfl
    · rw [List.take_of_length_le (by omega)]
  have h1 : ((crsB b s keep).length : Int) = usedM (crB b s keep) := by rw [h5, List.length_take]; omega
  unfold crsP
  generalize hP : replay ([], 0) (crsE b s keep) = pq
  refine spcG tab_ok mixed Tryz.func46 (by kernel_rfl) { cfgSh with seam := [5], cut := [45], keep := some [0, 1, 4, 5, 6, 7] } [entries__k, entries__l, entriesS__k, entriesS__l, hPlayed__k, hPlayed__l] (by kernel_rfl) ?_
  intro I X hI hX
  refine ev_rule (.need (I.inr Go.IntKind.i64 (I.sub (I.len (α := UInt8) b) s)) (.br (I.ilt keep (I.sub (I.len (α := UInt8) b) s)) (.br (I.ilt keep 0) (.code 0 [1, 1, 1, 0] ⟨[(4, (.v (.one (.p (.int .i64 0))))), (0, (.v (.one (.ptr 0 0)))), (1, (.v (.one (.p (.int .i64 keep)))))], [(.obj 40 [(.ptr 1 0), (.row 2), (.p (.int .i64 s))]), (.pack [(.obj 49 [(.row 1), (.p (.int .i64 n))]), (.row .upl 70 l)]), (.row .byte 5 b)], 72, none⟩) (.code 0 [1, 1, 1, 0] ⟨[(4, (.v (.one (.p (.int .i64 keep))))), (0, (.v (.one (.ptr 0 0)))), (1, (.v (.one (.p (.int .i64 keep)))))], [(.obj 40 [(.ptr 1 0), (.row 2), (.p (.int .i64 s))]), (.pack [(.obj 49 [(.row 1), (.p (.int .i64 n))]), (.row .upl 70 l)]), (.row .byte 5 b)], 72, none⟩)) (.br (I.ilt (I.sub (I.len (α := UInt8) b) s) 0) (.code 0 [1, 1, 1, 0] ⟨[(4, (.v (.one (.p (.int .i64 0))))), (0, (.v (.one (.ptr 0 0)))), (1, (.v (.one (.p (.int .i64 keep)))))], [(.obj 40 [(.ptr 1 0), (.row 2), (.p (.int .i64 s))]), (.pack [(.obj 49 [(.row 1), (.p (.int .i64 n))]), (.row .upl 70 l)]), (.row .byte 5 b)], 72, none⟩) (.code 0 [1, 1, 1, 0] ⟨[(4, (.v (.one (.p (.int .i64 (I.sub (I.len (α := UInt8) b) s)))))), (0, (.v (.one (.ptr 0 0)))), (1, (.v (.one (.p (.int .i64 keep)))))], [(.obj 40 [(.ptr 1 0), (.row 2), (.p (.int .i64 s))]), (.pack [(.obj 49 [(.row 1), (.p (.int .i64 n))]), (.row .upl 70 l)]), (.row .byte 5 b)], 72, none⟩)))) (by kernel_rfl) ?_
  simp only [instL]
  apply shareD (mk := fun K : Int => ⟨[(0, .v (.one (.ptr 0 0))), (4, .v (.one (.p (.int .i64 K))))], [.pack [.obj 40 [(.ptr 1 0), (.row 2), (.p (.int .i64 s))], .pack [.obj 49 [(.row 1), (.p (.int .i64 n))], .row .upl 70 l], .row .byte 5 b]], 72, none⟩) (Inv := fun K => 0 ≤ K ∧ s + K ≤ b.length ∧ crB b s keep = b.take (s + K).toNat)
  · intro key
    (repeat' (first | refine And.intro ?_ ?_ | intro _))
    all_goals first
    | (clear key; subst hI; (simp only [nrmA, nrmB] at *); first | done | trivial | omega)
    | (refine seam hI tab_ok mixed [entries__k, entries__l, entriesS__k, entriesS__l, hPlayed__k, hPlayed__l] hX [0, 4] ⟨[(0, .v (.one (.ptr 0 0))), (4, .v (.one (.p (.int .i64 keep))))], [.pack [.obj 40 [(.ptr 1 0), (.row 2), (.p (.int .i64 s))], .pack [.obj 49 [(.row 1), (.p (.int .i64 n))], .row .upl 70 l], .row .byte 5 b]], 72, none⟩ (by kernel_rfl) ?_; exact key _ ⟨by subst hI; (simp only [nrmA, nrmB] at *); omega, by subst hI; (simp only [nrmA, nrmB] at *); omega, by subst hI; (simp only [nrmA, nrmB] at *); unfold crB; congr 2; omega⟩)
    | (refine seam hI tab_ok mixed [entries__k, entries__l, entriesS__k, entriesS__l, hPlayed__k, hPlayed__l] hX [0, 4] ⟨[(0, .v (.one (.ptr 0 0))), (4, .v (.one (.p (.int .i64 0))))], [.pack [.obj 40 [(.ptr 1 0), (.row 2), (.p (.int .i64 s))], .pack [.obj 49 [(.row 1), (.p (.int .i64 n))], .row .upl 70 l], .row .byte 5 b]], 72, none⟩ (by kernel_rfl) ?_; exact key _ ⟨by omega, by omega, by subst hI; (simp only [nrmA, nrmB] at *); unfold crB; congr 2; omega⟩)
    | (refine seam hI tab_ok mixed [entries__k, entries__l, entriesS__k, entriesS__l, hPlayed__k, hPlayed__l] hX [0, 4] ⟨[(0, .v (.one (.ptr 0 0))), (4, .v (.one (.p (.int .i64 ((I.sub (I.len (α := UInt8) b) s))))))], [.pack [.obj 40 [(.ptr 1 0), (.row 2), (.p (.int .i64 s))], .pack [.obj 49 [(.row 1), (.p (.int .i64 n))], .row .upl 70 l], .row .byte 5 b]], 72, none⟩ (by kernel_rfl) ?_; exact key _ ⟨by subst hI; (simp only [nrmA, nrmB] at *); omega, by subst hI; (simp only [nrmA, nrmB] at *); omega, by subst hI; (simp only [nrmA, nrmB] at *); unfold crB; congr 2; omega⟩)
    | trace_state
  rintro K ⟨k1, k2, k3⟩
  try simp only at k1 k2 k3 ⊢
  refine ev_rule (let y0 := I.hid (α := Int) (usedM (List.take (Int.toNat (I.add s K)) b)); let y1 := I.hid (α := (Prop)) (And (LE.le (List.length b) 1000000) (And (LE.le (0 : Int) (I.add s K)) (LE.le (I.add s K) (Nat.cast (List.length b))))); let y2 := I.hid (α := (List Go.Ab.Ent)) (Prod.fst (Go.Jrn.dec (List.take (Int.toNat (I.add s K)) b))); let y3 := I.cutb 0 (I.add s K) (I.len (α := UInt8) b); let y4 := I.cutb 0 y0 (I.len (α := UInt8) b); let y5 := I.inr Go.IntKind.i64 (I.add s K); .both (.need y5 (.need y3 (.need y1 (.need y4 (.need (I.same (α := Int) 0 0) (.code 0 [1, 1, 1, 1, 1, 1, 1, 1, 0] ⟨[(7, (.v (.one (.p (.int .i64 0))))), (6, (.v (.one (.p (.int .i64 y0))))), (5, (.v (.one (.row 3)))), (0, (.v (.one (.ptr 0 0)))), (4, (.v (.one (.p (.int .i64 K)))))], [(.obj 40 [(.ptr 5 0), (.row 4), (.p (.int .i64 y0))]), (.pack [(.obj 49 [(.row 1), (.p (.int .i64 n))]), (.row .upl 70 l)]), .gone, (.row .ent 109 y2), (.row .byte 5 (I.cut (α := UInt8) b 0 y0)), (.obj 49 [.nilS, (.p (.int .i64 0))])], 72, none⟩)))))) (.need y5 (.need y3 (.need y1 (.need y4 (.need (I.same (α := Int) 0 0) (.code 0 [1, 1, 1, 1, 1, 1, 1, 1, 0] ⟨[(7, (.v (.one (.p (.int .i64 0))))), (6, (.v (.one (.p (.int .i64 y0))))), (5, (.v (.one (.row 3)))), (0, (.v (.one (.ptr 0 0)))), (4, (.v (.one (.p (.int .i64 K)))))], [(.obj 40 [(.ptr 5 0), (.row 4), (.p (.int .i64 y0))]), (.pack [(.obj 49 [(.row 1), (.p (.int .i64 n))]), (.row .upl 70 l)]), .gone, (.row .ent 109 y2), (.row .byte 5 (I.cut (α := UInt8) b 0 y0)), (.obj 49 [.nilS, (.p (.int .i64 0))])], 72, none⟩))))))) (by kernel_rfl) ?_
  simp only [instL]
  have hh : ∀ {α : Type} (x : α), I.hid x = x := by subst hI; intros; rfl
  have hsk : I.add s K = s + K := by subst hI; rfl
  have hsm : I.same (0 : Int) 0 := by subst hI; rfl
  have hc2 : I.cut b 0 (usedM (crB b s keep)) = crsB b s keep := by
    subst hI
    rw [h5, k3, List.take_take]
    have : (usedM (b.take (s + K).toNat)).toNat ≤ (s + K).toNat := by
      rw [← k3]
      have h := h4.2
      rw [k3, List.length_take] at h
      rw [k3] at h4 ⊢
      omega
    rw [Nat.min_eq_left this]
    rfl
  simp only [hh, hsk, ← k3]
  rw [hc2]
  have side : ∀ x : Int, I.cutb 0 x (I.len b) ↔ (0 ≤ x ∧ x ≤ b.length) := fun x => by subst hI; simp only [alg_cutb, alg_len, Int.le_refl, true_and]
  rw [side, side]
  refine dup ?_
  refine ⟨by subst hI; simp only [alg_inr, i64_min, i64_max]; omega, by omega, ⟨by omega, by omega, by omega⟩, by omega, hsm, ?_⟩
  rw [← h1]
  unfold crsE at h3 hP
  generalize hes : (Jrn.dec (crB b s keep)).1 = es at *
  generalize crsB b s keep = b2 at *
  generalize hbl : ((b2.length : Nat) : Int) = bl at *
  refine loop_inv hI tab_ok mixed [entries__k, entries__l, entriesS__k, entriesS__l, hPlayed__k, hPlayed__l] hX [0, 5, 7] (fun (k : Nat) => k ≤ es.length) (fun (k : Nat) => ⟨[(0, .v (.one (.ptr 0 0))), (5, .v (.one (.row 1))), (7, .v (.one (.p (.int .i64 k))))], [.pack [.obj 40 [(.ptr 1 0), (.row 2), (.p (.int .i64 bl))], .pack [.obj 49 [(.row 1), (.p (.int .i64 ((replay ([], 0) (es.take k)).2)))], .row .upl 70 ((replay ([], 0) (es.take k)).1)], .row .byte 5 b2], .row .ent 109 es], 72, none⟩) (fun (k : Nat) => es.length - k) 0 (by kernel_rfl) (by kernel_rfl) ?_ ?_
  · exact Nat.zero_le _
  rintro k hk A hA
  have ho := replay_ok (es.take k) ([], 0) spl_nil
  have hn := replay_n (es.take k) ([], 0)
  generalize hp : replay ([], 0) (es.take k) = p at *
  refine ev_rule (let y0 := I.get (α := Go.Ab.Ent) es (Go.Ab.Ent.mk (0 : Int) (0 : Int) (0 : Int) ([] : List UInt8)) (Nat.cast k); let y1 := I.inb (Nat.cast k) (I.len (α := Go.Ab.Ent) es); .br (I.ilt (Nat.cast k) (I.len (α := Go.Ab.Ent) es)) (.need y1 (.need y1 (.need (I.hid (α := (Prop)) (And (SplOk (Prod.fst p) (Prod.snd p)) (And (LE.le (Prod.snd p) (1000000 : Int)) (LE.le (List.length (Go.Ab.Ent.text y0)) 1000000)))) (.need (I.inr Go.IntKind.i64 (I.add (Nat.cast k) 1)) (.need (A ⟨[(0, (.v (.one (.ptr 0 0)))), (5, (.v (.one (.row 1)))), (7, (.v (.one (.p (.int .i64 (I.add (Nat.cast k) 1))))))], [(.pack [(.obj 40 [(.ptr 1 0), (.row 2), (.p (.int .i64 bl))]), (.pack [(.obj 49 [(.row 1), (.p (.int .i64 (I.hid (α := Int) (playN (Prod.fst p) (Prod.snd p) (Go.Ab.Ent.mk (Go.Ab.Ent.kind y0) (Go.Ab.Ent.id y0) (Go.Ab.Ent.n y0) (Go.Ab.Ent.text y0))))))]), (.row .upl 70 (I.hid (α := (List Go.Ab.Upl)) (playL (Prod.fst p) (Prod.snd p) (Go.Ab.Ent.mk (Go.Ab.Ent.kind y0) (Go.Ab.Ent.id y0) (Go.Ab.Ent.n y0) (Go.Ab.Ent.text y0)))))]), (.row .byte 5 b2)]), (.row .ent 109 es)], 72, none⟩) .qed))))) (.fin (.ret (.tup [])) [(.pack [(.obj 40 [(.ptr 1 0), (.row 2), (.p (.int .i64 bl))]), (.pack [(.obj 49 [(.row 1), (.p (.int .i64 (Prod.snd p)))]), (.row .upl 70 (Prod.fst p))]), (.row .byte 5 b2)])])) (by kernel_rfl) ?_
  simp only [instL]
  subst hI
  simp only [nrmA, nrmB, nrlB, reduceCtorEq, HO.pack.injEq, HO.obj.injEq]
  have hnk : p.2 ≤ 200000 := by
    have : (es.take k).length ≤ es.length := by rw [List.length_take]; omega
    have h30 := h3.1
    simp only at hn
    omega
  refine ⟨fun c => ⟨⟨by omega, by omega⟩, ⟨by omega, by omega⟩, ⟨ho, by omega, ?_⟩, ⟨by omega, by omega⟩, ?_⟩, fun c => ?_⟩
  · rw [show es.getD k ⟨0, 0, 0, []⟩ = es[k]'(by omega) by simp [show k < es.length by omega]]
    have := h3.2 _ (List.getElem_mem (l := es) (n := k) (by omega))
    omega
  · have hA := hA (k + 1) (by omega) (by omega)
    rw [replay_take _ (by omega), hp] at hA
    have hx : es.getD k ⟨0, 0, 0, []⟩ = es[k]'(by omega) := by simp [show k < es.length by omega]
    rw [hx]
    exact hA
  · rw [List.take_of_length_le (by omega)] at hp
    rw [← hp, hP]
    exact ⟨rfl, rfl⟩
def shCrash__c (I : Alg) (args : List D) (hp : List HO) : Option CT := match args, hp with
  | [.v (.one (.ptr 0 0)), .v (.one (.p (.int .i64 keep)))], [.pack [.obj 40 [(.ptr 1 0), (.row 2), (.p (.int .i64 s))], .pack [.obj 49 [(.row 1), (.p (.int .i64 n))], .row .upl 70 l], .row .byte 5 b]] => (fun (l : List Upl) (n : Int) (b : Str) (s keep : Int) => (some (.one ⟨I.hid (b.length ≤ 100000 ∧ 0 ≤ s ∧ s ≤ b.length), (.ret (.tup [])), [.pack [.obj 40 [(.ptr 1 0), (.row 2), (.p (.int .i64 (I.hid (((crsB b s keep).length : Int)))))], .pack [.obj 49 [(.row 1), (.p (.int .i64 (I.hid ((crsP b s keep).2))))], .row .upl 70 (I.hid ((crsP b s keep).1))], .row .byte 5 (I.hid ((crsB b s keep)))]]⟩) : Option CT)) l n b s keep
  | _, _ => none
theorem shCrash__g : GoodC Tryz.prog 46 (shCrash__c alg) := by
  intro args hp r h
  unfold shCrash__c at h
  split at h
  · cases h; exact fun hn => shCrash_ _ _ _ _ _ hn
  · cases h
def shCrash__k : Know Tryz.prog := ⟨46, shCrash__c, shCrash__g⟩
def shCrash__l : Know Tryz.prog := ⟨46, fun I => lendC I (shCrash__c I), lendC_good shCrash__g⟩
end Go.Proofs.YtjapkdcomcgamaaGreatDoor
