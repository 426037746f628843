/- A store: to crash again changes nothing, in plain words. -/
import Derived.Test.YtjapkdcomcgamaaDoorStoP
set_option linter.all false
namespace Go.Proofs.YtjapkdcomcgamaaDoor
open Go Go.Sep Go.Ab Go.Jrn

theorem hist_again {q : Sto} {W : List Ent} (h : Hist q W W.length) (keep : Int) : (crsP q.b q.s keep) = (q.l, q.n) ∧ crsB q.b q.s keep = q.b ∧ q.s = (q.b.length : Int) := by
  obtain ⟨j, h1, h2, h3, h4, h5, h6⟩ := hist_crash h keep
  have hj : j = W.length := by omega
  subst hj
  rw [List.take_length] at h4 h5
  refine ⟨by rw [h4, h.rep], by rw [h5, h.bytes], ?_⟩
  have := h.sure
  rw [List.take_length] at this
  rw [this, h.bytes]
theorem dec_all {W : List Ent} (h : ∀ e ∈ W, mayM e = true) : (Jrn.dec (encAll W)).1 = W ∧ usedM (encAll W) = ((encAll W).length : Int) := by
  have h1 := Jrn.dec_forth W [] h
  rw [List.append_nil] at h1
  have h2 : Jrn.dec [] = ([], []) := rfl
  rw [h2] at h1
  refine ⟨by rw [h1]; simp, ?_⟩
  unfold usedM
  rw [h1]; simp

/-- The step that an entry was written of. -/
def entX (l : List Upl) (e : Ent) : Sst := ⟨e.kind - 1, e.id, if e.kind - 1 = 1 then ((getU l e.id).bytes.length : Int) else e.n, e.text⟩
theorem ent_step {l : List Upl} {n : Int} {e : Ent} (h0 : playC l n e = 0) (hc : CanE e) : stepE n (entX l e) = e ∧ 0 ≤ (entX l e).op ∧ (entX l e).op ≤ 5 ∧ stepG l (entX l e) = false := by
  obtain ⟨m, x, ⟨h1, h2⟩, rfl⟩ := hc
  unfold stepE at h0 ⊢
  unfold entX
  have hc : x.op = 0 ∨ x.op = 1 ∨ x.op = 2 ∨ x.op = 3 ∨ x.op = 4 ∨ x.op = 5 := by omega
  rcases hc with h | h | h | h | h | h
  · simp [h] at h0 ⊢
    unfold playC at h0
    simp only [if_true] at h0
    refine ⟨?_, ?_⟩
    · split at h0
      · cases h0
      · rename_i h3
        by_cases h4 : creC l x.n x.text = 0
        · have : n + 1 = m + 1 := by
            rcases Classical.em (n + 1 = m + 1) with h5 | h5
            · exact h5
            · exact absurd ⟨h4, h5⟩ h3
          omega
        · exact absurd h0 h4
    · unfold stepG; simp
  · simp [h]
    unfold stepG apG
    simp
  · simp [h]
    unfold stepG
    simp
  · simp [h]
    unfold stepG
    simp
  · simp [h]
    unfold stepG
    simp
  · simp [h]
    unfold stepG
    simp
/-- A store in which just these entries were done. -/
def againQ (W : List Ent) : Sto := ⟨(st W).1, (st W).2, encAll W, 0⟩
theorem again_hist {q : Sto} {W : List Ent} {k : Nat} (h : Hist q W k) {i : Nat} (hi : i < W.length) :
    stepC (againQ (W.take i)) (entX (st (W.take i)).1 W[i]) = 0 ∧ stepS (againQ (W.take i)) (entX (st (W.take i)).1 W[i]) = againQ (W.take (i + 1)) := by
  obtain ⟨h0, hc⟩ := h.acc i hi
  obtain ⟨h1, h2, h3, h4⟩ := ent_step h0 hc
  have hm := h.may _ (List.getElem_mem hi)
  have hb := h.b
  rw [h.bytes] at hb
  have hl : (encAll (W.take (i + 1))).length ≤ 100000 := Nat.le_trans (encAll_take W (i + 1)) hb
  have he : encAll (W.take (i + 1)) = encAll (W.take i) ++ encB W[i] := by
    rw [List.take_succ_eq_append_getElem hi, encAll_append]; simp [encAll]
  have hw : wrtC (st (W.take i)).1 (st (W.take i)).2 (encAll (W.take i)) W[i] = 0 := by
    unfold wrtC
    rw [if_neg (by rw [h0]; simp), if_neg (by unfold encC; rw [if_pos hm]; simp)]
    unfold wrC encM
    rw [if_pos hm, if_pos (by rw [he, List.length_append] at hl; exact hl)]
  have hs : st (W.take (i + 1)) = (playL (st (W.take i)).1 (st (W.take i)).2 W[i], playN (st (W.take i)).1 (st (W.take i)).2 W[i]) := replay_take _ hi
  constructor
  · unfold stepC
    rw [if_pos ⟨h2, h3⟩]
    show (if stepG (st (W.take i)).1 _ = true then _ else _) = _
    rw [h4, if_neg (by simp)]
    show wrtC (st (W.take i)).1 (st (W.take i)).2 (encAll (W.take i)) (stepE (st (W.take i)).2 _) = 0
    rw [h1]; exact hw
  · unfold stepS
    rw [if_neg (by omega), if_neg (by omega), if_pos ⟨h2, h3, h4⟩]
    show Sto.mk (wrtL (st (W.take i)).1 (st (W.take i)).2 (encAll (W.take i)) (stepE (st (W.take i)).2 _)) (wrtN (st (W.take i)).1 (st (W.take i)).2 (encAll (W.take i)) (stepE (st (W.take i)).2 _)) (wrtB (st (W.take i)).1 (st (W.take i)).2 (encAll (W.take i)) (stepE (st (W.take i)).2 _)) 0 = _
    rw [h1]
    unfold wrtL wrtN wrtB againQ
    rw [if_pos hw, if_pos hw, if_pos hw, hs, he]
theorem again_ok {q : Sto} {W : List Ent} {k : Nat} (h : Hist q W k) (i : Nat) : StoOk (againQ (W.take i)) := by
  have h1 := replay_ok (W.take i) ([], 0) spl_nil
  have h2 := replay_n (W.take i) ([], 0)
  have h4 := encAll_len (W.take i)
  have h5 := h.b
  rw [h.bytes] at h5
  have h6 := encAll_take W i
  refine ⟨h1, ?_, by show (encAll (W.take i)).length ≤ 100000; omega, Int.le_refl _, by show (0 : Int) ≤ _; omega⟩
  show (st (W.take i)).2 ≤ 150000
  unfold st
  simp only at h2
  omega
/-- Steps, one behind the other. -/
theorem hist_any {q : Sto} (h : ∃ W k, Hist q W k) (x : Sst) : ∃ W k, Hist (stepS q x) W k := by
  obtain ⟨W, k, h⟩ := h
  rcases hist_step h x with ⟨_, h2, _⟩ | ⟨_, j, h2, _⟩ | ⟨_, _, ⟨e, h2⟩ | h2⟩
  · exact ⟨_, _, h2⟩
  · exact ⟨_, _, h2⟩
  · exact ⟨_, _, h2⟩
  · exact ⟨W, k, by rw [h2]; exact h⟩
def crashQ (q : Sto) (keep : Int) : Sto := ⟨(crsP q.b q.s keep).1, (crsP q.b q.s keep).2, crsB q.b q.s keep, ((crsB q.b q.s keep).length : Int)⟩
theorem hist_crashQ {q : Sto} (h : ∃ W k, Hist q W k) (keep : Int) : ∃ W, Hist (crashQ q keep) W W.length := by
  obtain ⟨W, k, h⟩ := h
  obtain ⟨j, h1, h2, h3, h4, h5, h6⟩ := hist_crash h keep
  exact ⟨W.take j, by rw [List.length_take, Nat.min_eq_left h2]; exact h6⟩
end Go.Proofs.YtjapkdcomcgamaaDoor
