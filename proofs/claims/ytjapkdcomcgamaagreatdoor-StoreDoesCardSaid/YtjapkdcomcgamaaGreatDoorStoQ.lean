/- A store: to crash again changes nothing, in plain words. -/
import Derived.Test.YtjapkdcomcgamaaGreatDoorStoB
set_option linter.all false
namespace Go.Proofs.YtjapkdcomcgamaaGreatDoor
open Go Go.Sep Go.Ab Go.Jrn

/-- What is so of each entry of a log. -/
def CanE (e : Ent) : Prop := ∃ n x, (0 ≤ x.op ∧ x.op ≤ 5) ∧ e = stepE n x
def st (W : List Ent) : List Upl × Int := replay ([], 0) W
/-- A log: its entries, how many of them are made sure of. -/
structure Hist (q : Sto) (W : List Ent) (k : Nat) : Prop where
  may : ∀ e ∈ W, mayM e = true
  bytes : q.b = encAll W
  rep : st W = (q.l, q.n)
  acc : ∀ j (h : j < W.length), playC (st (W.take j)).1 (st (W.take j)).2 W[j] = 0 ∧ CanE W[j]
  kle : k ≤ W.length
  sure : q.s = (encAll (W.take k)).length
  b : q.b.length ≤ 100000

theorem encB_pos (e : Ent) : 1 ≤ (encB e).length := by
  have := sev_len ((enc3 e).length + 1)
  unfold encB
  rw [List.length_append]; omega
theorem encAll_len : ∀ W : List Ent, W.length ≤ (encAll W).length
  | [] => Nat.le_refl _
  | e :: W => by
    have := encAll_len W
    have := encB_pos e
    simp only [encAll, List.length_append, List.length_cons]; omega
theorem encAll_take (W : List Ent) (k : Nat) : (encAll (W.take k)).length ≤ (encAll W).length := by
  have := congrArg (fun l => (encAll l).length) (List.take_append_drop k W)
  simp only [encAll_append, List.length_append] at this
  omega
theorem encAll_mono (W : List Ent) {i j : Nat} (h : i ≤ j) : (encAll (W.take i)).length ≤ (encAll (W.take j)).length := by
  have := encAll_take (W.take j) i
  rwa [List.take_take, Nat.min_eq_left h] at this
theorem hist_ok {q : Sto} {W : List Ent} {k : Nat} (h : Hist q W k) : StoOk q := by
  have h1 := replay_ok W ([], 0) spl_nil
  have h2 := replay_n W ([], 0)
  have h3 := h.rep
  unfold st at h3
  rw [h3] at h1 h2
  have h4 := encAll_len W
  have h5 := h.b
  rw [h.bytes] at h5
  have h6 := encAll_take W k
  refine ⟨h1, ?_, h.b, ?_, ?_⟩
  · simp only at h2; omega
  · rw [h.sure]; omega
  · rw [h.sure, h.bytes]; omega
theorem hist_nil : Hist ⟨[], 0, [], 0⟩ [] 0 := ⟨fun _ h => (by cases h), rfl, rfl, fun j h => absurd h (Nat.not_lt_zero _), Nat.le_refl _, rfl, by decide⟩
theorem hist_sync {q : Sto} {W : List Ent} {k : Nat} (h : Hist q W k) : Hist ⟨q.l, q.n, q.b, (q.b.length : Int)⟩ W W.length :=
  ⟨h.may, h.bytes, h.rep, h.acc, Nat.le_refl _, by rw [List.take_length]; show (q.b.length : Int) = _; rw [h.bytes], h.b⟩
theorem hist_write {q : Sto} {W : List Ent} {k : Nat} (h : Hist q W k) {e : Ent} (hc : CanE e) (h0 : wrtC q.l q.n q.b e = 0) :
    Hist ⟨wrtL q.l q.n q.b e, wrtN q.l q.n q.b e, wrtB q.l q.n q.b e, q.s⟩ (W ++ [e]) k := by
  obtain ⟨h1, h2, h3⟩ := wrt_zero h0
  have hrep := h.rep
  refine ⟨fun x hx => ?_, ?_, ?_, fun j hj => ?_, ?_, ?_, ?_⟩
  · rcases List.mem_append.1 hx with hx | hx
    · exact h.may x hx
    · rw [List.mem_singleton.1 hx]; exact h2
  · show wrtB q.l q.n q.b e = _
    unfold wrtB
    rw [if_pos h0, h.bytes, encAll_append]
    simp [encAll]
  · show st (W ++ [e]) = (wrtL q.l q.n q.b e, wrtN q.l q.n q.b e)
    unfold st at *
    rw [replay_app, hrep]
    unfold wrtL wrtN
    rw [if_pos h0, if_pos h0]
    rfl
  · rw [List.length_append] at hj
    rcases Nat.lt_or_ge j W.length with hl | hl
    · rw [List.take_append_of_le_length (by omega), List.getElem_append_left hl]
      exact h.acc j hl
    · have : j = W.length := by simp at hj; omega
      subst this
      have e1 : (W ++ [e]).take W.length = W := by simp
      have e2 : (W ++ [e])[W.length]'(by simp) = e := by simp
      rw [e1, e2, hrep]
      exact ⟨h1, hc⟩
  · rw [List.length_append]; have := h.kle; omega
  · show q.s = _
    rw [List.take_append_of_le_length h.kle]; exact h.sure
  · show (wrtB q.l q.n q.b e).length ≤ 100000
    exact wrtB_len e h.b

/-- How much is left of a log. -/
def leftK (q : Sto) (keep : Int) : Nat := (q.s + min (max keep 0) (q.b.length - q.s)).toNat
theorem hist_crash {q : Sto} {W : List Ent} {k : Nat} (h : Hist q W k) (keep : Int) : ∃ j, k ≤ j ∧ j ≤ W.length ∧ (∀ i, i < W.length → ((encAll (W.take (i + 1))).length ≤ leftK q keep ↔ i < j)) ∧
    crsP q.b q.s keep = st (W.take j) ∧ crsB q.b q.s keep = encAll (W.take j) ∧
    Hist ⟨(crsP q.b q.s keep).1, (crsP q.b q.s keep).2, crsB q.b q.s keep, ((crsB q.b q.s keep).length : Int)⟩ (W.take j) j := by
  have hs := hist_ok h
  have hs0 := hs.s0
  have hs1 := hs.s1
  have hb := h.bytes
  have hK : leftK q keep ≤ (encAll W).length := by unfold leftK; rw [hb] at *; omega
  have hK2 : (encAll (W.take k)).length ≤ leftK q keep := by have := h.sure; unfold leftK; omega
  obtain ⟨j, h1, h2, h3, h4, h5⟩ := torn W (leftK q keep) h.may hK
  have hcr : crB q.b q.s keep = (encAll W).take (leftK q keep) := by unfold crB leftK; rw [hb]
  have hkj : k ≤ j := by
    rcases Nat.lt_or_ge j k with hlt | hge
    · exfalso
      have := (h3 (k - 1) (by have := h.kle; omega)).1 (by rw [show k - 1 + 1 = k by omega]; exact hK2)
      omega
    · exact hge
  have hP : crsP q.b q.s keep = st (W.take j) := by unfold crsP crsE; rw [hcr, h4]; rfl
  have hlen : ((encAll W).take (leftK q keep)).length = leftK q keep := by rw [List.length_take]; omega
  have hu : usedM ((encAll W).take (leftK q keep)) = ((encAll (W.take j)).length : Int) := by unfold usedM; rw [hlen]; omega
  have hpre : (encAll W).take (encAll (W.take j)).length = encAll (W.take j) := by
    have : encAll W = encAll (W.take j) ++ encAll (W.drop j) := by rw [← encAll_append, List.take_append_drop]
    rw [this]; simp
  have hB : crsB q.b q.s keep = encAll (W.take j) := by
    unfold crsB cuB
    rw [hcr, hu, hlen]
    split
    · rw [Int.toNat_natCast, List.take_take, Nat.min_eq_left h2, hpre]
    · rw [show leftK q keep = (encAll (W.take j)).length by omega, hpre]
  refine ⟨j, hkj, h1, h3, hP, hB, ?_⟩
  have hjl : (W.take j).length = j := by rw [List.length_take]; omega
  refine ⟨fun e he => h.may e ((List.take_sublist j W).subset he), hB, hP.symm, fun i hi => ?_, by rw [hjl]; exact Nat.le_refl _, ?_, ?_⟩
  · rw [List.take_take, List.getElem_take, Nat.min_eq_left (by omega)]
    exact h.acc i (by omega)
  · show ((crsB q.b q.s keep).length : Int) = _
    rw [hB, List.take_take, Nat.min_self]
  · show (crsB q.b q.s keep).length ≤ 100000
    have := crsB_len q.b q.s keep
    have := h.b
    omega
theorem left_mono {q : Sto} {a b : Int} (h : a ≤ b) : leftK q a ≤ leftK q b := by unfold leftK; omega

/-- Each step. -/
theorem hist_step {q : Sto} {W : List Ent} {k : Nat} (h : Hist q W k) (x : Sst) :
    (x.op = 6 ∧ Hist (stepS q x) W W.length ∧ (stepS q x).l = q.l) ∨
    (x.op = 7 ∧ ∃ j, Hist (stepS q x) (W.take j) j ∧ j ≤ W.length) ∨
    (x.op ≠ 6 ∧ x.op ≠ 7 ∧ ((∃ e, Hist (stepS q x) (W ++ [e]) k) ∨ stepS q x = q)) := by
  unfold stepS
  by_cases h7 : x.op = 7
  · rw [if_pos h7]
    obtain ⟨j, h1, h2, h3, h4, h5, h6⟩ := hist_crash h x.n
    exact .inr (.inl ⟨h7, j, h6, h2⟩)
  rw [if_neg h7]
  by_cases h6 : x.op = 6
  · rw [if_pos h6]
    exact .inl ⟨h6, hist_sync h, rfl⟩
  rw [if_neg h6]
  refine .inr (.inr ⟨h6, h7, ?_⟩)
  split
  · rename_i hc
    by_cases h0 : wrtC q.l q.n q.b (stepE q.n x) = 0
    · exact .inl ⟨_, hist_write h ⟨q.n, x, ⟨hc.1, hc.2.1⟩, rfl⟩ h0⟩
    · right
      unfold wrtL wrtN wrtB
      rw [if_neg h0, if_neg h0, if_neg h0]
  · exact .inr rfl

/-- What the times hold. -/
def Cov (W : List Ent) (k : Nat) (T : List (List Upl)) : Prop :=
  (∀ t ∈ T, t.length ≤ 12) ∧ ∃ f : Nat → Nat, (∀ j, k ≤ j → j ≤ W.length → f j < T.length ∧ T[f j]? = some (st (W.take j)).1) ∧ ∀ i j, k ≤ i → i ≤ j → j ≤ W.length → f i ≤ f j
theorem st_len (W : List Ent) : (st W).1.length ≤ 12 := (replay_ok W ([], 0) spl_nil).cnt
theorem cov_new (W : List Ent) : Cov W W.length [(st W).1] := by
  refine ⟨fun t ht => by rw [List.mem_singleton.1 ht]; exact st_len W, fun _ => 0, fun j h1 h2 => ?_, fun _ _ _ _ _ => Nat.le_refl _⟩
  rw [show j = W.length by omega, List.take_length]
  exact ⟨by simp, rfl⟩
theorem cov_same {W : List Ent} {k : Nat} {T : List (List Upl)} (h : Cov W k T) {x : List Upl} (hx : x.length ≤ 12) : Cov W k (T ++ [x]) := by
  obtain ⟨h0, f, h1, h2⟩ := h
  refine ⟨fun t ht => ?_, f, fun j a b => ?_, h2⟩
  · rcases List.mem_append.1 ht with ht | ht
    · exact h0 t ht
    · rw [List.mem_singleton.1 ht]; exact hx
  · obtain ⟨c, d⟩ := h1 j a b
    exact ⟨by rw [List.length_append]; omega, by rw [List.getElem?_append_left c]; exact d⟩
theorem cov_app {W : List Ent} {k : Nat} {T : List (List Upl)} (h : Cov W k T) (hk : k ≤ W.length) (e : Ent) : Cov (W ++ [e]) k (T ++ [(st (W ++ [e])).1]) := by
  obtain ⟨h0, f, h1, h2⟩ := cov_same h (st_len (W ++ [e]))
  obtain ⟨_, g, h3, h4⟩ := h
  refine ⟨h0, fun j => if j ≤ W.length then g j else T.length, fun j a b => ?_, fun i j a b c => ?_⟩
  · simp only
    by_cases hj : j ≤ W.length
    · rw [if_pos hj, List.take_append_of_le_length hj]
      obtain ⟨c, d⟩ := h3 j a hj
      exact ⟨by rw [List.length_append]; omega, by rw [List.getElem?_append_left c]; exact d⟩
    · rw [if_neg hj, List.take_of_length_le (by rw [List.length_append]; simp; omega)]
      exact ⟨by rw [List.length_append]; simp, by rw [List.getElem?_append_right (Nat.le_refl _)]; simp⟩
  · simp only
    by_cases hj : j ≤ W.length
    · rw [if_pos hj, if_pos (by omega)]; exact h4 i j a b hj
    · rw [if_neg hj]
      by_cases hi : i ≤ W.length
      · rw [if_pos hi]; exact Nat.le_of_lt (h3 i a hi).1
      · rw [if_neg hi]; exact Nat.le_refl _
def timesT (T : List (List Upl)) (q : Sto) (x : Sst) : List (List Upl) := (if x.op = 6 ∨ x.op = 7 then [] else T) ++ [(stepS q x).l]
/-- What is so ahead of each step. -/
def Sure (q : Sto) (T : List (List Upl)) : Prop := ∃ W k, Hist q W k ∧ Cov W k T
theorem sure_nil : Sure ⟨[], 0, [], 0⟩ [[]] := ⟨[], 0, hist_nil, cov_new []⟩
theorem sure_step {q : Sto} {T : List (List Upl)} (h : Sure q T) (x : Sst) : Sure (stepS q x) (timesT T q x) := by
  obtain ⟨W, k, h1, h2⟩ := h
  unfold timesT
  rcases hist_step h1 x with ⟨ho, h3, h4⟩ | ⟨ho, j, h3, h4⟩ | ⟨ho, ho2, ⟨e, h3⟩ | h3⟩
  · rw [if_pos (.inl ho)]
    have e1 := h3.rep
    have := cov_new W
    rw [e1] at this
    exact ⟨W, _, h3, this⟩
  · rw [if_pos (.inr ho)]
    have e1 := h3.rep
    have := cov_new (W.take j)
    rw [e1, show (W.take j).length = j by rw [List.length_take]; omega] at this
    exact ⟨_, j, h3, this⟩
  · rw [if_neg (by omega)]
    have e1 := h3.rep
    have := cov_app h2 h1.kle e
    rw [e1] at this
    exact ⟨_, k, h3, this⟩
  · rw [if_neg (by omega), h3]
    exact ⟨W, k, h1, cov_same h2 (hist_ok h1).spl.cnt⟩
theorem sure_ok {q : Sto} {T : List (List Upl)} (h : Sure q T) : StoOk q ∧ ∀ t ∈ T, t.length ≤ 12 := by
  obtain ⟨W, k, h1, h2⟩ := h
  exact ⟨hist_ok h1, h2.1⟩
/-- Behind two crashes. -/
theorem sure_two {q : Sto} {T : List (List Upl)} (h : Sure q T) (a b : Int) : ∃ i j : Nat, T[i]? = some (crsP q.b q.s a).1 ∧ T[j]? = some (crsP q.b q.s b).1 ∧ (a ≤ b → i ≤ j) := by
  obtain ⟨W, k, h1, _, f, h2, h3⟩ := h
  obtain ⟨i, a1, a2, a3, a4, _, _⟩ := hist_crash h1 a
  obtain ⟨j, b1, b2, b3, b4, _, _⟩ := hist_crash h1 b
  refine ⟨f i, f j, by rw [a4]; exact (h2 i a1 a2).2, by rw [b4]; exact (h2 j b1 b2).2, fun hab => h3 i j a1 ?_ b2⟩
  rcases Nat.lt_or_ge j i with hlt | hge
  · exfalso
    have hm := left_mono (q := q) hab
    have := (a3 j (by omega)).2 hlt
    have := (b3 j (by omega)).1 (by omega)
    omega
  · exact hge
end Go.Proofs.YtjapkdcomcgamaaGreatDoor
namespace Go.Proofs.YtjapkdcomcgamaaGreatDoor
open Go Go.Sep Go.Ab Go.Jrn

theorem hist_again {q : Sto} {W : List Ent} (h : Hist q W W.length) (keep : Int) : (crsP q.b q.s keep) = (q.l, q.n) ∧ crsB q.b q.s keep = q.b ∧ q.s = (q.b.length : Int) := by
  obtain ⟨j, h1, h2, h3, h4, h5, h6⟩ := hist_crash h keep
  have hj : j = W.length := by omega
  subst hj
  rw [List.take_length] at h4 h5
  refine ⟨by rw [h4, h.rep], by rw [h5, h.bytes], ?_⟩
  have := h.sure
  rw [List.take_length] at this
  rw [this, h.bytes]
theorem dec_all {W : List Ent} (h : ∀ e ∈ W, mayM e = true) : (Jrn.dec (encAll W)).1 = W ∧ usedM (encAll W) = ((encAll W).length : Int) := by
  have h1 := Jrn.dec_forth W [] h
  rw [List.append_nil] at h1
  have h2 : Jrn.dec [] = ([], []) := rfl
  rw [h2] at h1
  refine ⟨by rw [h1]; simp, ?_⟩
  unfold usedM
  rw [h1]; simp

/-- The step that an entry was written of. -/
def entX (l : List Upl) (e : Ent) : Sst := ⟨e.kind - 1, e.id, if e.kind - 1 = 1 then ((getU l e.id).bytes.length : Int) else e.n, e.text⟩
theorem ent_step {l : List Upl} {n : Int} {e : Ent} (h0 : playC l n e = 0) (hc : CanE e) : stepE n (entX l e) = e ∧ 0 ≤ (entX l e).op ∧ (entX l e).op ≤ 5 ∧ stepG l (entX l e) = false := by
  obtain ⟨m, x, ⟨h1, h2⟩, rfl⟩ := hc
  unfold stepE at h0 ⊢
  unfold entX
  have hc : x.op = 0 ∨ x.op = 1 ∨ x.op = 2 ∨ x.op = 3 ∨ x.op = 4 ∨ x.op = 5 := by omega
  rcases hc with h | h | h | h | h | h
  · simp [h] at h0 ⊢
    unfold playC at h0
    simp only [if_true] at h0
    refine ⟨?_, ?_⟩
    · split at h0
      · cases h0
      · rename_i h3
        by_cases h4 : creC l x.n x.text = 0
        · have : n + 1 = m + 1 := by
            rcases Classical.em (n + 1 = m + 1) with h5 | h5
            · exact h5
            · exact absurd ⟨h4, h5⟩ h3
          omega
        · exact absurd h0 h4
    · unfold stepG; simp
  · simp [h]
    unfold stepG apG
    simp
  · simp [h]
    unfold stepG
    simp
  · simp [h]
    unfold stepG
    simp
  · simp [h]
    unfold stepG
    simp
  · simp [h]
    unfold stepG
    simp
/-- A store in which just these entries were done. -/
def againQ (W : List Ent) : Sto := ⟨(st W).1, (st W).2, encAll W, 0⟩
theorem again_hist {q : Sto} {W : List Ent} {k : Nat} (h : Hist q W k) {i : Nat} (hi : i < W.length) :
    stepC (againQ (W.take i)) (entX (st (W.take i)).1 W[i]) = 0 ∧ stepS (againQ (W.take i)) (entX (st (W.take i)).1 W[i]) = againQ (W.take (i + 1)) := by
  obtain ⟨h0, hc⟩ := h.acc i hi
  obtain ⟨h1, h2, h3, h4⟩ := ent_step h0 hc
  have hm := h.may _ (List.getElem_mem hi)
  have hb := h.b
  rw [h.bytes] at hb
  have hl : (encAll (W.take (i + 1))).length ≤ 100000 := Nat.le_trans (encAll_take W (i + 1)) hb
  have he : encAll (W.take (i + 1)) = encAll (W.take i) ++ encB W[i] := by
    rw [List.take_succ_eq_append_getElem hi, encAll_append]; simp [encAll]
  have hw : wrtC (st (W.take i)).1 (st (W.take i)).2 (encAll (W.take i)) W[i] = 0 := by
    unfold wrtC
    rw [if_neg (by rw [h0]; simp), if_neg (by unfold encC; rw [if_pos hm]; simp)]
    unfold wrC encM
    rw [if_pos hm, if_pos (by rw [he, List.length_append] at hl; exact hl)]
  have hs : st (W.take (i + 1)) = (playL (st (W.take i)).1 (st (W.take i)).2 W[i], playN (st (W.take i)).1 (st (W.take i)).2 W[i]) := replay_take _ hi
  constructor
  · unfold stepC
    rw [if_pos ⟨h2, h3⟩]
    show (if stepG (st (W.take i)).1 _ = true then _ else _) = _
    rw [h4, if_neg (by simp)]
    show wrtC (st (W.take i)).1 (st (W.take i)).2 (encAll (W.take i)) (stepE (st (W.take i)).2 _) = 0
    rw [h1]; exact hw
  · unfold stepS
    rw [if_neg (by omega), if_neg (by omega), if_pos ⟨h2, h3, h4⟩]
    show Sto.mk (wrtL (st (W.take i)).1 (st (W.take i)).2 (encAll (W.take i)) (stepE (st (W.take i)).2 _)) (wrtN (st (W.take i)).1 (st (W.take i)).2 (encAll (W.take i)) (stepE (st (W.take i)).2 _)) (wrtB (st (W.take i)).1 (st (W.take i)).2 (encAll (W.take i)) (stepE (st (W.take i)).2 _)) 0 = _
    rw [h1]
    unfold wrtL wrtN wrtB againQ
    rw [if_pos hw, if_pos hw, if_pos hw, hs, he]
theorem again_ok {q : Sto} {W : List Ent} {k : Nat} (h : Hist q W k) (i : Nat) : StoOk (againQ (W.take i)) := by
  have h1 := replay_ok (W.take i) ([], 0) spl_nil
  have h2 := replay_n (W.take i) ([], 0)
  have h4 := encAll_len (W.take i)
  have h5 := h.b
  rw [h.bytes] at h5
  have h6 := encAll_take W i
  refine ⟨h1, ?_, by show (encAll (W.take i)).length ≤ 100000; omega, Int.le_refl _, by show (0 : Int) ≤ _; omega⟩
  show (st (W.take i)).2 ≤ 150000
  unfold st
  simp only at h2
  omega
/-- Steps, one behind the other. -/
theorem hist_any {q : Sto} (h : ∃ W k, Hist q W k) (x : Sst) : ∃ W k, Hist (stepS q x) W k := by
  obtain ⟨W, k, h⟩ := h
  rcases hist_step h x with ⟨_, h2, _⟩ | ⟨_, j, h2, _⟩ | ⟨_, _, ⟨e, h2⟩ | h2⟩
  · exact ⟨_, _, h2⟩
  · exact ⟨_, _, h2⟩
  · exact ⟨_, _, h2⟩
  · exact ⟨W, k, by rw [h2]; exact h⟩
def crashQ (q : Sto) (keep : Int) : Sto := ⟨(crsP q.b q.s keep).1, (crsP q.b q.s keep).2, crsB q.b q.s keep, ((crsB q.b q.s keep).length : Int)⟩
theorem hist_crashQ {q : Sto} (h : ∃ W k, Hist q W k) (keep : Int) : ∃ W, Hist (crashQ q keep) W W.length := by
  obtain ⟨W, k, h⟩ := h
  obtain ⟨j, h1, h2, h3, h4, h5, h6⟩ := hist_crash h keep
  exact ⟨W.take j, by rw [List.length_take, Nat.min_eq_left h2]; exact h6⟩
end Go.Proofs.YtjapkdcomcgamaaGreatDoor
