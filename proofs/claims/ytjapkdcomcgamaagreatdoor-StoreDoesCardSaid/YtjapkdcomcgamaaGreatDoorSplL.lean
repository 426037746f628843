/- Uploads: what a spool is, in plain words. -/
import Derived.Test.YtjapkdcomcgamaaGreatDoorChrC
set_option linter.all false
namespace Go.Proofs.YtjapkdcomcgamaaGreatDoor
open Go Go.Sep Go.Ab

def upl0 : Upl := ⟨0, 0, [], [], 0⟩
def atU (l : List Upl) (id : Int) : Nat := l.findIdx fun u => u.id == id
def uplAt (l : List Upl) (id : Int) : Upl := l.getD (atU l id) upl0
def usedU : List Upl → Int
  | [] => 0
  | u :: l => u.bytes.length + usedU l
def creC (l : List Upl) (size : Int) (m : Str) : Int :=
  if size < -1 then 1 else if 2000 < size ∨ 100 < m.length then 4 else if seenA m = false ∨ ¬ Lib.trimS m [32, 9] = m then 3 else if l.length = 12 then 8 else 0
def creL (l : List Upl) (n size : Int) (m : Str) : List Upl := if creC l size m = 0 then l ++ [⟨n + 1, size, m, [], 0⟩] else l
def creN (l : List Upl) (n size : Int) (m : Str) : Int := if creC l size m = 0 then n + 1 else n
def creI (l : List Upl) (n size : Int) (m : Str) : Int := if creC l size m = 0 then n + 1 else 0
def appC (l : List Upl) (id off : Int) (b : Str) : Int :=
  if l.length ≤ atU l id then 10
  else if ¬ (uplAt l id).sent = 0 then 19
  else if ¬ off = (uplAt l id).bytes.length then 17
  else if 2000 < (uplAt l id).bytes.length + b.length ∨ 0 ≤ (uplAt l id).size ∧ (uplAt l id).size < (uplAt l id).bytes.length + b.length then 4
  else if 6000 < usedU l + b.length then 16 else 0
def appL (l : List Upl) (id off : Int) (b : Str) : List Upl := if appC l id off b = 0 then l.set (atU l id) { uplAt l id with bytes := (uplAt l id).bytes ++ b } else l
def decC (l : List Upl) (id size : Int) : Int :=
  if l.length ≤ atU l id then 10
  else if 0 ≤ (uplAt l id).size then 18
  else if size < 0 then 1
  else if 2000 < size ∨ size < (uplAt l id).bytes.length then 4 else 0
def decL (l : List Upl) (id size : Int) : List Upl := if decC l id size = 0 then l.set (atU l id) { uplAt l id with size := size } else l
def droC (l : List Upl) (id : Int) : Int := if l.length ≤ atU l id then 10 else 0
def droL (l : List Upl) (id : Int) : List Upl := l.eraseIdx (atU l id)
def begC (l : List Upl) (id : Int) : Int :=
  if l.length ≤ atU l id then 10
  else if ¬ (uplAt l id).sent = 0 then 19
  else if ¬ (uplAt l id).size = (uplAt l id).bytes.length then 14 else 0
def begL (l : List Upl) (id : Int) : List Upl := if begC l id = 0 then l.set (atU l id) { uplAt l id with sent := 1 } else l
def endC (l : List Upl) (id : Int) : Int :=
  if l.length ≤ atU l id then 10
  else if ¬ (uplAt l id).sent = 1 then 19 else 0
def endL (l : List Upl) (id : Int) : List Upl := if endC l id = 0 then l.set (atU l id) { uplAt l id with sent := 2 } else l

/-- What is so of each upload. -/
structure UplOk (u : Upl) : Prop where
  bl : u.bytes.length ≤ 2000
  s1 : -1 ≤ u.size
  s2 : u.size ≤ 2000
  nl : u.note.length ≤ 100
  bs : 0 ≤ u.size → (u.bytes.length : Int) ≤ u.size
  t0 : 0 ≤ u.sent
  t2 : u.sent ≤ 2
  wh : u.sent ≠ 0 → u.size = u.bytes.length
structure SplOk (l : List Upl) (n : Int) : Prop where
  n0 : 0 ≤ n
  cnt : l.length ≤ 12
  srt : l.Pairwise fun a b => a.id < b.id
  ids : ∀ u ∈ l, 1 ≤ u.id ∧ u.id ≤ n
  each : ∀ u ∈ l, UplOk u
  tot : usedU l ≤ 6000

theorem spl_nil : SplOk [] 0 := ⟨by decide, by decide, List.Pairwise.nil, fun _ h => by simp at h, fun _ h => by simp at h, by decide⟩
theorem atU_le (l : List Upl) (id : Int) : atU l id ≤ l.length := List.findIdx_le_length
theorem uplAt_eq {l : List Upl} {id : Int} (h : atU l id < l.length) : uplAt l id = l[atU l id] := by unfold uplAt; simp [h]
theorem uplAt_mem {l : List Upl} {id : Int} (h : atU l id < l.length) : uplAt l id ∈ l := by rw [uplAt_eq h]; exact List.getElem_mem h
theorem uplAt_id {l : List Upl} {id : Int} (h : atU l id < l.length) : (uplAt l id).id = id := by
  rw [uplAt_eq h]
  have h2 : (l[atU l id].id == id) = true := List.findIdx_getElem (p := fun u : Upl => u.id == id) (w := h)
  simpa using h2
theorem usedU_app (a b : List Upl) : usedU (a ++ b) = usedU a + usedU b := by
  induction a with
  | nil => simp [usedU]
  | cons u a ih => simp only [List.cons_append, usedU, ih]; omega
theorem usedU_nonneg : ∀ l : List Upl, 0 ≤ usedU l
  | [] => by decide
  | u :: l => by have := usedU_nonneg l; simp only [usedU]; omega
theorem usedU_mem : ∀ {l : List Upl} {u : Upl}, u ∈ l → (u.bytes.length : Int) ≤ usedU l
  | v :: l, u, h => by
    have := usedU_nonneg l
    simp only [usedU]
    rcases List.mem_cons.1 h with rfl | h
    · omega
    · have := usedU_mem h; omega
theorem usedU_set : ∀ {l : List Upl} {i : Nat} {u : Upl} (h : i < l.length), usedU (l.set i u) = usedU l - l[i].bytes.length + u.bytes.length
  | v :: l, 0, u, h => by simp only [List.set_cons_zero, usedU, List.getElem_cons_zero]; omega
  | v :: l, i + 1, u, h => by
    have := usedU_set (l := l) (i := i) (u := u) (by simpa using h)
    simp only [List.set_cons_succ, usedU, List.getElem_cons_succ, this]; omega
theorem usedU_erase : ∀ (l : List Upl) (i : Nat), usedU (l.eraseIdx i) ≤ usedU l
  | [], _ => by simp [usedU]
  | v :: l, 0 => by simp only [List.eraseIdx_cons_zero, usedU]; omega
  | v :: l, i + 1 => by have := usedU_erase l i; simp only [List.eraseIdx_cons_succ, usedU]; omega

theorem spl_set {l : List Upl} {n : Int} (h : SplOk l n) {i : Nat} (hi : i < l.length) {u : Upl} (hid : u.id = l[i].id) (hu : UplOk u) (ht : usedU l - l[i].bytes.length + u.bytes.length ≤ 6000) : SplOk (l.set i u) n := by
  refine ⟨h.n0, by rw [List.length_set]; exact h.cnt, ?_, fun v hv => ?_, fun v hv => ?_, by rw [usedU_set hi]; exact ht⟩
  · have h1 := List.pairwise_map (f := fun u : Upl => u.id) (R := (· < ·)) (l := l)
    have h2 := List.pairwise_map (f := fun u : Upl => u.id) (R := (· < ·)) (l := l.set i u)
    rw [List.map_set, hid] at h2
    have e : (l.map fun u : Upl => u.id).set i l[i].id = l.map fun u : Upl => u.id := by
      have := List.set_getElem_self (show i < (l.map fun u : Upl => u.id).length by simpa using hi)
      simpa using this
    rw [e] at h2
    exact h2.1 (h1.2 h.srt)
  · rcases List.mem_or_eq_of_mem_set hv with hv | rfl
    · exact h.ids v hv
    · rw [hid]; exact h.ids _ (List.getElem_mem hi)
  · rcases List.mem_or_eq_of_mem_set hv with hv | rfl
    · exact h.each v hv
    · exact hu

theorem cre_ok {l : List Upl} {n : Int} (h : SplOk l n) (size : Int) (m : Str) : SplOk (creL l n size m) (creN l n size m) := by
  unfold creL creN
  split
  · rename_i hc
    unfold creC at hc
    split at hc
    · cases hc
    split at hc
    · cases hc
    split at hc
    · cases hc
    split at hc
    · cases hc
    have hcnt := h.cnt
    have hn := h.n0
    refine ⟨by omega, by simp; omega, ?_, fun u hu => ?_, fun u hu => ?_, ?_⟩
    · rw [List.pairwise_append]
      refine ⟨h.srt, by simp, fun a ha b hb => ?_⟩
      simp only [List.mem_singleton] at hb
      subst hb
      have := (h.ids a ha).2
      show a.id < n + 1
      omega
    · rcases List.mem_append.1 hu with hu | hu
      · have := h.ids u hu; omega
      · simp only [List.mem_singleton] at hu; subst hu; exact ⟨by show 1 ≤ n + 1; omega, by show n + 1 ≤ n + 1; omega⟩
    · rcases List.mem_append.1 hu with hu | hu
      · exact h.each u hu
      · simp only [List.mem_singleton] at hu; subst hu
        exact ⟨by simp, by simp only; omega, by simp only; omega, by simp only; omega, fun _ => by simpa, by simp, by simp, fun h => absurd rfl h⟩
    · rw [usedU_app]; have := h.tot; simp [usedU]; omega
  · exact h
theorem app_ok {l : List Upl} {n : Int} (h : SplOk l n) (id off : Int) (b : Str) : SplOk (appL l id off b) n := by
  unfold appL
  split
  · rename_i hc
    unfold appC at hc
    split at hc
    · cases hc
    rename_i h1
    have hi : atU l id < l.length := by omega
    have hu := h.each _ (uplAt_mem hi)
    split at hc
    · cases hc
    split at hc
    · cases hc
    split at hc
    · cases hc
    split at hc
    · cases hc
    rename_i h2 h3 h4 h5
    refine spl_set h hi (by show (uplAt l id).id = _; rw [uplAt_eq hi]) ?_ ?_
    · refine ⟨?_, hu.s1, hu.s2, hu.nl, ?_, hu.t0, hu.t2, fun hs => absurd (by simpa using h2) hs⟩
      · show ((uplAt l id).bytes ++ b).length ≤ 2000; rw [List.length_append]; omega
      · intro hs; show ((((uplAt l id).bytes ++ b).length : Nat) : Int) ≤ (uplAt l id).size; rw [List.length_append]
        have hs : 0 ≤ (uplAt l id).size := hs
        omega
    · show usedU l - _ + ((((uplAt l id).bytes ++ b).length : Nat) : Int) ≤ 6000
      rw [List.length_append, ← uplAt_eq hi]; omega
  · exact h
theorem dec_ok {l : List Upl} {n : Int} (h : SplOk l n) (id size : Int) : SplOk (decL l id size) n := by
  unfold decL
  split
  · rename_i hc
    unfold decC at hc
    split at hc
    · cases hc
    rename_i h1
    have hi : atU l id < l.length := by omega
    have hu := h.each _ (uplAt_mem hi)
    split at hc
    · cases hc
    split at hc
    · cases hc
    split at hc
    · cases hc
    rename_i h2 h3 h4
    refine spl_set h hi (by show (uplAt l id).id = _; rw [uplAt_eq hi]) ?_ ?_
    · refine ⟨hu.bl, by show -1 ≤ size; omega, by show size ≤ 2000; omega, hu.nl, fun _ => by show (((uplAt l id).bytes.length : Nat) : Int) ≤ size; omega, hu.t0, hu.t2, fun hs => ?_⟩
      have := hu.wh hs
      omega
    · show usedU l - _ + (((uplAt l id).bytes.length : Nat) : Int) ≤ 6000
      rw [← uplAt_eq hi]; have := h.tot; omega
  · exact h
theorem dro_ok {l : List Upl} {n : Int} (h : SplOk l n) (id : Int) : SplOk (droL l id) n := by
  unfold droL
  have hs := List.eraseIdx_sublist l (atU l id)
  refine ⟨h.n0, Nat.le_trans hs.length_le h.cnt, h.srt.sublist hs, fun u hu => h.ids u (hs.subset hu), fun u hu => h.each u (hs.subset hu), Int.le_trans (usedU_erase _ _) h.tot⟩
theorem beg_ok {l : List Upl} {n : Int} (h : SplOk l n) (id : Int) : SplOk (begL l id) n := by
  unfold begL
  split
  · rename_i hc
    unfold begC at hc
    split at hc
    · cases hc
    rename_i h1
    have hi : atU l id < l.length := by omega
    have hu := h.each _ (uplAt_mem hi)
    split at hc
    · cases hc
    split at hc
    · cases hc
    rename_i h2 h3
    refine spl_set h hi (by show (uplAt l id).id = _; rw [uplAt_eq hi]) ⟨hu.bl, hu.s1, hu.s2, hu.nl, hu.bs, by show (0 : Int) ≤ 1; decide, by show (1 : Int) ≤ 2; decide, fun _ => by simpa using h3⟩ ?_
    show usedU l - _ + (((uplAt l id).bytes.length : Nat) : Int) ≤ 6000
    rw [← uplAt_eq hi]; have := h.tot; omega
  · exact h
theorem end_ok {l : List Upl} {n : Int} (h : SplOk l n) (id : Int) : SplOk (endL l id) n := by
  unfold endL
  split
  · rename_i hc
    unfold endC at hc
    split at hc
    · cases hc
    rename_i h1
    have hi : atU l id < l.length := by omega
    have hu := h.each _ (uplAt_mem hi)
    split at hc
    · cases hc
    rename_i h2
    refine spl_set h hi (by show (uplAt l id).id = _; rw [uplAt_eq hi]) ⟨hu.bl, hu.s1, hu.s2, hu.nl, hu.bs, by show (0 : Int) ≤ 2; decide, by show (2 : Int) ≤ 2; decide, fun _ => hu.wh (by simp only [Decidable.not_not] at h2; omega)⟩ ?_
    show usedU l - _ + (((uplAt l id).bytes.length : Nat) : Int) ≤ 6000
    rw [← uplAt_eq hi]; have := h.tot; omega
  · exact h

/-- Each is found by its number. -/
theorem at_of {l : List Upl} (h : l.Pairwise fun a b => a.id < b.id) {i : Nat} (hi : i < l.length) : atU l l[i].id = i := by
  unfold atU
  rw [List.findIdx_eq hi]
  refine ⟨by simp, fun j hj => ?_⟩
  have := List.pairwise_iff_getElem.1 h j i (by omega) hi hj
  simp only [beq_eq_false_iff_ne, ne_eq]
  omega
theorem filter_id {l : List Upl} (h : l.Pairwise fun a b => a.id < b.id) (id : Int) : (l.filter fun u => !(u.id == id)) = droL l id := by
  induction l with
  | nil => simp [droL]
  | cons u l ih =>
    have h := List.pairwise_cons.1 h
    unfold droL atU at *
    rw [List.filter_cons, List.findIdx_cons]
    by_cases hu : u.id = id
    · have e : (u.id == id) = true := by simpa using hu
      rw [e]
      simp only [Bool.not_true, Bool.false_eq_true, if_false, cond_true, List.eraseIdx_cons_zero]
      refine List.filter_eq_self.2 fun v hv => ?_
      have := h.1 v hv
      simp; omega
    · have e : (u.id == id) = false := by simpa using hu
      rw [e]
      simp only [Bool.not_false, if_true, cond_false, List.eraseIdx_cons_succ, ih h.2]
end Go.Proofs.YtjapkdcomcgamaaGreatDoor
