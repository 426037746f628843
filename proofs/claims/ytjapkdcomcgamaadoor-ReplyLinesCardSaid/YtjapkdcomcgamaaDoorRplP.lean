/- A reply's lines, the plain law. -/
import Derived.Test.YtjapkdcomcgamaaDoorRplL
import Derived.Test.YtjapkdcomcgamaaDoorFldP
import Derived.Test.YtjapkdcomcgamaaDoorLnL
set_option linter.all false
namespace Go.Proofs.YtjapkdcomcgamaaDoor
open Go Go.Sep Go.Ab

theorem lineGo_app (t : Str) : ∀ s pre : Str, seenA s = true → pre.length + s.length ≤ 200 → lineGo pre (s ++ 13 :: 10 :: t) = (pre ++ s, ((pre ++ s).length : Int) + 2, true, 0)
  | [], pre, _, _ => by simp [lineGo]
  | c :: s, pre, h, hl => by
    have hc : seenC c = true := by unfold seenA at h; rw [List.all_cons, Bool.and_eq_true] at h; exact h.1
    have hs : seenA s = true := by unfold seenA at h ⊢; rw [List.all_cons, Bool.and_eq_true] at h; exact h.2
    have h13 : c ≠ 13 := fun e => by subst e; revert hc; decide +kernel
    have h10 : c ≠ 10 := fun e => by subst e; revert hc; decide +kernel
    rw [List.length_cons] at hl
    have ih := lineGo_app t s (pre ++ [c]) hs (by rw [List.length_append]; simp; omega)
    have e2 : lineGo pre (c :: (s ++ 13 :: 10 :: t)) = lineGo (pre ++ [c]) (s ++ 13 :: 10 :: t) := by
      rw [lineGo.eq_def]
      simp only [h13, h10, hc, if_false, Bool.true_eq_false]
      rw [if_neg (by omega)]
    rw [List.cons_append, e2, ih]
    simp
theorem lineOf_app {s : Str} (t : Str) (h : seenA s = true) (hl : s.length ≤ 200) : lineOf (s ++ 13 :: 10 :: t) = (s, (s.length : Int) + 2, true, 0) := by
  unfold lineOf
  rw [lineGo_app t s [] h (by simpa using hl)]
  simp

def joinR : List Str → Str
  | [] => []
  | s :: l => s ++ 13 :: 10 :: joinR l
theorem joinR_app (a b : List Str) : joinR (a ++ b) = joinR a ++ joinR b := by
  induction a with
  | nil => rfl
  | cons s l ih => simp only [List.cons_append, joinR, ih, List.append_assoc]
theorem join_drop {l : List Str} (body : Str) {i : Nat} (h : i < l.length) : (joinR l ++ body).drop (joinR (l.take i)).length = l[i] ++ 13 :: 10 :: (joinR (l.drop (i + 1)) ++ body) := by
  have e : joinR l = joinR (l.take i) ++ (l[i] ++ 13 :: 10 :: joinR (l.drop (i + 1))) := by
    have h1 : l = l.take i ++ l.drop i := (List.take_append_drop i l).symm
    rw [List.drop_eq_getElem_cons h] at h1
    conv => lhs; rw [h1]
    rw [joinR_app]
    rfl
  rw [e, List.append_assoc, List.drop_left]
  simp
theorem join_take {l : List Str} {i : Nat} (h : i < l.length) : (joinR (l.take (i + 1))).length = (joinR (l.take i)).length + l[i].length + 2 := by
  rw [List.take_succ_eq_append_getElem h, joinR_app]
  simp [joinR]; omega

def statS (st : Int) : Str := [72, 84, 84, 80, 47, 49, 46, 49, 32] ++ decS st ++ [32] ++ wordM st
def clenN : Str := [67, 111, 110, 116, 101, 110, 116, 45, 76, 101, 110, 103, 116, 104]
def clenF (n : Int) : Fld := ⟨clenN, decS n⟩
def linesR (st : Int) (fs : List Fld) (n : Int) : List Str := statS st :: (fs.map (fun f => (textF f).1) ++ [clenN ++ [58, 32] ++ decS n, []])
theorem fldsT_join : ∀ fs : List Fld, fldsT fs = joinR (fs.map fun f => (textF f).1)
  | [] => rfl
  | f :: l => by simp only [fldsT, List.map_cons, joinR, fldsT_join l]; simp
theorem writeT_lines {st : Int} {fs : List Fld} {body : Str} (h : writeC st fs = 0) : writeT st fs body = joinR (linesR st fs body.length) ++ body := by
  unfold writeT
  rw [if_pos h, linesR, joinR, joinR_app, ← fldsT_join]
  unfold headM tailM statS clenN
  simp [joinR]
theorem writeC_ok {st : Int} {fs : List Fld} (h : writeC st fs = 0) : wordM st ≠ [] ∧ fs.length < 16 ∧ badF fs = 0 := by
  unfold writeC at h
  split at h
  · cases h
  split at h
  · cases h
  split at h
  · cases h
  exact ⟨by assumption, by omega, h⟩
theorem badF_ok : ∀ {fs : List Fld}, badF fs = 0 → ∀ f ∈ fs, (textF f).2 = 0
  | f :: l, h, g, hg => by
    unfold badF at h
    split at h
    · rename_i hf
      rcases List.mem_cons.1 hg with rfl | hg
      · exact hf
      · exact badF_ok h g hg
    · rename_i hf; exact absurd h hf
theorem tok_seen {c : UInt8} (h : tokB (c.toNat : Int) = true) : seenB (c.toNat : Int) = true := by
  have : ∀ n : Fin 256, tokB (n.1 : Int) = true → seenB (n.1 : Int) = true := by decide +kernel
  exact this ⟨c.toNat, c.toNat_lt⟩ h
theorem seenA_app (a b : Str) : seenA (a ++ b) = (seenA a && seenA b) := by unfold seenA; rw [List.all_append]
theorem text_seen {f : Fld} (h : (textF f).2 = 0) : seenA (textF f).1 = true ∧ (textF f).1 ≠ [] := by
  obtain ⟨h1, h2, h3⟩ := text_fit h
  rw [h3, seenA_app, seenA_app]
  have := tokenA_tok h1.tok
  have hn : seenA f.name = true := List.all_eq_true.2 fun x hx => tok_seen (tokA_mem this.2 hx)
  rw [hn, h1.seen]
  exact ⟨by decide +kernel, by simp⟩
def dgB (c : UInt8) : Bool := digitB (c.toNat : Int)
theorem dgN_dg : ∀ d : Fin 10, dgB (dgN d.1) = true := by decide +kernel
theorem txtN_dg : ∀ f n, (txtN 10 f n).all dgB = true
  | 0, _ => rfl
  | f + 1, n => by
    by_cases h : n < 10
    · rw [txtN_one h]
      simp only [List.all_cons, List.all_nil, Bool.and_true]
      exact dgN_dg ⟨n, h⟩
    · rw [txtN_more h, List.all_append, txtN_dg f]
      simp only [List.all_cons, List.all_nil, Bool.and_true, Bool.true_and]
      exact dgN_dg ⟨n % 10, Nat.mod_lt _ (by decide)⟩
theorem dg_seen {c : UInt8} (h : dgB c = true) : seenB (c.toNat : Int) = true ∧ bl c = false := by
  have : ∀ n : Fin 256, digitB (n.1 : Int) = true → seenB (n.1 : Int) = true ∧ bl (UInt8.ofNat n.1) = false := by decide +kernel
  have := this ⟨c.toNat, c.toNat_lt⟩ h
  simpa using this
theorem drop_none {s : Str} (h : s.all dgB = true) : s.dropWhile bl = s := by
  cases s with
  | nil => rfl
  | cons c l =>
    rw [List.all_cons, Bool.and_eq_true] at h
    rw [List.dropWhile_cons, (dg_seen h.1).2]
    simp
theorem trim_dg {s : Str} (h : s.all dgB = true) : Lib.trimS s [32, 9] = s := by
  rw [trimS_eq]
  unfold trL trR
  have h2 : s.reverse.all dgB = true := by rw [List.all_reverse]; exact h
  rw [drop_none h2, List.reverse_reverse, drop_none h]
theorem seen_dg {s : Str} (h : s.all dgB = true) : seenA s = true := List.all_eq_true.2 fun x hx => (dg_seen (List.all_eq_true.1 h x hx)).1
theorem dec_seen {n : Int} : seenA (decS n) = true := seen_dg (s := decS n) (txtN_dg 4 n.toNat)
theorem clen_parse (n : Int) : parseF (clenN ++ [58, 32] ++ decS n) = (clenF n, 0) :=
  fit_parse (f := clenF n) ⟨(by decide +kernel : tokenA clenN = true), (by decide : clenN.length ≤ 40), seen_dg (txtN_dg _ _), trim_dg (txtN_dg _ _)⟩
theorem clen_seen (n : Int) : seenA (clenN ++ [58, 32] ++ decS n) = true ∧ (clenN ++ [58, 32] ++ decS n).length ≤ 200 := by
  have := decS_len n
  refine ⟨?_, by simp [clenN]; omega⟩
  rw [seenA_app, seenA_app, dec_seen]
  decide +kernel
theorem stat_seen {st : Int} (h : wordM st ≠ []) : seenA (statS st) = true ∧ (statS st).length ≤ 200 := by
  have hl := decS_len st
  have hw := wordM_few h
  have hs : seenA (wordM st) = true := by
    rcases wordM_in h with rfl | rfl | rfl | rfl | rfl | rfl | rfl | rfl | rfl | rfl | rfl <;> decide +kernel
  unfold statS
  refine ⟨?_, by simp; omega⟩
  rw [seenA_app, seenA_app, seenA_app, hs, dec_seen]
  decide +kernel

/-- Each line. -/
structure LnsR (st : Int) (fs : List Fld) (n : Int) : Prop where
  len : (linesR st fs n).length = fs.length + 3
  ok : ∀ i (h : i < (linesR st fs n).length), seenA (linesR st fs n)[i] = true ∧ (linesR st fs n)[i].length ≤ 200
  zero : (linesR st fs n)[0]? = some (statS st)
  fld : ∀ i f, (fs ++ [clenF n])[i]? = some f → ∃ s, (linesR st fs n)[i + 1]? = some s ∧ s ≠ [] ∧ parseF s = (f, 0)
  last : (linesR st fs n)[fs.length + 2]? = some []
theorem lnsR {st : Int} {fs : List Fld} (n : Int) (h : writeC st fs = 0) : LnsR st fs n := by
  obtain ⟨h1, h2, h3⟩ := writeC_ok h
  have hb := badF_ok h3
  refine ⟨by simp [linesR], fun i hi => ?_, rfl, fun i f hf => ?_, ?_⟩
  · have hm := List.getElem_mem hi
    generalize (linesR st fs n)[i] = s at hm
    unfold linesR at hm
    rcases List.mem_cons.1 hm with rfl | hm
    · exact stat_seen h1
    rcases List.mem_append.1 hm with hm | hm
    · obtain ⟨f, hf, rfl⟩ := List.mem_map.1 hm
      exact ⟨(text_seen (hb f hf)).1, (text_parse (hb f hf)).2⟩
    · simp only [List.mem_cons, List.not_mem_nil, or_false] at hm
      rcases hm with rfl | rfl
      · exact clen_seen n
      · exact ⟨rfl, by decide⟩
  · unfold linesR
    rw [List.getElem?_cons_succ]
    rcases Nat.lt_or_ge i fs.length with hi | hi
    · rw [List.getElem?_append_left hi] at hf
      have hm := List.mem_of_getElem? hf
      refine ⟨(textF f).1, ?_, (text_seen (hb f hm)).2, (text_parse (hb f hm)).1⟩
      rw [List.getElem?_append_left (by simpa using hi), List.getElem?_map, hf]
      rfl
    · have hi2 : i = fs.length := by
        have := (List.getElem?_eq_some_iff.1 hf).1
        simp at this
        omega
      subst hi2
      rw [List.getElem?_append_right (by omega)] at hf
      simp only [Nat.sub_self, List.getElem?_cons_zero, Option.some.injEq] at hf
      subst hf
      refine ⟨clenN ++ [58, 32] ++ decS n, ?_, by simp, clen_parse n⟩
      rw [List.getElem?_append_right (by simp)]
      simp
  · unfold linesR
    rw [List.getElem?_cons_succ, List.getElem?_append_right (by simp)]
    simp
end Go.Proofs.YtjapkdcomcgamaaDoor
