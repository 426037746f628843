/- Bytes and texts: small letters; blanks at the ends. -/
import Derived.Test.YtjapkdcomcgamaaGreatDoorChrB
set_option linter.all false
namespace Go.Proofs.YtjapkdcomcgamaaGreatDoor
open Go Go.Sep Go.Ab
set_option maxRecDepth 100000

def lowC (x : UInt8) : UInt8 := if 65 ≤ x.toNat ∧ x.toNat ≤ 90 then x + 32 else x
def lowS (s : Str) : Str := s.map lowC
theorem lowS_len (s : Str) : (lowS s).length = s.length := by simp [lowS]
theorem lowC_toNat (x : UInt8) : ((lowC x).toNat : Int) = lowK x.toNat := by
  unfold lowC lowK
  have := x.toNat_lt
  split
  · rw [if_pos (by omega), UInt8.toNat_add]
    simp only [show (32 : UInt8).toNat = 32 from rfl]
    omega
  · rw [if_neg (by omega)]
theorem lowC_of (x : UInt8) : UInt8.ofNat (lowK x.toNat).toNat = lowC x := by
  rw [← lowC_toNat, Int.toNat_natCast, UInt8.ofNat_toNat]

/-! ### blanks -/
def bl (c : UInt8) : Bool := ([32, 9] : Str).contains c
def trL (s : Str) : Str := s.dropWhile bl
def trR (s : Str) : Str := (s.reverse.dropWhile bl).reverse
theorem trimS_eq (s : Str) : Lib.trimS s [32, 9] = trL (trR s) := rfl
theorem trL_cons (c : UInt8) (l : Str) : trL (c :: l) = if bl c then trL l else c :: l := by unfold trL; rw [List.dropWhile_cons]
theorem trR_cons (c : UInt8) (l : Str) : trR (c :: l) = if trR l = [] ∧ bl c = true then [] else c :: trR l := by
  unfold trR
  rw [List.reverse_cons, List.dropWhile_append]
  cases hd : l.reverse.dropWhile bl with
  | nil => cases hb : bl c <;> simp [hb, List.dropWhile]
  | cons y r => simp
theorem trR_snoc (c : UInt8) (l : Str) : trR (l ++ [c]) = if bl c then trR l else l ++ [c] := by
  unfold trR
  rw [List.reverse_append]
  simp only [List.reverse_cons, List.reverse_nil, List.nil_append, List.singleton_append]
  rw [List.dropWhile_cons]
  split
  · rfl
  · simp
theorem tr_comm : ∀ s : Str, trL (trR s) = trR (trL s)
  | [] => rfl
  | c :: l => by
    have ih := tr_comm l
    rw [trR_cons, trL_cons]
    by_cases hb : bl c = true
    · rw [if_pos hb, ← ih]
      by_cases h0 : trR l = []
      · rw [if_pos ⟨h0, hb⟩, h0]
      · rw [if_neg (fun h => h0 h.1), trL_cons, if_pos hb]
    · rw [if_neg hb, if_neg (fun h => hb h.2), trL_cons, if_neg hb, trR_cons, if_neg (fun h => hb h.2)]
theorem trL_idem : ∀ s : Str, trL (trL s) = trL s
  | [] => rfl
  | c :: l => by
    rw [trL_cons]
    by_cases h : bl c = true
    · rw [if_pos h]; exact trL_idem l
    · rw [if_neg h, trL_cons, if_neg h]
theorem trR_idem (s : Str) : trR (trR s) = trR s := by
  have h : ∀ t : Str, trR t = (trL t.reverse).reverse := fun _ => rfl
  rw [h (trR s), h s, List.reverse_reverse, trL_idem]
theorem trimS_idem (s : Str) : Lib.trimS (Lib.trimS s [32, 9]) [32, 9] = Lib.trimS s [32, 9] := by
  rw [trimS_eq, trimS_eq, ← tr_comm (trR s), trR_idem, trL_idem]
theorem bl_iff (c : UInt8) : bl c = true ↔ (c.toNat : Int) = 32 ∨ (c.toNat : Int) = 9 := by
  unfold bl
  rw [List.contains_iff_mem, List.mem_cons, List.mem_singleton, ← UInt8.toNat_inj, ← UInt8.toNat_inj]
  simp only [show (32 : UInt8).toNat = 32 from rfl, show (9 : UInt8).toNat = 9 from rfl]
  omega
theorem trL_stop {u : Str} (h : 0 < u.length → ¬ bl (u.getD 0 0) = true) : trL u = u := by
  cases u with
  | nil => rfl
  | cons c l => rw [trL_cons, if_neg (by simpa using h (by simp))]
theorem trL_go {u : Str} (h : 0 < u.length) (hb : bl (u.getD 0 0) = true) : trL u = trL (u.drop 1) := by
  cases u with
  | nil => simp at h
  | cons c l => rw [trL_cons, if_pos (by simpa using hb)]; rfl
theorem snoc_of {u : Str} (h : 0 < u.length) : u = u.take (u.length - 1) ++ [u.getD (u.length - 1) 0] := by
  have hl : u.length - 1 < u.length := by omega
  have := List.take_append_drop (u.length - 1) u
  rw [List.drop_eq_getElem_cons hl, List.drop_of_length_le (by omega)] at this
  simpa [hl] using this.symm
theorem trR_stop {u : Str} (h : 0 < u.length → ¬ bl (u.getD (u.length - 1) 0) = true) : trR u = u := by
  rcases Nat.eq_zero_or_pos u.length with h0 | h0
  · rw [List.eq_nil_of_length_eq_zero h0]; rfl
  · have := snoc_of h0
    generalize hc : u.getD (u.length - 1) 0 = c at *
    rw [this, trR_snoc, if_neg (h h0)]
theorem trR_go {u : Str} (h : 0 < u.length) (hb : bl (u.getD (u.length - 1) 0) = true) : trR u = trR (u.take (u.length - 1)) := by
  have := snoc_of h
  generalize hc : u.getD (u.length - 1) 0 = c at *
  generalize ht : u.take (u.length - 1) = t at *
  rw [this, trR_snoc, if_pos hb]

theorem cTrim_ (s : Str) : Spc Tryz.prog 128 [.v (.one (.p (.str s)))] [] (.ret (.v (.one (.p (.str (Lib.trimS s [32, 9])))))) [] := by
  refine spcG tab_ok mixed Tryz.func128 (by kernel_rfl) { keep := some [0, 2] } [trim__k, trim__l] (by kernel_rfl) ?_
  intro I X hI hX
  refine ev_rule (.need (I.hid (α := (Prop)) True) (.fin (.ret (.v (.one (.p (.str (I.hid (α := (List UInt8)) (Go.Lib.trimS s ([32, 9] : List UInt8)))))))) [])) (by kernel_rfl) ?_
  simp only [instL]
  subst hI
  simp only [nrmA, decide_eq_true_eq, decide_eq_false_iff_not, beq_iff_eq, beq_eq_false_iff_ne, Bool.not_eq_true', Bool.not_eq_false', Bool.and_eq_true, Bool.and_true, Bool.true_and, and_true, true_and, ne_eq, Int.toNat_zero, Nat.sub_zero, List.drop_zero, i64_min, i64_max, u8_min, u8_max, ofNat_b2i, b2i_inj, Int.toNat_natCast, Int.ofNat_eq_natCast, UInt8.ofNat_toNat, AOut.ret.injEq, D.v.injEq, D.tup.injEq, V0.one.injEq, C.p.injEq, P.bool.injEq, P.int.injEq, P.str.injEq, Bool.false_eq_true, Bool.true_eq_false, imp_false, Decidable.not_not, not_true_eq_false, not_false_eq_true]
  try trivial
def cTrim__c (I : Alg) (args : List D) (hp : List HO) : Option CT := match args, hp with
  | [.v (.one (.p (.str s)))], [] => (fun (s : Str) => (some (.one ⟨I.hid (True), (.ret (.v (.one (.p (.str (I.hid (Lib.trimS s [32, 9]))))))), []⟩) : Option CT)) s
  | _, _ => none
theorem cTrim__g : GoodC Tryz.prog 128 (cTrim__c alg) := by
  intro args hp r h
  unfold cTrim__c at h
  split at h
  · cases h; exact fun hn => cTrim_ _
  · cases h
def cTrim__k : Know Tryz.prog := ⟨128, cTrim__c, cTrim__g⟩
def cTrim__l : Know Tryz.prog := ⟨128, fun I => lendC I (cTrim__c I), lendC_good cTrim__g⟩

theorem trimmed_ (s : Str) (hneed : s.length ≤ 1000000) : Spc Tryz.prog 135 [.v (.one (.p (.str s)))] [] (.ret (.v (.one (.p (.str (Lib.trimS s [32, 9])))))) [] := by
  rw [trimS_eq, tr_comm]
  generalize hr : trR (trL s) = r
  refine spcG tab_ok mixed Tryz.func135 (by kernel_rfl) { keep := some [0, 2] } [] (by kernel_rfl) ?_
  intro I X hI hX
  refine ev_rule (.code 0 [1, 0, 0] ⟨[(2, (.v (.one (.p (.str (Array.toList (List.toArray ([] : List UInt8)))))))), (0, (.v (.one (.p (.str s)))))], [], 43, none⟩) (by kernel_rfl) ?_
  simp only [instL]
  refine loop_inv hI tab_ok mixed [] hX [0] (fun (u : Str) => trR (trL u) = r ∧ u.length ≤ 1000000) (fun (u : Str) => ⟨[(0, .v (.one (.p (.str u))))], [], 43, none⟩) (fun (u : Str) => u.length) s (by kernel_rfl) (by kernel_rfl) ?_ ?_
  · exact ⟨hr, hneed⟩
  rintro u ⟨h1, h2⟩ A hA
  refine ev_rule (let y0 := I.cutb 1 (I.len (α := UInt8) u) (I.len (α := UInt8) u); let y1 := I.cut (α := UInt8) u 1 (I.len (α := UInt8) u); let y2 := I.b2i (I.get (α := UInt8) u 0 0); .br (I.ilt 0 (I.len (α := UInt8) u)) (.need (I.inb 0 (I.len (α := UInt8) u)) (.br (I.ieq y2 32) (.need y0 (.need (A ⟨[(0, (.v (.one (.p (.str y1)))))], [], 43, none⟩) .qed)) (.need (I.inb 0 (I.len (α := UInt8) u)) (.br (I.ieq y2 9) (.need y0 (.need (A ⟨[(0, (.v (.one (.p (.str y1)))))], [], 43, none⟩) .qed)) (.code 1 [1, 1, 0, 0] ⟨[(0, (.v (.one (.p (.str u)))))], [], 43, none⟩))))) (.code 1 [1, 1, 0, 0] ⟨[(0, (.v (.one (.p (.str u)))))], [], 43, none⟩)) (by kernel_rfl) ?_
  simp only [instL]
  have hc : I.cut (α := UInt8) u 1 (I.len (α := UInt8) u) = u.drop 1 := by
    rw [hI, alg_cut, alg_len]
    simp only [Int.toNat_natCast, show (1 : Int).toNat = 1 from rfl]
    exact List.take_of_length_le (by rw [List.length_drop]; exact Nat.le_refl _)
  rw [hc]
  have hgo : 0 < u.length → bl (u.getD 0 0) = true → A ⟨[(0, .v (.one (.p (.str ((u.drop 1))))))], [], 43, none⟩ := fun q1 q2 =>
    hA _ ⟨by rw [← h1, trL_go q1 q2], by rw [List.length_drop]; omega⟩ (by rw [List.length_drop]; omega)
  refine ⟨fun c1 => ⟨?_, fun c2 => ?_, fun c2 => ⟨?_, fun c3 => ?_, fun c3 => ?_⟩⟩, fun c1 => ?_⟩
  · subst hI
    simp only [nrmA, decide_eq_true_eq, decide_eq_false_iff_not, beq_iff_eq, beq_eq_false_iff_ne, Bool.not_eq_true', Bool.not_eq_false', Bool.and_eq_true, Bool.and_true, Bool.true_and, and_true, true_and, ne_eq, Int.toNat_zero, Nat.sub_zero, List.drop_zero, i64_min, i64_max, u8_min, u8_max, ofNat_b2i, b2i_inj, Int.toNat_natCast, Int.ofNat_eq_natCast, UInt8.ofNat_toNat, AOut.ret.injEq, D.v.injEq, D.tup.injEq, V0.one.injEq, C.p.injEq, P.bool.injEq, P.int.injEq, P.str.injEq, Bool.false_eq_true, Bool.true_eq_false, imp_false, Decidable.not_not, not_true_eq_false, not_false_eq_true] at c1
    simp only [nrmA, decide_eq_true_eq, decide_eq_false_iff_not, beq_iff_eq, beq_eq_false_iff_ne, Bool.not_eq_true', Bool.not_eq_false', Bool.and_eq_true, Bool.and_true, Bool.true_and, and_true, true_and, ne_eq, Int.toNat_zero, Nat.sub_zero, List.drop_zero, i64_min, i64_max, u8_min, u8_max, ofNat_b2i, b2i_inj, Int.toNat_natCast, Int.ofNat_eq_natCast, UInt8.ofNat_toNat, AOut.ret.injEq, D.v.injEq, D.tup.injEq, V0.one.injEq, C.p.injEq, P.bool.injEq, P.int.injEq, P.str.injEq, Bool.false_eq_true, Bool.true_eq_false, imp_false, Decidable.not_not, not_true_eq_false, not_false_eq_true]
    omega
  · subst hI
    simp only [nrmA, decide_eq_true_eq, decide_eq_false_iff_not, beq_iff_eq, beq_eq_false_iff_ne, Bool.not_eq_true', Bool.not_eq_false', Bool.and_eq_true, Bool.and_true, Bool.true_and, and_true, true_and, ne_eq, Int.toNat_zero, Nat.sub_zero, List.drop_zero, i64_min, i64_max, u8_min, u8_max, ofNat_b2i, b2i_inj, Int.toNat_natCast, Int.ofNat_eq_natCast, UInt8.ofNat_toNat, AOut.ret.injEq, D.v.injEq, D.tup.injEq, V0.one.injEq, C.p.injEq, P.bool.injEq, P.int.injEq, P.str.injEq, Bool.false_eq_true, Bool.true_eq_false, imp_false, Decidable.not_not, not_true_eq_false, not_false_eq_true] at c1
    simp only [nrmA, decide_eq_true_eq, decide_eq_false_iff_not, beq_iff_eq, beq_eq_false_iff_ne, Bool.not_eq_true', Bool.not_eq_false', Bool.and_eq_true, Bool.and_true, Bool.true_and, and_true, true_and, ne_eq, Int.toNat_zero, Nat.sub_zero, List.drop_zero, i64_min, i64_max, u8_min, u8_max, ofNat_b2i, b2i_inj, Int.toNat_natCast, Int.ofNat_eq_natCast, UInt8.ofNat_toNat, AOut.ret.injEq, D.v.injEq, D.tup.injEq, V0.one.injEq, C.p.injEq, P.bool.injEq, P.int.injEq, P.str.injEq, Bool.false_eq_true, Bool.true_eq_false, imp_false, Decidable.not_not, not_true_eq_false, not_false_eq_true] at c2
    simp only [nrmA, decide_eq_true_eq, decide_eq_false_iff_not, beq_iff_eq, beq_eq_false_iff_ne, Bool.not_eq_true', Bool.not_eq_false', Bool.and_eq_true, Bool.and_true, Bool.true_and, and_true, true_and, ne_eq, Int.toNat_zero, Nat.sub_zero, List.drop_zero, i64_min, i64_max, u8_min, u8_max, ofNat_b2i, b2i_inj, Int.toNat_natCast, Int.ofNat_eq_natCast, UInt8.ofNat_toNat, AOut.ret.injEq, D.v.injEq, D.tup.injEq, V0.one.injEq, C.p.injEq, P.bool.injEq, P.int.injEq, P.str.injEq, Bool.false_eq_true, Bool.true_eq_false, imp_false, Decidable.not_not, not_true_eq_false, not_false_eq_true]
    exact ⟨by omega, hgo (by omega) ((bl_iff _).2 (.inl c2))⟩
  · subst hI
    simp only [nrmA, decide_eq_true_eq, decide_eq_false_iff_not, beq_iff_eq, beq_eq_false_iff_ne, Bool.not_eq_true', Bool.not_eq_false', Bool.and_eq_true, Bool.and_true, Bool.true_and, and_true, true_and, ne_eq, Int.toNat_zero, Nat.sub_zero, List.drop_zero, i64_min, i64_max, u8_min, u8_max, ofNat_b2i, b2i_inj, Int.toNat_natCast, Int.ofNat_eq_natCast, UInt8.ofNat_toNat, AOut.ret.injEq, D.v.injEq, D.tup.injEq, V0.one.injEq, C.p.injEq, P.bool.injEq, P.int.injEq, P.str.injEq, Bool.false_eq_true, Bool.true_eq_false, imp_false, Decidable.not_not, not_true_eq_false, not_false_eq_true] at c1
    simp only [nrmA, decide_eq_true_eq, decide_eq_false_iff_not, beq_iff_eq, beq_eq_false_iff_ne, Bool.not_eq_true', Bool.not_eq_false', Bool.and_eq_true, Bool.and_true, Bool.true_and, and_true, true_and, ne_eq, Int.toNat_zero, Nat.sub_zero, List.drop_zero, i64_min, i64_max, u8_min, u8_max, ofNat_b2i, b2i_inj, Int.toNat_natCast, Int.ofNat_eq_natCast, UInt8.ofNat_toNat, AOut.ret.injEq, D.v.injEq, D.tup.injEq, V0.one.injEq, C.p.injEq, P.bool.injEq, P.int.injEq, P.str.injEq, Bool.false_eq_true, Bool.true_eq_false, imp_false, Decidable.not_not, not_true_eq_false, not_false_eq_true]
    omega
  · subst hI
    simp only [nrmA, decide_eq_true_eq, decide_eq_false_iff_not, beq_iff_eq, beq_eq_false_iff_ne, Bool.not_eq_true', Bool.not_eq_false', Bool.and_eq_true, Bool.and_true, Bool.true_and, and_true, true_and, ne_eq, Int.toNat_zero, Nat.sub_zero, List.drop_zero, i64_min, i64_max, u8_min, u8_max, ofNat_b2i, b2i_inj, Int.toNat_natCast, Int.ofNat_eq_natCast, UInt8.ofNat_toNat, AOut.ret.injEq, D.v.injEq, D.tup.injEq, V0.one.injEq, C.p.injEq, P.bool.injEq, P.int.injEq, P.str.injEq, Bool.false_eq_true, Bool.true_eq_false, imp_false, Decidable.not_not, not_true_eq_false, not_false_eq_true] at c1
    simp only [nrmA, decide_eq_true_eq, decide_eq_false_iff_not, beq_iff_eq, beq_eq_false_iff_ne, Bool.not_eq_true', Bool.not_eq_false', Bool.and_eq_true, Bool.and_true, Bool.true_and, and_true, true_and, ne_eq, Int.toNat_zero, Nat.sub_zero, List.drop_zero, i64_min, i64_max, u8_min, u8_max, ofNat_b2i, b2i_inj, Int.toNat_natCast, Int.ofNat_eq_natCast, UInt8.ofNat_toNat, AOut.ret.injEq, D.v.injEq, D.tup.injEq, V0.one.injEq, C.p.injEq, P.bool.injEq, P.int.injEq, P.str.injEq, Bool.false_eq_true, Bool.true_eq_false, imp_false, Decidable.not_not, not_true_eq_false, not_false_eq_true] at c3
    simp only [nrmA, decide_eq_true_eq, decide_eq_false_iff_not, beq_iff_eq, beq_eq_false_iff_ne, Bool.not_eq_true', Bool.not_eq_false', Bool.and_eq_true, Bool.and_true, Bool.true_and, and_true, true_and, ne_eq, Int.toNat_zero, Nat.sub_zero, List.drop_zero, i64_min, i64_max, u8_min, u8_max, ofNat_b2i, b2i_inj, Int.toNat_natCast, Int.ofNat_eq_natCast, UInt8.ofNat_toNat, AOut.ret.injEq, D.v.injEq, D.tup.injEq, V0.one.injEq, C.p.injEq, P.bool.injEq, P.int.injEq, P.str.injEq, Bool.false_eq_true, Bool.true_eq_false, imp_false, Decidable.not_not, not_true_eq_false, not_false_eq_true]
    exact ⟨by omega, hgo (by omega) ((bl_iff _).2 (.inr c3))⟩
  · have hst : trL u = u := trL_stop fun q h => by
      subst hI
      simp only [nrmA, decide_eq_true_eq, decide_eq_false_iff_not, beq_iff_eq, beq_eq_false_iff_ne, Bool.not_eq_true', Bool.not_eq_false', Bool.and_eq_true, Bool.and_true, Bool.true_and, and_true, true_and, ne_eq, Int.toNat_zero, Nat.sub_zero, List.drop_zero, i64_min, i64_max, u8_min, u8_max, ofNat_b2i, b2i_inj, Int.toNat_natCast, Int.ofNat_eq_natCast, UInt8.ofNat_toNat, AOut.ret.injEq, D.v.injEq, D.tup.injEq, V0.one.injEq, C.p.injEq, P.bool.injEq, P.int.injEq, P.str.injEq, Bool.false_eq_true, Bool.true_eq_false, imp_false, Decidable.not_not, not_true_eq_false, not_false_eq_true] at c2
      simp only [nrmA, decide_eq_true_eq, decide_eq_false_iff_not, beq_iff_eq, beq_eq_false_iff_ne, Bool.not_eq_true', Bool.not_eq_false', Bool.and_eq_true, Bool.and_true, Bool.true_and, and_true, true_and, ne_eq, Int.toNat_zero, Nat.sub_zero, List.drop_zero, i64_min, i64_max, u8_min, u8_max, ofNat_b2i, b2i_inj, Int.toNat_natCast, Int.ofNat_eq_natCast, UInt8.ofNat_toNat, AOut.ret.injEq, D.v.injEq, D.tup.injEq, V0.one.injEq, C.p.injEq, P.bool.injEq, P.int.injEq, P.str.injEq, Bool.false_eq_true, Bool.true_eq_false, imp_false, Decidable.not_not, not_true_eq_false, not_false_eq_true] at c3
      rcases (bl_iff _).1 h with h | h
      · exact c2 h
      · exact c3 h
    refine loop_inv hI tab_ok mixed [] hX [0] (fun (v : Str) => trR v = r ∧ v.length ≤ 1000000) (fun (v : Str) => ⟨[(0, .v (.one (.p (.str v))))], [], 43, none⟩) (fun (v : Str) => v.length) u (by kernel_rfl) (by kernel_rfl) ?_ ?_
    · exact ⟨by rw [← h1, hst], h2⟩
    rintro v ⟨k1, k2⟩ B hB
    refine ev_rule (let y0 := I.inr Go.IntKind.i64 (I.sub (I.len (α := UInt8) v) 1); let y1 := I.cutb 0 (I.sub (I.len (α := UInt8) v) 1) (I.len (α := UInt8) v); let y2 := I.b2i (I.get (α := UInt8) v 0 (I.sub (I.len (α := UInt8) v) 1)); let y3 := I.inb (I.sub (I.len (α := UInt8) v) 1) (I.len (α := UInt8) v); let y4 := I.cut (α := UInt8) v 0 (I.sub (I.len (α := UInt8) v) 1); .br (I.ilt 0 (I.len (α := UInt8) v)) (.need y0 (.need y3 (.br (I.ieq y2 32) (.need y0 (.need y1 (.need (B ⟨[(0, (.v (.one (.p (.str y4)))))], [], 43, none⟩) .qed))) (.need y0 (.need y3 (.br (I.ieq y2 9) (.need y0 (.need y1 (.need (B ⟨[(0, (.v (.one (.p (.str y4)))))], [], 43, none⟩) .qed))) (.fin (.ret (.v (.one (.p (.str v))))) []))))))) (.fin (.ret (.v (.one (.p (.str v))))) [])) (by kernel_rfl) ?_
    simp only [instL]
    subst hI
    simp only [nrmA, decide_eq_true_eq, decide_eq_false_iff_not, beq_iff_eq, beq_eq_false_iff_ne, Bool.not_eq_true', Bool.not_eq_false', Bool.and_eq_true, Bool.and_true, Bool.true_and, and_true, true_and, ne_eq, Int.toNat_zero, Nat.sub_zero, List.drop_zero, i64_min, i64_max, u8_min, u8_max, ofNat_b2i, b2i_inj, Int.toNat_natCast, Int.ofNat_eq_natCast, UInt8.ofNat_toNat, AOut.ret.injEq, D.v.injEq, D.tup.injEq, V0.one.injEq, C.p.injEq, P.bool.injEq, P.int.injEq, P.str.injEq, Bool.false_eq_true, Bool.true_eq_false, imp_false, Decidable.not_not, not_true_eq_false, not_false_eq_true]
    have hgo : 0 < v.length → bl (v.getD (v.length - 1) 0) = true → B ⟨[(0, .v (.one (.p (.str ((v.take (v.length - 1)))))))], [], 43, none⟩ := fun q1 q2 =>
      hB _ ⟨by rw [← k1, trR_go q1 q2], by rw [List.length_take]; omega⟩ (by rw [List.length_take]; omega)
    have hend : (0 < v.length → ¬ bl (v.getD (v.length - 1) 0) = true) → v = r := fun q => by rw [← k1, trR_stop q]
    rw [bl_iff] at hgo hend
    simp only [show ((v.length : Int) - 1).toNat = v.length - 1 by omega]
    (repeat' (first | refine And.intro ?_ ?_ | intro _)) <;> first | omega | exact True.intro | exact False.elim ‹False› | skip
    all_goals first
      | exact hgo (by omega) (.inl ‹_›)
      | exact hgo (by omega) (.inr ‹_›)
      | (refine hend fun _ h => ?_; rcases h with h | h <;> contradiction)
      | exact hend (fun h => by omega)
  · have hst : trL u = u := trL_stop fun q h => by
      subst hI
      simp only [nrmA, decide_eq_true_eq, decide_eq_false_iff_not, beq_iff_eq, beq_eq_false_iff_ne, Bool.not_eq_true', Bool.not_eq_false', Bool.and_eq_true, Bool.and_true, Bool.true_and, and_true, true_and, ne_eq, Int.toNat_zero, Nat.sub_zero, List.drop_zero, i64_min, i64_max, u8_min, u8_max, ofNat_b2i, b2i_inj, Int.toNat_natCast, Int.ofNat_eq_natCast, UInt8.ofNat_toNat, AOut.ret.injEq, D.v.injEq, D.tup.injEq, V0.one.injEq, C.p.injEq, P.bool.injEq, P.int.injEq, P.str.injEq, Bool.false_eq_true, Bool.true_eq_false, imp_false, Decidable.not_not, not_true_eq_false, not_false_eq_true] at c1
      omega
    refine loop_inv hI tab_ok mixed [] hX [0] (fun (v : Str) => trR v = r ∧ v.length ≤ 1000000) (fun (v : Str) => ⟨[(0, .v (.one (.p (.str v))))], [], 43, none⟩) (fun (v : Str) => v.length) u (by kernel_rfl) (by kernel_rfl) ?_ ?_
    · exact ⟨by rw [← h1, hst], h2⟩
    rintro v ⟨k1, k2⟩ B hB
    refine ev_rule (let y0 := I.inr Go.IntKind.i64 (I.sub (I.len (α := UInt8) v) 1); let y1 := I.cutb 0 (I.sub (I.len (α := UInt8) v) 1) (I.len (α := UInt8) v); let y2 := I.b2i (I.get (α := UInt8) v 0 (I.sub (I.len (α := UInt8) v) 1)); let y3 := I.inb (I.sub (I.len (α := UInt8) v) 1) (I.len (α := UInt8) v); let y4 := I.cut (α := UInt8) v 0 (I.sub (I.len (α := UInt8) v) 1); .br (I.ilt 0 (I.len (α := UInt8) v)) (.need y0 (.need y3 (.br (I.ieq y2 32) (.need y0 (.need y1 (.need (B ⟨[(0, (.v (.one (.p (.str y4)))))], [], 43, none⟩) .qed))) (.need y0 (.need y3 (.br (I.ieq y2 9) (.need y0 (.need y1 (.need (B ⟨[(0, (.v (.one (.p (.str y4)))))], [], 43, none⟩) .qed))) (.fin (.ret (.v (.one (.p (.str v))))) []))))))) (.fin (.ret (.v (.one (.p (.str v))))) [])) (by kernel_rfl) ?_
    simp only [instL]
    subst hI
    simp only [nrmA, decide_eq_true_eq, decide_eq_false_iff_not, beq_iff_eq, beq_eq_false_iff_ne, Bool.not_eq_true', Bool.not_eq_false', Bool.and_eq_true, Bool.and_true, Bool.true_and, and_true, true_and, ne_eq, Int.toNat_zero, Nat.sub_zero, List.drop_zero, i64_min, i64_max, u8_min, u8_max, ofNat_b2i, b2i_inj, Int.toNat_natCast, Int.ofNat_eq_natCast, UInt8.ofNat_toNat, AOut.ret.injEq, D.v.injEq, D.tup.injEq, V0.one.injEq, C.p.injEq, P.bool.injEq, P.int.injEq, P.str.injEq, Bool.false_eq_true, Bool.true_eq_false, imp_false, Decidable.not_not, not_true_eq_false, not_false_eq_true]
    have hgo : 0 < v.length → bl (v.getD (v.length - 1) 0) = true → B ⟨[(0, .v (.one (.p (.str ((v.take (v.length - 1)))))))], [], 43, none⟩ := fun q1 q2 =>
      hB _ ⟨by rw [← k1, trR_go q1 q2], by rw [List.length_take]; omega⟩ (by rw [List.length_take]; omega)
    have hend : (0 < v.length → ¬ bl (v.getD (v.length - 1) 0) = true) → v = r := fun q => by rw [← k1, trR_stop q]
    rw [bl_iff] at hgo hend
    simp only [show ((v.length : Int) - 1).toNat = v.length - 1 by omega]
    (repeat' (first | refine And.intro ?_ ?_ | intro _)) <;> first | omega | exact True.intro | exact False.elim ‹False› | skip
    all_goals first
      | exact hgo (by omega) (.inl ‹_›)
      | exact hgo (by omega) (.inr ‹_›)
      | (refine hend fun _ h => ?_; rcases h with h | h <;> contradiction)
      | exact hend (fun h => by omega)
def trimmed__c (I : Alg) (args : List D) (hp : List HO) : Option CT := match args, hp with
  | [.v (.one (.p (.str s)))], [] => (fun (s : Str) => (some (.one ⟨I.hid (s.length ≤ 1000000), (.ret (.v (.one (.p (.str (I.hid (Lib.trimS s [32, 9]))))))), []⟩) : Option CT)) s
  | _, _ => none
theorem trimmed__g : GoodC Tryz.prog 135 (trimmed__c alg) := by
  intro args hp r h
  unfold trimmed__c at h
  split at h
  · cases h; exact fun hn => trimmed_ _ hn
  · cases h
def trimmed__k : Know Tryz.prog := ⟨135, trimmed__c, trimmed__g⟩
def trimmed__l : Know Tryz.prog := ⟨135, fun I => lendC I (trimmed__c I), lendC_good trimmed__g⟩

theorem cLower_ (s : Str) (hneed : s.length ≤ 1000000) : Spc Tryz.prog 59 [.v (.one (.p (.str s)))] [] (.ret (.v (.one (.p (.str (lowS s)))))) [] := by
  refine spcG tab_ok mixed Tryz.func59 (by kernel_rfl) { keep := some [0, 2, 3, 4, 5, 8, 9, 10] } [lower__k, lower__l] (by kernel_rfl) ?_
  intro I X hI hX
  refine ev_rule (.code 0 [1, 1, 0, 1, 0] ⟨[(10, (.v (.one (.p (.int .i64 0))))), (9, (.v (.one (.p (.int .i64 (I.len (α := UInt8) s)))))), (8, (.v (.one (.row 0)))), (3, (.v (.one (.row 0)))), (2, (.v (.one (.p (.str (Array.toList (List.toArray ([] : List UInt8)))))))), (0, (.v (.one (.p (.str s)))))], [(.row .byte 5 s)], 23, none⟩) (by kernel_rfl) ?_
  simp only [instL]
  refine loop_inv hI tab_ok mixed [lower__k, lower__l] hX [0, 3, 8, 9, 10] (fun (g : Nat × Str) => match g with | (i, b) => i ≤ s.length ∧ b = lowS (s.take i) ++ s.drop i) (fun (g : Nat × Str) => match g with | (i, b) => ⟨[(0, .v (.one (.p (.str s)))), (3, .v (.one (.row 0))), (8, .v (.one (.row 0))), (9, .v (.one (.p (.int .i64 ((I.len (α := UInt8) s)))))), (10, .v (.one (.p (.int .i64 i))))], [.row .byte 5 b], 23, none⟩) (fun (g : Nat × Str) => match g with | (i, b) => s.length - i) (0, s) (by kernel_rfl) (by kernel_rfl) ?_ ?_
  · exact ⟨Nat.zero_le _, rfl⟩
  rintro ⟨i, b⟩ ⟨h1, h2⟩ A hA
  simp only at hA
  refine ev_rule (let y0 := I.b2i (I.get (α := UInt8) b 0 (Nat.cast i)); let y1 := I.inb (Nat.cast i) (I.len (α := UInt8) b); .br (I.ilt (Nat.cast i) (I.len (α := UInt8) s)) (.need y1 (.need y1 (.need (I.hid (α := (Prop)) (And (LE.le (0 : Int) y0) (LE.le y0 (255 : Int)))) (.need y1 (.need (I.inr Go.IntKind.u8 (I.hid (α := Int) (lowK y0))) (.need y1 (.need (I.inr Go.IntKind.i64 (I.add (Nat.cast i) 1)) (.need (A ⟨[(0, (.v (.one (.p (.str s))))), (3, (.v (.one (.row 0)))), (8, (.v (.one (.row 0)))), (9, (.v (.one (.p (.int .i64 (I.len (α := UInt8) s)))))), (10, (.v (.one (.p (.int .i64 (I.add (Nat.cast i) 1))))))], [(.row .byte 5 (I.set (α := UInt8) b (Nat.cast i) (I.i2b (I.hid (α := Int) (lowK y0)))))], 23, none⟩) .qed)))))))) (.fin (.ret (.v (.one (.p (.str b))))) [])) (by kernel_rfl) ?_
  simp only [instL]
  subst hI
  simp only [nrmA, decide_eq_true_eq, decide_eq_false_iff_not, beq_iff_eq, beq_eq_false_iff_ne, Bool.not_eq_true', Bool.not_eq_false', Bool.and_eq_true, Bool.and_true, Bool.true_and, and_true, true_and, ne_eq, Int.toNat_zero, Nat.sub_zero, List.drop_zero, i64_min, i64_max, u8_min, u8_max, ofNat_b2i, b2i_inj, Int.toNat_natCast, Int.ofNat_eq_natCast, UInt8.ofNat_toNat, AOut.ret.injEq, D.v.injEq, D.tup.injEq, V0.one.injEq, C.p.injEq, P.bool.injEq, P.int.injEq, P.str.injEq, Bool.false_eq_true, Bool.true_eq_false, imp_false, Decidable.not_not, not_true_eq_false, not_false_eq_true]
  have hlen : b.length = s.length := by rw [h2, List.length_append, lowS_len, List.length_take, List.length_drop]; omega
  have hx : i < s.length → b.getD i 0 = s.getD i 0 := fun h => by
    rw [h2, List.getD_eq_getElem?_getD, List.getD_eq_getElem?_getD, List.getElem?_append_right (by rw [lowS_len, List.length_take]; omega), lowS_len, List.length_take, List.getElem?_drop]
    congr 2
    omega
  have hset : i < s.length → b.set i (lowC (s.getD i 0)) = lowS (s.take (i + 1)) ++ s.drop (i + 1) := fun h => by
    have e : (lowS (s.take i)).length = i := by rw [lowS_len, List.length_take]; omega
    rw [h2, List.set_append_right _ _ (by omega), e, Nat.sub_self, List.drop_eq_getElem_cons h, List.set_cons_zero, List.take_succ_eq_append_getElem h, show s.getD i 0 = s[i] by simp [h]]
    unfold lowS
    rw [List.map_append, List.append_assoc]
    rfl
  have hby := byte_int (s.getD i 0)
  have hlk := lowK_byte hby
  refine ⟨fun c => ?_, fun c => ?_⟩
  · rw [hx (by omega), lowC_of, hset (by omega)]
    exact ⟨by omega, by omega, by omega, by omega, by omega, by omega, by omega, hA (i + 1, _) ⟨by simp only; omega, rfl⟩ (by simp only; omega)⟩
  · rw [h2, List.drop_of_length_le (by omega), List.take_of_length_le (by omega), List.append_nil]
def cLower__c (I : Alg) (args : List D) (hp : List HO) : Option CT := match args, hp with
  | [.v (.one (.p (.str s)))], [] => (fun (s : Str) => (some (.one ⟨I.hid (s.length ≤ 1000000), (.ret (.v (.one (.p (.str (I.hid (lowS s))))))), []⟩) : Option CT)) s
  | _, _ => none
theorem cLower__g : GoodC Tryz.prog 59 (cLower__c alg) := by
  intro args hp r h
  unfold cLower__c at h
  split at h
  · cases h; exact fun hn => cLower_ _ hn
  · cases h
def cLower__k : Know Tryz.prog := ⟨59, cLower__c, cLower__g⟩
def cLower__l : Know Tryz.prog := ⟨59, fun I => lendC I (cLower__c I), lendC_good cLower__g⟩

theorem small_ (s : Str) (hneed : s.length ≤ 1000000) : Spc Tryz.prog 56 [.v (.one (.p (.str s)))] [] (.ret (.v (.one (.p (.str (lowS s)))))) [] := by
  refine spcG tab_ok mixed Tryz.func56 (by kernel_rfl) { keep := some [0, 2, 3, 4, 5, 6] } [] (by kernel_rfl) ?_
  intro I X hI hX
  refine ev_rule (.code 0 [1, 1, 0, 1, 0] ⟨[(4, (.v (.one (.p (.int .i64 0))))), (3, (.v (.one (.p (.str (Array.toList (List.toArray ([] : List UInt8)))))))), (2, (.v (.one (.p (.str (Array.toList (List.toArray ([] : List UInt8)))))))), (0, (.v (.one (.p (.str s)))))], [], 36, none⟩) (by kernel_rfl) ?_
  simp only [instL]
  refine loop_inv hI tab_ok mixed [] hX [0, 3, 4] (fun (g : Nat × Str) => match g with | (i, out) => i ≤ s.length ∧ out = lowS (s.take i)) (fun (g : Nat × Str) => match g with | (i, out) => ⟨[(0, .v (.one (.p (.str s)))), (3, .v (.one (.p (.str out)))), (4, .v (.one (.p (.int .i64 i))))], [], 36, none⟩) (fun (g : Nat × Str) => match g with | (i, out) => s.length - i) (0, []) (by kernel_rfl) (by kernel_rfl) ?_ ?_
  · exact ⟨Nat.zero_le _, rfl⟩
  rintro ⟨i, out⟩ ⟨h1, h2⟩ A hA
  simp only at hA
  refine ev_rule (.br (I.ilt (Nat.cast i) (I.len (α := UInt8) s)) (.need (I.inr Go.IntKind.i64 (I.add (Nat.cast i) 1)) (.need (I.cutb (Int.ofNat i) (I.add (Nat.cast i) 1) (I.len (α := UInt8) s)) (.code 0 [1, 0, 0, 1, 0, 1, 0] ⟨[(6, (.v (.one (.p (.int .i64 0))))), (5, (.v (.one (.p (.str (I.cut (α := UInt8) s (Int.ofNat i) (I.add (Nat.cast i) 1))))))), (0, (.v (.one (.p (.str s))))), (3, (.v (.one (.p (.str out))))), (4, (.v (.one (.p (.int .i64 (Nat.cast i))))))], [], 36, none⟩))) (.fin (.ret (.v (.one (.p (.str out))))) [])) (by kernel_rfl) ?_
  simp only [instL]
  refine ⟨fun c1 => ⟨?_, ?_, ?_⟩, fun c1 => ?_⟩
  · subst hI
    simp only [nrmA, decide_eq_true_eq, decide_eq_false_iff_not, beq_iff_eq, beq_eq_false_iff_ne, Bool.not_eq_true', Bool.not_eq_false', Bool.and_eq_true, Bool.and_true, Bool.true_and, and_true, true_and, ne_eq, Int.toNat_zero, Nat.sub_zero, List.drop_zero, i64_min, i64_max, u8_min, u8_max, ofNat_b2i, b2i_inj, Int.toNat_natCast, Int.ofNat_eq_natCast, UInt8.ofNat_toNat, AOut.ret.injEq, D.v.injEq, D.tup.injEq, V0.one.injEq, C.p.injEq, P.bool.injEq, P.int.injEq, P.str.injEq, Bool.false_eq_true, Bool.true_eq_false, imp_false, Decidable.not_not, not_true_eq_false, not_false_eq_true] at c1
    simp only [nrmA, decide_eq_true_eq, decide_eq_false_iff_not, beq_iff_eq, beq_eq_false_iff_ne, Bool.not_eq_true', Bool.not_eq_false', Bool.and_eq_true, Bool.and_true, Bool.true_and, and_true, true_and, ne_eq, Int.toNat_zero, Nat.sub_zero, List.drop_zero, i64_min, i64_max, u8_min, u8_max, ofNat_b2i, b2i_inj, Int.toNat_natCast, Int.ofNat_eq_natCast, UInt8.ofNat_toNat, AOut.ret.injEq, D.v.injEq, D.tup.injEq, V0.one.injEq, C.p.injEq, P.bool.injEq, P.int.injEq, P.str.injEq, Bool.false_eq_true, Bool.true_eq_false, imp_false, Decidable.not_not, not_true_eq_false, not_false_eq_true]
    omega
  · subst hI
    simp only [nrmA, decide_eq_true_eq, decide_eq_false_iff_not, beq_iff_eq, beq_eq_false_iff_ne, Bool.not_eq_true', Bool.not_eq_false', Bool.and_eq_true, Bool.and_true, Bool.true_and, and_true, true_and, ne_eq, Int.toNat_zero, Nat.sub_zero, List.drop_zero, i64_min, i64_max, u8_min, u8_max, ofNat_b2i, b2i_inj, Int.toNat_natCast, Int.ofNat_eq_natCast, UInt8.ofNat_toNat, AOut.ret.injEq, D.v.injEq, D.tup.injEq, V0.one.injEq, C.p.injEq, P.bool.injEq, P.int.injEq, P.str.injEq, Bool.false_eq_true, Bool.true_eq_false, imp_false, Decidable.not_not, not_true_eq_false, not_false_eq_true] at c1
    simp only [nrmA, decide_eq_true_eq, decide_eq_false_iff_not, beq_iff_eq, beq_eq_false_iff_ne, Bool.not_eq_true', Bool.not_eq_false', Bool.and_eq_true, Bool.and_true, Bool.true_and, and_true, true_and, ne_eq, Int.toNat_zero, Nat.sub_zero, List.drop_zero, i64_min, i64_max, u8_min, u8_max, ofNat_b2i, b2i_inj, Int.toNat_natCast, Int.ofNat_eq_natCast, UInt8.ofNat_toNat, AOut.ret.injEq, D.v.injEq, D.tup.injEq, V0.one.injEq, C.p.injEq, P.bool.injEq, P.int.injEq, P.str.injEq, Bool.false_eq_true, Bool.true_eq_false, imp_false, Decidable.not_not, not_true_eq_false, not_false_eq_true]
    omega
  · have hi : i < s.length := by
      subst hI
      simp only [nrmA, decide_eq_true_eq, decide_eq_false_iff_not, beq_iff_eq, beq_eq_false_iff_ne, Bool.not_eq_true', Bool.not_eq_false', Bool.and_eq_true, Bool.and_true, Bool.true_and, and_true, true_and, ne_eq, Int.toNat_zero, Nat.sub_zero, List.drop_zero, i64_min, i64_max, u8_min, u8_max, ofNat_b2i, b2i_inj, Int.toNat_natCast, Int.ofNat_eq_natCast, UInt8.ofNat_toNat, AOut.ret.injEq, D.v.injEq, D.tup.injEq, V0.one.injEq, C.p.injEq, P.bool.injEq, P.int.injEq, P.str.injEq, Bool.false_eq_true, Bool.true_eq_false, imp_false, Decidable.not_not, not_true_eq_false, not_false_eq_true] at c1
      omega
    generalize hc0 : I.cut (α := UInt8) s (Int.ofNat i) (I.add (↑i) 1) = c0
    have hc1 : c0 = [s.getD i 0] := by
      rw [← hc0, hI, alg_cut, alg_add]
      simp only [Int.ofNat_eq_natCast, Int.toNat_natCast, show ((i : Int) + 1).toNat = i + 1 by omega]
      rw [List.drop_eq_getElem_cons hi, Nat.add_sub_cancel_left, List.take_succ_cons, List.take_zero]
      simp [hi]
    generalize hx : s.getD i 0 = x at *
    have hxb := x.toNat_lt
    have hcap : ∀ k : Nat, k < 26 → ((([65, 66, 67, 68, 69, 70, 71, 72, 73, 74, 75, 76, 77, 78, 79, 80, 81, 82, 83, 84, 85, 86, 87, 88, 89, 90] : Str).getD k 0).toNat = 65 + k ∧ ((([97, 98, 99, 100, 101, 102, 103, 104, 105, 106, 107, 108, 109, 110, 111, 112, 113, 114, 115, 116, 117, 118, 119, 120, 121, 122] : Str).drop k).take 1) = [UInt8.ofNat (97 + k)]) := by decide +kernel
    refine loop_inv hI tab_ok mixed [] hX [0, 3, 4, 5, 6] (fun (g : Nat × Str) => match g with | (k, c) => k ≤ 26 ∧ c = [if 65 ≤ x.toNat ∧ x.toNat < 65 + k then x + 32 else x]) (fun (g : Nat × Str) => match g with | (k, c) => ⟨[(0, .v (.one (.p (.str s)))), (3, .v (.one (.p (.str out)))), (4, .v (.one (.p (.int .i64 i)))), (5, .v (.one (.p (.str c)))), (6, .v (.one (.p (.int .i64 k))))], [], 36, none⟩) (fun (g : Nat × Str) => match g with | (k, c) => 26 - k) (0, c0) (by kernel_rfl) (by kernel_rfl) ?_ ?_
    · refine ⟨Nat.zero_le _, ?_⟩
      rw [hc1, if_neg (by omega)]
    rintro ⟨k, c⟩ ⟨k1, k2⟩ B hB
    simp only at hB
    refine ev_rule (let y0 := I.inr Go.IntKind.i64 (I.add (Nat.cast k) 1); .br (I.ilt (Nat.cast k) 26) (.need (I.inb (Nat.cast k) (I.len (α := UInt8) (Array.toList (List.toArray ([65, 66, 67, 68, 69, 70, 71, 72, 73, 74, 75, 76, 77, 78, 79, 80, 81, 82, 83, 84, 85, 86, 87, 88, 89, 90] : List UInt8))))) (.need (I.inb (Nat.cast i) (I.len (α := UInt8) s)) (.br (I.ieq (I.b2i (I.get (α := UInt8) (Array.toList (List.toArray ([65, 66, 67, 68, 69, 70, 71, 72, 73, 74, 75, 76, 77, 78, 79, 80, 81, 82, 83, 84, 85, 86, 87, 88, 89, 90] : List UInt8))) 0 (Nat.cast k))) (I.b2i (I.get (α := UInt8) s 0 (Nat.cast i)))) (.need y0 (.need (I.cutb (Int.ofNat k) (I.add (Nat.cast k) 1) (I.len (α := UInt8) (Array.toList (List.toArray ([97, 98, 99, 100, 101, 102, 103, 104, 105, 106, 107, 108, 109, 110, 111, 112, 113, 114, 115, 116, 117, 118, 119, 120, 121, 122] : List UInt8))))) (.need y0 (.need (B ⟨[(0, (.v (.one (.p (.str s))))), (3, (.v (.one (.p (.str out))))), (4, (.v (.one (.p (.int .i64 (Nat.cast i)))))), (5, (.v (.one (.p (.str (I.cut (α := UInt8) (Array.toList (List.toArray ([97, 98, 99, 100, 101, 102, 103, 104, 105, 106, 107, 108, 109, 110, 111, 112, 113, 114, 115, 116, 117, 118, 119, 120, 121, 122] : List UInt8))) (Int.ofNat k) (I.add (Nat.cast k) 1))))))), (6, (.v (.one (.p (.int .i64 (I.add (Nat.cast k) 1))))))], [], 36, none⟩) .qed)))) (.need y0 (.need (B ⟨[(0, (.v (.one (.p (.str s))))), (3, (.v (.one (.p (.str out))))), (4, (.v (.one (.p (.int .i64 (Nat.cast i)))))), (5, (.v (.one (.p (.str c))))), (6, (.v (.one (.p (.int .i64 (I.add (Nat.cast k) 1))))))], [], 36, none⟩) .qed))))) (.need (I.few (I.add (I.len (α := UInt8) out) (I.len (α := UInt8) c)) 1000000000) (.need (I.inr Go.IntKind.i64 (I.add (Nat.cast i) 1)) (.need (A ⟨[(0, (.v (.one (.p (.str s))))), (3, (.v (.one (.p (.str (I.app (α := UInt8) out c)))))), (4, (.v (.one (.p (.int .i64 (I.add (Nat.cast i) 1))))))], [], 36, none⟩) .qed)))) (by kernel_rfl) ?_
    simp only [instL]
    subst hI
    simp only [nrmA, decide_eq_true_eq, decide_eq_false_iff_not, beq_iff_eq, beq_eq_false_iff_ne, Bool.not_eq_true', Bool.not_eq_false', Bool.and_eq_true, Bool.and_true, Bool.true_and, and_true, true_and, ne_eq, Int.toNat_zero, Nat.sub_zero, List.drop_zero, i64_min, i64_max, u8_min, u8_max, ofNat_b2i, b2i_inj, Int.toNat_natCast, Int.ofNat_eq_natCast, UInt8.ofNat_toNat, AOut.ret.injEq, D.v.injEq, D.tup.injEq, V0.one.injEq, C.p.injEq, P.bool.injEq, P.int.injEq, P.str.injEq, Bool.false_eq_true, Bool.true_eq_false, imp_false, Decidable.not_not, not_true_eq_false, not_false_eq_true]
    rw [hx]
    generalize hCAP : ([65, 66, 67, 68, 69, 70, 71, 72, 73, 74, 75, 76, 77, 78, 79, 80, 81, 82, 83, 84, 85, 86, 87, 88, 89, 90] : Str) = CAP at *
    generalize hLOW : ([97, 98, 99, 100, 101, 102, 103, 104, 105, 106, 107, 108, 109, 110, 111, 112, 113, 114, 115, 116, 117, 118, 119, 120, 121, 122] : Str) = LOW at *
    have hol : out.length ≤ 1000000 := by rw [h2, lowS_len, List.length_take]; omega
    have hc1l : c.length = 1 := by rw [k2]; rfl
    have hcl : CAP.length = 26 := by rw [← hCAP]; rfl
    have hll : LOW.length = 26 := by rw [← hLOW]; rfl
    have hcond : k < 26 → (CAP.getD k 0 = x ↔ x.toNat = 65 + k) := fun h => by rw [← UInt8.toNat_inj, (hcap k h).1]; omega
    have heq : k < 26 → CAP.getD k 0 = x → (LOW.drop k).take (((k : Int) + 1).toNat - k) = [if 65 ≤ x.toNat ∧ x.toNat < 65 + (k + 1) then x + 32 else x] := fun h e => by
      have e := (hcond h).1 e
      rw [show ((k : Int) + 1).toNat - k = 1 by omega, (hcap k h).2, if_pos (by omega)]
      congr 1
      rw [← UInt8.toNat_inj, UInt8.toNat_ofNat', UInt8.toNat_add, e]
      simp only [show (32 : UInt8).toNat = 32 from rfl]
      omega
    have hne : k < 26 → ¬ CAP.getD k 0 = x → c = [if 65 ≤ x.toNat ∧ x.toNat < 65 + (k + 1) then x + 32 else x] := fun h e => by
      have e : ¬ x.toNat = 65 + k := fun h' => e ((hcond h).2 h')
      rw [k2]
      congr 1
      by_cases h1 : 65 ≤ x.toNat ∧ x.toNat < 65 + k
      · rw [if_pos h1, if_pos (by omega)]
      · rw [if_neg h1, if_neg (by omega)]
    have hend : ¬ k < 26 → out ++ c = lowS (s.take (i + 1)) := fun h => by
      have hk : k = 26 := by omega
      subst hk
      rw [k2, h2, List.take_succ_eq_append_getElem hi]
      unfold lowS
      rw [List.map_append]
      congr 1
      rw [← hx, show s.getD i 0 = s[i] by simp [hi]]
      show _ = [lowC s[i]]
      unfold lowC
      congr 1
      by_cases h1 : 65 ≤ s[i].toNat ∧ s[i].toNat < 65 + 26
      · rw [if_pos h1, if_pos (by omega)]
      · rw [if_neg h1, if_neg (by omega)]
    (repeat' (first | refine And.intro ?_ ?_ | intro _)) <;> first | omega | exact True.intro | exact False.elim ‹False› | skip
    all_goals first
      | omega
      | exact hB (k + 1, _) ⟨by simp only; omega, heq (by omega) ‹_›⟩ (by simp only; omega)
      | exact hB (k + 1, _) ⟨by simp only; omega, hne (by omega) ‹_›⟩ (by simp only; omega)
      | (rw [hend (by omega)]; exact hA (i + 1, _) ⟨by simp only; omega, rfl⟩ (by simp only; omega))
  · subst hI
    simp only [nrmA, decide_eq_true_eq, decide_eq_false_iff_not, beq_iff_eq, beq_eq_false_iff_ne, Bool.not_eq_true', Bool.not_eq_false', Bool.and_eq_true, Bool.and_true, Bool.true_and, and_true, true_and, ne_eq, Int.toNat_zero, Nat.sub_zero, List.drop_zero, i64_min, i64_max, u8_min, u8_max, ofNat_b2i, b2i_inj, Int.toNat_natCast, Int.ofNat_eq_natCast, UInt8.ofNat_toNat, AOut.ret.injEq, D.v.injEq, D.tup.injEq, V0.one.injEq, C.p.injEq, P.bool.injEq, P.int.injEq, P.str.injEq, Bool.false_eq_true, Bool.true_eq_false, imp_false, Decidable.not_not, not_true_eq_false, not_false_eq_true] at c1
    simp only [nrmA, decide_eq_true_eq, decide_eq_false_iff_not, beq_iff_eq, beq_eq_false_iff_ne, Bool.not_eq_true', Bool.not_eq_false', Bool.and_eq_true, Bool.and_true, Bool.true_and, and_true, true_and, ne_eq, Int.toNat_zero, Nat.sub_zero, List.drop_zero, i64_min, i64_max, u8_min, u8_max, ofNat_b2i, b2i_inj, Int.toNat_natCast, Int.ofNat_eq_natCast, UInt8.ofNat_toNat, AOut.ret.injEq, D.v.injEq, D.tup.injEq, V0.one.injEq, C.p.injEq, P.bool.injEq, P.int.injEq, P.str.injEq, Bool.false_eq_true, Bool.true_eq_false, imp_false, Decidable.not_not, not_true_eq_false, not_false_eq_true]
    rw [h2, List.take_of_length_le (by omega)]
def small__c (I : Alg) (args : List D) (hp : List HO) : Option CT := match args, hp with
  | [.v (.one (.p (.str s)))], [] => (fun (s : Str) => (some (.one ⟨I.hid (s.length ≤ 1000000), (.ret (.v (.one (.p (.str (I.hid (lowS s))))))), []⟩) : Option CT)) s
  | _, _ => none
theorem small__g : GoodC Tryz.prog 56 (small__c alg) := by
  intro args hp r h
  unfold small__c at h
  split at h
  · cases h; exact fun hn => small_ _ hn
  · cases h
def small__k : Know Tryz.prog := ⟨56, small__c, small__g⟩
def small__l : Know Tryz.prog := ⟨56, fun I => lendC I (small__c I), lendC_good small__g⟩
end Go.Proofs.YtjapkdcomcgamaaGreatDoor
