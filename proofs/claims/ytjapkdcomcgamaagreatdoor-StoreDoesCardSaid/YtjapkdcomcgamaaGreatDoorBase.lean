/- Contracts of functions that all layers use. -/
import Derived.Test.YtjapkdcomcgamaaGreatDoorTab
set_option linter.all false
namespace Go.Proofs.YtjapkdcomcgamaaGreatDoor
open Go Go.Sep Go.Ab
set_option maxRecDepth 100000
/-- Where a mark stands first. -/
def findAt (m : Str) : Str → Int → Int
  | [], i => if m.isPrefixOf [] then i else -1
  | x :: b, i => if m.isPrefixOf (x :: b) then i else findAt m b (i + 1)
theorem findAt_short (m : Str) : ∀ (b : Str) (i : Int), b.length < m.length → findAt m b i = -1
  | [], i, h => by
    cases m with
    | nil => simp at h
    | cons y m => simp [findAt, List.isPrefixOf]
  | x :: b, i, h => by
    have : ¬ m.isPrefixOf (x :: b) = true := fun hp => by
      have := (List.isPrefixOf_iff_prefix.1 hp).length_le; omega
    rw [findAt, if_neg this]
    exact findAt_short m b _ (by simp at h; omega)
theorem findAt_step (m b : Str) (i : Nat) (h : i < b.length ∨ m = []) : findAt m (b.drop i) i = if m = (b.drop i).take m.length then (i : Int) else findAt m (b.drop (i + 1)) (i + 1 : Nat) := by
  have hp : m.isPrefixOf (b.drop i) = true ↔ m = (b.drop i).take m.length := by rw [List.isPrefixOf_iff_prefix, List.prefix_iff_eq_take]
  rcases h with h | h
  · rw [List.drop_eq_getElem_cons h] at hp ⊢
    rw [findAt]
    by_cases hc : m.isPrefixOf (b[i] :: b.drop (i + 1)) = true
    · rw [if_pos hc, if_pos (hp.1 hc)]
    · rw [if_neg hc, if_neg (fun e => hc (hp.2 e))]; rfl
  · subst h
    have h2 : ([] : Str).isPrefixOf (b.drop i) = true := by cases b.drop i <;> rfl
    rw [if_pos (hp.1 h2)]
    cases hd : b.drop i with
    | nil => simp [findAt]
    | cons y r => simp [findAt]

theorem findFirst_ (b m : Str) (hneed : b.length ≤ 1000000 ∧ m.length ≤ 1000000) : Spc Tryz.prog 63 [.v (.one (.p (.list .byte b))), .v (.one (.p (.str m)))] [] (.ret (.v (.one (.p (.int .i64 (findAt m b 0)))))) [] := by
  refine spcG tab_ok mixed Tryz.func63 (by kernel_rfl) { keep := some [0, 1, 4, 5] } [] (by kernel_rfl) ?_
  intro I X hI hX
  refine ev_rule (.code 0 [1, 0, 1, 0] ⟨[(5, (.v (.one (.p (.int .i64 0))))), (4, (.v (.one (.p (.int .i64 0))))), (0, (.v (.one (.p (.list .byte b))))), (1, (.v (.one (.p (.str m)))))], [], 26, none⟩) (by kernel_rfl) ?_
  simp only [instL]
  refine loop_inv hI tab_ok mixed [] hX [0, 1, 5] (fun (i : Nat) => findAt m b 0 = findAt m (b.drop i) i ∧ i ≤ b.length) (fun (i : Nat) => ⟨[(0, .v (.one (.p (.list .byte b)))), (1, .v (.one (.p (.str m)))), (5, .v (.one (.p (.int .i64 i))))], [], 26, none⟩) (fun (i : Nat) => b.length - i) 0 (by kernel_rfl) (by kernel_rfl) ?_ ?_
  · exact ⟨by simp, Nat.zero_le _⟩
  rintro i ⟨hf, hib⟩ A hA
  refine ev_rule (let y0 := I.add (Nat.cast i) (I.len (α := UInt8) m); .need (I.inr Go.IntKind.i64 y0) (.br (I.ile y0 (I.len (α := UInt8) b)) (.need (I.inr Go.IntKind.i64 y0) (.need (I.cutb (Int.ofNat i) y0 (I.len (α := UInt8) b)) (.br (I.seq (I.cut (α := UInt8) b (Int.ofNat i) y0) m) (.fin (.ret (.v (.one (.p (.int .i64 (Nat.cast i)))))) []) (.need (I.inr Go.IntKind.i64 (I.add (Nat.cast i) 1)) (.need (A ⟨[(0, (.v (.one (.p (.list .byte b))))), (1, (.v (.one (.p (.str m))))), (5, (.v (.one (.p (.int .i64 (I.add (Nat.cast i) 1))))))], [], 26, none⟩) .qed))))) (.fin (.ret (.v (.one (.p (.int .i64 (Neg.neg (1 : Int))))))) []))) (by kernel_rfl) ?_
  simp only [instL]
  subst hI
  simp only [nrmA, decide_eq_true_eq, decide_eq_false_iff_not, beq_iff_eq, beq_eq_false_iff_ne, Bool.not_eq_true', Bool.not_eq_false', Bool.and_eq_true, Bool.and_true, Bool.true_and, and_true, true_and, ne_eq, Int.toNat_zero, Nat.sub_zero, List.drop_zero, i64_min, i64_max, u8_min, u8_max, ofNat_b2i, b2i_inj, Int.toNat_natCast, Int.ofNat_eq_natCast, UInt8.ofNat_toNat, AOut.ret.injEq, D.v.injEq, D.tup.injEq, V0.one.injEq, C.p.injEq, P.bool.injEq, P.int.injEq, P.str.injEq, Bool.false_eq_true, Bool.true_eq_false, imp_false, Decidable.not_not, not_true_eq_false, not_false_eq_true]
  simp only [show ((i : Int) + (m.length : Int)).toNat = i + m.length by omega, Nat.add_sub_cancel_left]
  have hor : i + m.length ≤ b.length → (i < b.length ∨ m = []) := fun h => by
    rcases m with _ | ⟨y, m⟩
    · exact .inr rfl
    · left; simp at h; omega
  (repeat' (first | refine And.intro ?_ ?_ | intro _)) <;> first | omega | exact True.intro | exact False.elim ‹False› | skip
  · rename_i hle heq
    rw [hf, findAt_step m b i (hor (by omega)), if_pos heq.symm]
  · rename_i hle hne
    have hlt : i < b.length := (hor (by omega)).resolve_right (fun e => hne (by subst e; simp))
    refine hA (i + 1) ⟨?_, by omega⟩ (by omega)
    rw [hf, findAt_step m b i (hor (by omega)), if_neg (fun h => hne h.symm)]
  · rename_i hgt
    rw [hf, findAt_short m (b.drop i) i (by simp only [List.length_drop]; omega)]
def findFirst__c (I : Alg) (args : List D) (hp : List HO) : Option CT := match args, hp with
  | [.v (.one (.p (.list .byte b))), .v (.one (.p (.str m)))], [] => (fun (b m : Str) => (some (.one ⟨I.hid (b.length ≤ 1000000 ∧ m.length ≤ 1000000), (.ret (.v (.one (.p (.int .i64 (I.hid (findAt m b 0))))))), []⟩) : Option CT)) b m
  | _, _ => none
theorem findFirst__g : GoodC Tryz.prog 63 (findFirst__c alg) := by
  intro args hp r h
  unfold findFirst__c at h
  split at h
  · cases h; exact fun hn => findFirst_ _ _ hn
  · cases h
def findFirst__k : Know Tryz.prog := ⟨63, findFirst__c, findFirst__g⟩
def findFirst__l : Know Tryz.prog := ⟨63, fun I => lendC I (findFirst__c I), lendC_good findFirst__g⟩
end Go.Proofs.YtjapkdcomcgamaaGreatDoor
namespace Go.Proofs.YtjapkdcomcgamaaGreatDoor
open Go Go.Sep Go.Ab
set_option maxRecDepth 100000

theorem clone_ (l : Str) (hneed : l.length ≤ 100000000) : Spc Tryz.prog 74 [.v (.one (.p (.list .byte l)))] [] (.ret (.v (.one (.row 0)))) [.row .byte 5 l] := by
  refine spcG tab_ok mixed Tryz.func74 (by kernel_rfl) { keep := some [0, 2] } [] (by kernel_rfl) ?_
  intro I X hI hX
  refine ev_rule (let y0 := I.few (I.add (I.len (α := UInt8) ([] : List UInt8)) (I.len (α := UInt8) l)) 140737488355328; .br (I.ieq (I.len (α := UInt8) l) 0) (.both (.fin (.ret (.v (.one (.row 0)))) [(.row .byte 5 ([] : List UInt8))]) (.need y0 (.fin (.ret (.v (.one (.row 0)))) [(.row .byte 5 (I.app (α := UInt8) ([] : List UInt8) l))]))) (.need y0 (.fin (.ret (.v (.one (.row 0)))) [(.row .byte 5 (I.app (α := UInt8) ([] : List UInt8) l))]))) (by kernel_rfl) ?_
  simp only [instL]
  subst hI
  dsimp only [alg]
  have h2 : ((([] : Str).length : Nat) : Int) + ((l.length : Nat) : Int) ≤ 140737488355328 := by simp; omega
  refine ⟨fun h => ⟨⟨trivial, ?_⟩, h2, trivial, rfl⟩, fun h => ⟨h2, trivial, rfl⟩⟩
  have : l = [] := List.eq_nil_of_length_eq_zero (by have := eq_of_beq h; omega)
  subst this; rfl
def clone__c (I : Alg) (args : List D) (hp : List HO) : Option CT := match args, hp with
  | [.v (.one (.p (.list .byte l)))], [] => (fun (l : Str) => (some (.one ⟨I.hid (l.length ≤ 100000000), (.ret (.v (.one (.row 0)))), [.row .byte 5 l]⟩) : Option CT)) l
  | _, _ => none
theorem clone__g : GoodC Tryz.prog 74 (clone__c alg) := by
  intro args hp r h
  unfold clone__c at h
  split at h
  · cases h; exact fun hn => clone_ _ hn
  · cases h
def clone__k : Know Tryz.prog := ⟨74, clone__c, clone__g⟩
def clone__l : Know Tryz.prog := ⟨74, fun I => lendC I (clone__c I), lendC_good clone__g⟩

theorem sameBytes_ (x y : Str) : Spc Tryz.prog 13 [.v (.one (.p (.list .byte x))), .v (.one (.p (.list .byte y)))] [] (.ret (.v (.one (.p (.bool (x == y)))))) [] := by
  refine spcG tab_ok mixed Tryz.func13 (by kernel_rfl) { keep := some [0, 1, 4] } [] (by kernel_rfl) ?_
  intro I X hI hX
  refine ev_rule (.fin (.ret (.v (.one (.p (.bool (I.seq x y)))))) []) (by kernel_rfl) ?_
  simp only [instL]
  subst hI
  exact ⟨rfl, trivial⟩
def sameBytes__c (I : Alg) (args : List D) (hp : List HO) : Option CT := match args, hp with
  | [.v (.one (.p (.list .byte x))), .v (.one (.p (.list .byte y)))], [] => (fun (x y : Str) => (some (.one ⟨I.hid (True), (.ret (.v (.one (.p (.bool (I.hid (x == y))))))), []⟩) : Option CT)) x y
  | _, _ => none
theorem sameBytes__g : GoodC Tryz.prog 13 (sameBytes__c alg) := by
  intro args hp r h
  unfold sameBytes__c at h
  split at h
  · cases h; exact fun hn => sameBytes_ _ _
  · cases h
def sameBytes__k : Know Tryz.prog := ⟨13, sameBytes__c, sameBytes__g⟩
def sameBytes__l : Know Tryz.prog := ⟨13, fun I => lendC I (sameBytes__c I), lendC_good sameBytes__g⟩
end Go.Proofs.YtjapkdcomcgamaaGreatDoor
