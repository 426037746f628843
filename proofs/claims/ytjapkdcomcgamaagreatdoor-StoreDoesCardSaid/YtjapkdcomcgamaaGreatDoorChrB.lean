/- Bytes and texts: the walks of package chars, texts. -/
import Derived.Test.YtjapkdcomcgamaaGreatDoorChrA
set_option linter.all false
namespace Go.Proofs.YtjapkdcomcgamaaGreatDoor
open Go Go.Sep Go.Ab
set_option maxRecDepth 100000

def tokA (s : Str) : Bool := s.all fun c => tokB (c.toNat : Int)
def seenA (s : Str) : Bool := s.all fun c => seenB (c.toNat : Int)
theorem byte_int (c : UInt8) : 0 ≤ (c.toNat : Int) ∧ (c.toNat : Int) ≤ 255 := by have := c.toNat_lt; omega
theorem all_drop {p : UInt8 → Bool} {s : Str} {i : Nat} (h : i < s.length) : (s.drop i).all p = (p (s.getD i 0) && (s.drop (i + 1)).all p) := by
  rw [List.drop_eq_getElem_cons h, List.all_cons]; simp [h]

theorem allTok_ (s : Str) (hneed : s.length ≤ 1000000) : Spc Tryz.prog 80 [.v (.one (.p (.str s))), .v (.one (.fn 90 []))] [] (.ret (.v (.one (.p (.bool (tokA s)))))) [] := by
  generalize hr : tokA s = r
  refine spcG tab_ok mixed Tryz.func80 (by kernel_rfl) { keep := some [0, 1, 4, 5, 7, 8] } [token__k] (by kernel_rfl) ?_
  intro I X hI hX
  refine ev_rule (.code 0 [1, 0, 1, 0] ⟨[(8, (.v (.one (.p (.int .i64 0))))), (7, (.v (.one (.p (.int .i64 (I.len (α := UInt8) s)))))), (4, (.v (.one (.p (.val (.bool .false)))))), (0, (.v (.one (.p (.str s))))), (1, (.v (.one (.fn 90 []))))], [], 18, none⟩) (by kernel_rfl) ?_
  simp only [instL]
  refine loop_inv hI tab_ok mixed [token__k] hX [0, 1, 7, 8] (fun (i : Nat) => i ≤ s.length ∧ tokA (s.drop i) = r) (fun (i : Nat) => ⟨[(0, .v (.one (.p (.str s)))), (1, .v (.one (.fn 90 []))), (7, .v (.one (.p (.int .i64 ((I.len (α := UInt8) s)))))), (8, .v (.one (.p (.int .i64 i))))], [], 18, none⟩) (fun (i : Nat) => s.length - i) 0 (by kernel_rfl) (by kernel_rfl) ?_ ?_
  · exact ⟨Nat.zero_le _, hr⟩
  rintro i ⟨h1, h2⟩ A hA
  refine ev_rule (let y0 := I.b2i (I.get (α := UInt8) s 0 (Nat.cast i)); .br (I.ilt (Nat.cast i) (I.len (α := UInt8) s)) (.need (I.inb (Nat.cast i) (I.len (α := UInt8) s)) (.need (I.hid (α := (Prop)) (And (LE.le (0 : Int) y0) (LE.le y0 (255 : Int)))) (.br (I.bnot (I.hid (α := Bool) (tokB y0))) (.fin (.ret (.v (.one (.p (.bool Bool.false))))) []) (.need (I.inr Go.IntKind.i64 (I.add (Nat.cast i) 1)) (.need (A ⟨[(0, (.v (.one (.p (.str s))))), (1, (.v (.one (.fn 90 [])))), (7, (.v (.one (.p (.int .i64 (I.len (α := UInt8) s)))))), (8, (.v (.one (.p (.int .i64 (I.add (Nat.cast i) 1))))))], [], 18, none⟩) .qed))))) (.fin (.ret (.v (.one (.p (.bool Bool.true))))) [])) (by kernel_rfl) ?_
  simp only [instL]
  subst hI
  simp only [nrmA, decide_eq_true_eq, decide_eq_false_iff_not, beq_iff_eq, beq_eq_false_iff_ne, Bool.not_eq_true', Bool.not_eq_false', Bool.and_eq_true, Bool.and_true, Bool.true_and, and_true, true_and, ne_eq, Int.toNat_zero, Nat.sub_zero, List.drop_zero, i64_min, i64_max, u8_min, u8_max, ofNat_b2i, b2i_inj, Int.toNat_natCast, Int.ofNat_eq_natCast, UInt8.ofNat_toNat, AOut.ret.injEq, D.v.injEq, D.tup.injEq, V0.one.injEq, C.p.injEq, P.bool.injEq, P.int.injEq, P.str.injEq, Bool.false_eq_true, Bool.true_eq_false, imp_false, Decidable.not_not, not_true_eq_false, not_false_eq_true]
  have hb := byte_int (s.getD i 0)
  have hd : i < s.length → tokA (s.drop i) = (tokB (s.getD i 0).toNat && tokA (s.drop (i + 1))) := fun h => all_drop h
  generalize s.getD i 0 = x at *
  (repeat' (first | refine And.intro ?_ ?_ | intro _)) <;> first | omega | exact True.intro | exact False.elim ‹False› | skip
  all_goals first
    | (rw [← h2, hd (by omega)]; simp [*]; done)
    | (refine hA (i + 1) ⟨by omega, ?_⟩ (by omega); rw [← h2, hd (by omega)]; simp [*]; done)
    | (rw [← h2, List.drop_of_length_le (by omega)]; rfl)
def allTok__c (I : Alg) (args : List D) (hp : List HO) : Option CT := match args, hp with
  | [.v (.one (.p (.str s))), .v (.one (.fn 90 []))], [] => (fun (s : Str) => (some (.one ⟨I.hid (s.length ≤ 1000000), (.ret (.v (.one (.p (.bool (I.hid (tokA s))))))), []⟩) : Option CT)) s
  | _, _ => none
theorem allTok__g : GoodC Tryz.prog 80 (allTok__c alg) := by
  intro args hp r h
  unfold allTok__c at h
  split at h
  · cases h; exact fun hn => allTok_ _ hn
  · cases h
def allTok__k : Know Tryz.prog := ⟨80, allTok__c, allTok__g⟩
def allTok__l : Know Tryz.prog := ⟨80, fun I => lendC I (allTok__c I), lendC_good allTok__g⟩

theorem allSeen_ (s : Str) (hneed : s.length ≤ 1000000) : Spc Tryz.prog 80 [.v (.one (.p (.str s))), .v (.one (.fn 81 []))] [] (.ret (.v (.one (.p (.bool (seenA s)))))) [] := by
  generalize hr : seenA s = r
  refine spcG tab_ok mixed Tryz.func80 (by kernel_rfl) { keep := some [0, 1, 4, 5, 7, 8] } [visible__k, allTok__k, allTok__l] (by kernel_rfl) ?_
  intro I X hI hX
  refine ev_rule (.code 0 [1, 0, 1, 0] ⟨[(8, (.v (.one (.p (.int .i64 0))))), (7, (.v (.one (.p (.int .i64 (I.len (α := UInt8) s)))))), (4, (.v (.one (.p (.val (.bool .false)))))), (0, (.v (.one (.p (.str s))))), (1, (.v (.one (.fn 81 []))))], [], 18, none⟩) (by kernel_rfl) ?_
  simp only [instL]
  refine loop_inv hI tab_ok mixed [visible__k, allTok__k, allTok__l] hX [0, 1, 7, 8] (fun (i : Nat) => i ≤ s.length ∧ seenA (s.drop i) = r) (fun (i : Nat) => ⟨[(0, .v (.one (.p (.str s)))), (1, .v (.one (.fn 81 []))), (7, .v (.one (.p (.int .i64 ((I.len (α := UInt8) s)))))), (8, .v (.one (.p (.int .i64 i))))], [], 18, none⟩) (fun (i : Nat) => s.length - i) 0 (by kernel_rfl) (by kernel_rfl) ?_ ?_
  · exact ⟨Nat.zero_le _, hr⟩
  rintro i ⟨h1, h2⟩ A hA
  refine ev_rule (.br (I.ilt (Nat.cast i) (I.len (α := UInt8) s)) (.need (I.inb (Nat.cast i) (I.len (α := UInt8) s)) (.need (I.hid (α := (Prop)) True) (.br (I.bnot (I.hid (α := Bool) (seenB (I.b2i (I.get (α := UInt8) s 0 (Nat.cast i)))))) (.fin (.ret (.v (.one (.p (.bool Bool.false))))) []) (.need (I.inr Go.IntKind.i64 (I.add (Nat.cast i) 1)) (.need (A ⟨[(0, (.v (.one (.p (.str s))))), (1, (.v (.one (.fn 81 [])))), (7, (.v (.one (.p (.int .i64 (I.len (α := UInt8) s)))))), (8, (.v (.one (.p (.int .i64 (I.add (Nat.cast i) 1))))))], [], 18, none⟩) .qed))))) (.fin (.ret (.v (.one (.p (.bool Bool.true))))) [])) (by kernel_rfl) ?_
  simp only [instL]
  subst hI
  simp only [nrmA, decide_eq_true_eq, decide_eq_false_iff_not, beq_iff_eq, beq_eq_false_iff_ne, Bool.not_eq_true', Bool.not_eq_false', Bool.and_eq_true, Bool.and_true, Bool.true_and, and_true, true_and, ne_eq, Int.toNat_zero, Nat.sub_zero, List.drop_zero, i64_min, i64_max, u8_min, u8_max, ofNat_b2i, b2i_inj, Int.toNat_natCast, Int.ofNat_eq_natCast, UInt8.ofNat_toNat, AOut.ret.injEq, D.v.injEq, D.tup.injEq, V0.one.injEq, C.p.injEq, P.bool.injEq, P.int.injEq, P.str.injEq, Bool.false_eq_true, Bool.true_eq_false, imp_false, Decidable.not_not, not_true_eq_false, not_false_eq_true]
  have hb := byte_int (s.getD i 0)
  have hd : i < s.length → seenA (s.drop i) = (seenB (s.getD i 0).toNat && seenA (s.drop (i + 1))) := fun h => all_drop h
  generalize s.getD i 0 = x at *
  (repeat' (first | refine And.intro ?_ ?_ | intro _)) <;> first | omega | exact True.intro | exact False.elim ‹False› | skip
  all_goals first
    | (rw [← h2, hd (by omega)]; simp [*]; done)
    | (refine hA (i + 1) ⟨by omega, ?_⟩ (by omega); rw [← h2, hd (by omega)]; simp [*]; done)
    | (rw [← h2, List.drop_of_length_le (by omega)]; rfl)
def allSeen__c (I : Alg) (args : List D) (hp : List HO) : Option CT := match args, hp with
  | [.v (.one (.p (.str s))), .v (.one (.fn 81 []))], [] => (fun (s : Str) => (some (.one ⟨I.hid (s.length ≤ 1000000), (.ret (.v (.one (.p (.bool (I.hid (seenA s))))))), []⟩) : Option CT)) s
  | _, _ => none
theorem allSeen__g : GoodC Tryz.prog 80 (allSeen__c alg) := by
  intro args hp r h
  unfold allSeen__c at h
  split at h
  · cases h; exact fun hn => allSeen_ _ hn
  · cases h
def allSeen__k : Know Tryz.prog := ⟨80, allSeen__c, allSeen__g⟩
def allSeen__l : Know Tryz.prog := ⟨80, fun I => lendC I (allSeen__c I), lendC_good allSeen__g⟩

def tokenA (s : Str) : Bool := decide (s ≠ []) && tokA s
theorem isToken_ (s : Str) (hneed : s.length ≤ 1000000) : Spc Tryz.prog 58 [.v (.one (.p (.str s)))] [] (.ret (.v (.one (.p (.bool (tokenA s)))))) [] := by
  refine spcG tab_ok mixed Tryz.func58 (by kernel_rfl) { keep := some [0, 2] } [token__k, token__l, allTok__k, allTok__l, allSeen__k, allSeen__l] (by kernel_rfl) ?_
  intro I X hI hX
  refine ev_rule (.br (I.bnot (I.seq s (Array.toList (List.toArray ([] : List UInt8))))) (.need (I.hid (α := (Prop)) (LE.le (List.length s) 1000000)) (.fin (.ret (.v (.one (.p (.bool (I.hid (α := Bool) (tokA s))))))) [])) (.fin (.ret (.v (.one (.p (.bool Bool.false))))) [])) (by kernel_rfl) ?_
  simp only [instL]
  subst hI
  simp only [nrmA, decide_eq_true_eq, decide_eq_false_iff_not, beq_iff_eq, beq_eq_false_iff_ne, Bool.not_eq_true', Bool.not_eq_false', Bool.and_eq_true, Bool.and_true, Bool.true_and, and_true, true_and, ne_eq, Int.toNat_zero, Nat.sub_zero, List.drop_zero, i64_min, i64_max, u8_min, u8_max, ofNat_b2i, b2i_inj, Int.toNat_natCast, Int.ofNat_eq_natCast, UInt8.ofNat_toNat, AOut.ret.injEq, D.v.injEq, D.tup.injEq, V0.one.injEq, C.p.injEq, P.bool.injEq, P.int.injEq, P.str.injEq, Bool.false_eq_true, Bool.true_eq_false, imp_false, Decidable.not_not, not_true_eq_false, not_false_eq_true]
  unfold tokenA
  (repeat' (first | refine And.intro ?_ ?_ | intro _)) <;> first | omega | exact True.intro | exact False.elim ‹False› | skip
  all_goals simp [*]
def isToken__c (I : Alg) (args : List D) (hp : List HO) : Option CT := match args, hp with
  | [.v (.one (.p (.str s)))], [] => (fun (s : Str) => (some (.one ⟨I.hid (s.length ≤ 1000000), (.ret (.v (.one (.p (.bool (I.hid (tokenA s))))))), []⟩) : Option CT)) s
  | _, _ => none
theorem isToken__g : GoodC Tryz.prog 58 (isToken__c alg) := by
  intro args hp r h
  unfold isToken__c at h
  split at h
  · cases h; exact fun hn => isToken_ _ hn
  · cases h
def isToken__k : Know Tryz.prog := ⟨58, isToken__c, isToken__g⟩
def isToken__l : Know Tryz.prog := ⟨58, fun I => lendC I (isToken__c I), lendC_good isToken__g⟩

theorem isVisible_ (s : Str) (hneed : s.length ≤ 1000000) : Spc Tryz.prog 50 [.v (.one (.p (.str s)))] [] (.ret (.v (.one (.p (.bool (seenA s)))))) [] := by
  refine spcG tab_ok mixed Tryz.func50 (by kernel_rfl) { keep := some [0, 2] } [visible__k, visible__l, allTok__k, allTok__l, allSeen__k, allSeen__l] (by kernel_rfl) ?_
  intro I X hI hX
  refine ev_rule (.need (I.hid (α := (Prop)) (LE.le (List.length s) 1000000)) (.fin (.ret (.v (.one (.p (.bool (I.hid (α := Bool) (seenA s))))))) [])) (by kernel_rfl) ?_
  simp only [instL]
  subst hI
  simp only [nrmA, decide_eq_true_eq, decide_eq_false_iff_not, beq_iff_eq, beq_eq_false_iff_ne, Bool.not_eq_true', Bool.not_eq_false', Bool.and_eq_true, Bool.and_true, Bool.true_and, and_true, true_and, ne_eq, Int.toNat_zero, Nat.sub_zero, List.drop_zero, i64_min, i64_max, u8_min, u8_max, ofNat_b2i, b2i_inj, Int.toNat_natCast, Int.ofNat_eq_natCast, UInt8.ofNat_toNat, AOut.ret.injEq, D.v.injEq, D.tup.injEq, V0.one.injEq, C.p.injEq, P.bool.injEq, P.int.injEq, P.str.injEq, Bool.false_eq_true, Bool.true_eq_false, imp_false, Decidable.not_not, not_true_eq_false, not_false_eq_true]
  exact hneed
def isVisible__c (I : Alg) (args : List D) (hp : List HO) : Option CT := match args, hp with
  | [.v (.one (.p (.str s)))], [] => (fun (s : Str) => (some (.one ⟨I.hid (s.length ≤ 1000000), (.ret (.v (.one (.p (.bool (I.hid (seenA s))))))), []⟩) : Option CT)) s
  | _, _ => none
theorem isVisible__g : GoodC Tryz.prog 50 (isVisible__c alg) := by
  intro args hp r h
  unfold isVisible__c at h
  split at h
  · cases h; exact fun hn => isVisible_ _ hn
  · cases h
def isVisible__k : Know Tryz.prog := ⟨50, isVisible__c, isVisible__g⟩
def isVisible__l : Know Tryz.prog := ⟨50, fun I => lendC I (isVisible__c I), lendC_good isVisible__g⟩

theorem one_ (k : Int) (s : Str) (hneed : s.length ≤ 1000000 ∧ 0 ≤ k ∧ k ≤ 255) : Spc Tryz.prog 118 [.v (.one (.p (.int .u8 k))), .v (.one (.p (.str s)))] [] (.ret (.v (.one (.p (.bool (s.contains (UInt8.ofNat k.toNat))))))) [] := by
  generalize hr : s.contains (UInt8.ofNat k.toNat) = r
  refine spcG tab_ok mixed Tryz.func118 (by kernel_rfl) { keep := some [0, 1, 4, 5] } [] (by kernel_rfl) ?_
  intro I X hI hX
  refine ev_rule (.code 0 [1, 0, 1, 0] ⟨[(5, (.v (.one (.p (.int .i64 0))))), (4, (.v (.one (.p (.val (.bool .false)))))), (0, (.v (.one (.p (.int .u8 k))))), (1, (.v (.one (.p (.str s)))))], [], 17, none⟩) (by kernel_rfl) ?_
  simp only [instL]
  refine loop_inv hI tab_ok mixed [] hX [0, 1, 5] (fun (i : Nat) => i ≤ s.length ∧ (s.drop i).contains (UInt8.ofNat k.toNat) = r) (fun (i : Nat) => ⟨[(0, .v (.one (.p (.int .u8 k)))), (1, .v (.one (.p (.str s)))), (5, .v (.one (.p (.int .i64 i))))], [], 17, none⟩) (fun (i : Nat) => s.length - i) 0 (by kernel_rfl) (by kernel_rfl) ?_ ?_
  · exact ⟨Nat.zero_le _, hr⟩
  rintro i ⟨h1, h2⟩ A hA
  refine ev_rule (.br (I.ilt (Nat.cast i) (I.len (α := UInt8) s)) (.need (I.inb (Nat.cast i) (I.len (α := UInt8) s)) (.br (I.ieq (I.b2i (I.get (α := UInt8) s 0 (Nat.cast i))) k) (.fin (.ret (.v (.one (.p (.bool Bool.true))))) []) (.need (I.inr Go.IntKind.i64 (I.add (Nat.cast i) 1)) (.need (A ⟨[(0, (.v (.one (.p (.int .u8 k))))), (1, (.v (.one (.p (.str s))))), (5, (.v (.one (.p (.int .i64 (I.add (Nat.cast i) 1))))))], [], 17, none⟩) .qed)))) (.fin (.ret (.v (.one (.p (.bool Bool.false))))) [])) (by kernel_rfl) ?_
  simp only [instL]
  subst hI
  simp only [nrmA, decide_eq_true_eq, decide_eq_false_iff_not, beq_iff_eq, beq_eq_false_iff_ne, Bool.not_eq_true', Bool.not_eq_false', Bool.and_eq_true, Bool.and_true, Bool.true_and, and_true, true_and, ne_eq, Int.toNat_zero, Nat.sub_zero, List.drop_zero, i64_min, i64_max, u8_min, u8_max, ofNat_b2i, b2i_inj, Int.toNat_natCast, Int.ofNat_eq_natCast, UInt8.ofNat_toNat, AOut.ret.injEq, D.v.injEq, D.tup.injEq, V0.one.injEq, C.p.injEq, P.bool.injEq, P.int.injEq, P.str.injEq, Bool.false_eq_true, Bool.true_eq_false, imp_false, Decidable.not_not, not_true_eq_false, not_false_eq_true]
  have hd : i < s.length → (s.drop i).contains (UInt8.ofNat k.toNat) = ((UInt8.ofNat k.toNat == s.getD i 0) || (s.drop (i + 1)).contains (UInt8.ofNat k.toNat)) := fun h => by
    rw [List.drop_eq_getElem_cons h, List.contains_cons]; simp [h]
  have hc : ((s.getD i 0).toNat : Int) = k ↔ UInt8.ofNat k.toNat = s.getD i 0 := by
    rw [← UInt8.toNat_inj, UInt8.toNat_ofNat']
    omega
  rw [hc]
  generalize s.getD i 0 = x at *
  (repeat' (first | refine And.intro ?_ ?_ | intro _)) <;> first | omega | exact True.intro | exact False.elim ‹False› | skip
  all_goals first
    | (rw [← h2, hd (by omega)]; simp [*]; done)
    | (refine hA (i + 1) ⟨by omega, ?_⟩ (by omega); rw [← h2, hd (by omega)]; simp [*]; done)
    | (rw [← h2, List.drop_of_length_le (by omega)]; rfl)
def one__c (I : Alg) (args : List D) (hp : List HO) : Option CT := match args, hp with
  | [.v (.one (.p (.int .u8 k))), .v (.one (.p (.str s)))], [] => (fun (k : Int) (s : Str) => (some (.one ⟨I.hid (s.length ≤ 1000000 ∧ 0 ≤ k ∧ k ≤ 255), (.ret (.v (.one (.p (.bool (I.hid (s.contains (UInt8.ofNat k.toNat)))))))), []⟩) : Option CT)) k s
  | _, _ => none
theorem one__g : GoodC Tryz.prog 118 (one__c alg) := by
  intro args hp r h
  unfold one__c at h
  split at h
  · cases h; exact fun hn => one_ _ _ hn
  · cases h
def one__k : Know Tryz.prog := ⟨118, one__c, one__g⟩
def one__l : Know Tryz.prog := ⟨118, fun I => lendC I (one__c I), lendC_good one__g⟩

def tokR : Str := [48, 49, 50, 51, 52, 53, 54, 55, 56, 57, 65, 66, 67, 68, 69, 70, 71, 72, 73, 74, 75, 76, 77, 78, 79, 80, 81, 82, 83, 84, 85, 86, 87, 88, 89, 90, 97, 98, 99, 100, 101, 102, 103, 104, 105, 106, 107, 108, 109, 110, 111, 112, 113, 114, 115, 116, 117, 118, 119, 120, 121, 122, 33, 35, 36, 37, 38, 39, 42, 43, 45, 46, 94, 95, 96, 124, 126]
theorem by256 {p : Int → Prop} [∀ k, Decidable (p k)] (h : ∀ n : Fin 256, p (n.1 : Int)) {k : Int} (hk : 0 ≤ k ∧ k ≤ 255) : p k := by
  have := h ⟨k.toNat, by omega⟩
  rwa [show ((k.toNat : Nat) : Int) = k by omega] at this
theorem tokR_all {k : Int} (hk : 0 ≤ k ∧ k ≤ 255) : tokR.contains (UInt8.ofNat k.toNat) = tokB k :=
  by256 (p := fun k => tokR.contains (UInt8.ofNat k.toNat) = tokB k) (by decide +kernel) hk

theorem isTokenByte_ (k : Int) (hneed : 0 ≤ k ∧ k ≤ 255) : Spc Tryz.prog 88 [.v (.one (.p (.int .u8 k)))] [] (.ret (.v (.one (.p (.bool (tokB k)))))) [] := by
  rw [← tokR_all hneed]
  refine spcG tab_ok mixed Tryz.func88 (by kernel_rfl) { keep := some [0, 2] } [one__k, one__l] (by kernel_rfl) ?_
  intro I X hI hX
  refine ev_rule (.need (I.hid (α := (Prop)) (And (LE.le (List.length (Array.toList (List.toArray (List.append ([48, 49, 50, 51, 52, 53, 54, 55, 56, 57, 65, 66, 67, 68, 69, 70, 71, 72, 73, 74, 75, 76, 77, 78, 79, 80, 81, 82, 83, 84, 85, 86, 87, 88, 89, 90, 97, 98] : List UInt8) ([99, 100, 101, 102, 103, 104, 105, 106, 107, 108, 109, 110, 111, 112, 113, 114, 115, 116, 117, 118, 119, 120, 121, 122, 33, 35, 36, 37, 38, 39, 42, 43, 45, 46, 94, 95, 96, 124, 126] : List UInt8))))) 1000000) (And (LE.le (0 : Int) k) (LE.le k (255 : Int))))) (.fin (.ret (.v (.one (.p (.bool (I.hid (α := Bool) (List.contains (Array.toList (List.toArray (List.append ([48, 49, 50, 51, 52, 53, 54, 55, 56, 57, 65, 66, 67, 68, 69, 70, 71, 72, 73, 74, 75, 76, 77, 78, 79, 80, 81, 82, 83, 84, 85, 86, 87, 88, 89, 90, 97, 98] : List UInt8) ([99, 100, 101, 102, 103, 104, 105, 106, 107, 108, 109, 110, 111, 112, 113, 114, 115, 116, 117, 118, 119, 120, 121, 122, 33, 35, 36, 37, 38, 39, 42, 43, 45, 46, 94, 95, 96, 124, 126] : List UInt8)))) (UInt8.ofNat (Int.toNat k))))))))) [])) (by kernel_rfl) ?_
  simp only [instL]
  subst hI
  simp only [nrmA, decide_eq_true_eq, decide_eq_false_iff_not, beq_iff_eq, beq_eq_false_iff_ne, Bool.not_eq_true', Bool.not_eq_false', Bool.and_eq_true, Bool.and_true, Bool.true_and, and_true, true_and, ne_eq, Int.toNat_zero, Nat.sub_zero, List.drop_zero, i64_min, i64_max, u8_min, u8_max, ofNat_b2i, b2i_inj, Int.toNat_natCast, Int.ofNat_eq_natCast, UInt8.ofNat_toNat, AOut.ret.injEq, D.v.injEq, D.tup.injEq, V0.one.injEq, C.p.injEq, P.bool.injEq, P.int.injEq, P.str.injEq, Bool.false_eq_true, Bool.true_eq_false, imp_false, Decidable.not_not, not_true_eq_false, not_false_eq_true]
  trivial
def isTokenByte__c (I : Alg) (args : List D) (hp : List HO) : Option CT := match args, hp with
  | [.v (.one (.p (.int .u8 k)))], [] => (fun (k : Int) => (some (.one ⟨I.hid (0 ≤ k ∧ k ≤ 255), (.ret (.v (.one (.p (.bool (I.hid (tokB k))))))), []⟩) : Option CT)) k
  | _, _ => none
theorem isTokenByte__g : GoodC Tryz.prog 88 (isTokenByte__c alg) := by
  intro args hp r h
  unfold isTokenByte__c at h
  split at h
  · cases h; exact fun hn => isTokenByte_ _ hn
  · cases h
def isTokenByte__k : Know Tryz.prog := ⟨88, isTokenByte__c, isTokenByte__g⟩
def isTokenByte__l : Know Tryz.prog := ⟨88, fun I => lendC I (isTokenByte__c I), lendC_good isTokenByte__g⟩

theorem tokenText_ (s : Str) (hneed : s.length ≤ 1000000) : Spc Tryz.prog 64 [.v (.one (.p (.str s)))] [] (.ret (.v (.one (.p (.bool (tokenA s)))))) [] := by
  generalize hr : tokA s = r
  refine spcG tab_ok mixed Tryz.func64 (by kernel_rfl) { keep := some [0, 2, 3] } [isTokenByte__k, isTokenByte__l] (by kernel_rfl) ?_
  intro I X hI hX
  refine ev_rule (.code 0 [1, 0, 1, 0] ⟨[(3, (.v (.one (.p (.int .i64 0))))), (2, (.v (.one (.p (.val (.bool .false)))))), (0, (.v (.one (.p (.str s)))))], [], 18, none⟩) (by kernel_rfl) ?_
  simp only [instL]
  refine loop_inv hI tab_ok mixed [isTokenByte__k, isTokenByte__l] hX [0, 3] (fun (i : Nat) => i ≤ s.length ∧ tokA (s.drop i) = r) (fun (i : Nat) => ⟨[(0, .v (.one (.p (.str s)))), (3, .v (.one (.p (.int .i64 i))))], [], 18, none⟩) (fun (i : Nat) => s.length - i) 0 (by kernel_rfl) (by kernel_rfl) ?_ ?_
  · exact ⟨Nat.zero_le _, hr⟩
  rintro i ⟨h1, h2⟩ A hA
  refine ev_rule (let y0 := I.b2i (I.get (α := UInt8) s 0 (Nat.cast i)); .br (I.ilt (Nat.cast i) (I.len (α := UInt8) s)) (.need (I.inb (Nat.cast i) (I.len (α := UInt8) s)) (.need (I.hid (α := (Prop)) (And (LE.le (0 : Int) y0) (LE.le y0 (255 : Int)))) (.br (I.bnot (I.hid (α := Bool) (tokB y0))) (.fin (.ret (.v (.one (.p (.bool Bool.false))))) []) (.need (I.inr Go.IntKind.i64 (I.add (Nat.cast i) 1)) (.need (A ⟨[(0, (.v (.one (.p (.str s))))), (3, (.v (.one (.p (.int .i64 (I.add (Nat.cast i) 1))))))], [], 18, none⟩) .qed))))) (.fin (.ret (.v (.one (.p (.bool (I.ilt 0 (I.len (α := UInt8) s))))))) [])) (by kernel_rfl) ?_
  simp only [instL]
  subst hI
  simp only [nrmA, decide_eq_true_eq, decide_eq_false_iff_not, beq_iff_eq, beq_eq_false_iff_ne, Bool.not_eq_true', Bool.not_eq_false', Bool.and_eq_true, Bool.and_true, Bool.true_and, and_true, true_and, ne_eq, Int.toNat_zero, Nat.sub_zero, List.drop_zero, i64_min, i64_max, u8_min, u8_max, ofNat_b2i, b2i_inj, Int.toNat_natCast, Int.ofNat_eq_natCast, UInt8.ofNat_toNat, AOut.ret.injEq, D.v.injEq, D.tup.injEq, V0.one.injEq, C.p.injEq, P.bool.injEq, P.int.injEq, P.str.injEq, Bool.false_eq_true, Bool.true_eq_false, imp_false, Decidable.not_not, not_true_eq_false, not_false_eq_true]
  have hb := byte_int (s.getD i 0)
  have hd : i < s.length → tokA (s.drop i) = (tokB (s.getD i 0).toNat && tokA (s.drop (i + 1))) := fun h => all_drop h
  generalize s.getD i 0 = x at *
  (repeat' (first | refine And.intro ?_ ?_ | intro _)) <;> first | omega | exact True.intro | exact False.elim ‹False› | skip
  all_goals first
    | (refine hA (i + 1) ⟨by omega, ?_⟩ (by omega); rw [← h2, hd (by omega)]; simp [*]; done)
    | (have h3 : tokA s = false := by (rw [hr, ← h2, hd (by omega)]; simp [*]; done)
       simp [tokenA, h3]; done)
    | (have h3 : tokA s = true := by (rw [hr, ← h2, List.drop_of_length_le (by omega)]; rfl)
       unfold tokenA
       rw [h3, Bool.and_true]
       exact decide_eq_decide.2 (by cases s <;> simp))
def tokenText__c (I : Alg) (args : List D) (hp : List HO) : Option CT := match args, hp with
  | [.v (.one (.p (.str s)))], [] => (fun (s : Str) => (some (.one ⟨I.hid (s.length ≤ 1000000), (.ret (.v (.one (.p (.bool (I.hid (tokenA s))))))), []⟩) : Option CT)) s
  | _, _ => none
theorem tokenText__g : GoodC Tryz.prog 64 (tokenText__c alg) := by
  intro args hp r h
  unfold tokenText__c at h
  split at h
  · cases h; exact fun hn => tokenText_ _ hn
  · cases h
def tokenText__k : Know Tryz.prog := ⟨64, tokenText__c, tokenText__g⟩
def tokenText__l : Know Tryz.prog := ⟨64, fun I => lendC I (tokenText__c I), lendC_good tokenText__g⟩

theorem seenText_ (s : Str) (hneed : s.length ≤ 1000000) : Spc Tryz.prog 53 [.v (.one (.p (.str s)))] [] (.ret (.v (.one (.p (.bool (seenA s)))))) [] := by
  generalize hr : seenA s = r
  refine spcG tab_ok mixed Tryz.func53 (by kernel_rfl) { keep := some [0, 2, 3] } [isSeen__k, isSeen__l] (by kernel_rfl) ?_
  intro I X hI hX
  refine ev_rule (.code 0 [1, 0, 1, 0] ⟨[(3, (.v (.one (.p (.int .i64 0))))), (2, (.v (.one (.p (.val (.bool .false)))))), (0, (.v (.one (.p (.str s)))))], [], 15, none⟩) (by kernel_rfl) ?_
  simp only [instL]
  refine loop_inv hI tab_ok mixed [isSeen__k, isSeen__l] hX [0, 3] (fun (i : Nat) => i ≤ s.length ∧ seenA (s.drop i) = r) (fun (i : Nat) => ⟨[(0, .v (.one (.p (.str s)))), (3, .v (.one (.p (.int .i64 i))))], [], 15, none⟩) (fun (i : Nat) => s.length - i) 0 (by kernel_rfl) (by kernel_rfl) ?_ ?_
  · exact ⟨Nat.zero_le _, hr⟩
  rintro i ⟨h1, h2⟩ A hA
  refine ev_rule (.br (I.ilt (Nat.cast i) (I.len (α := UInt8) s)) (.need (I.inb (Nat.cast i) (I.len (α := UInt8) s)) (.need (I.hid (α := (Prop)) True) (.br (I.bnot (I.hid (α := Bool) (seenB (I.b2i (I.get (α := UInt8) s 0 (Nat.cast i)))))) (.fin (.ret (.v (.one (.p (.bool Bool.false))))) []) (.need (I.inr Go.IntKind.i64 (I.add (Nat.cast i) 1)) (.need (A ⟨[(0, (.v (.one (.p (.str s))))), (3, (.v (.one (.p (.int .i64 (I.add (Nat.cast i) 1))))))], [], 15, none⟩) .qed))))) (.fin (.ret (.v (.one (.p (.bool Bool.true))))) [])) (by kernel_rfl) ?_
  simp only [instL]
  subst hI
  simp only [nrmA, decide_eq_true_eq, decide_eq_false_iff_not, beq_iff_eq, beq_eq_false_iff_ne, Bool.not_eq_true', Bool.not_eq_false', Bool.and_eq_true, Bool.and_true, Bool.true_and, and_true, true_and, ne_eq, Int.toNat_zero, Nat.sub_zero, List.drop_zero, i64_min, i64_max, u8_min, u8_max, ofNat_b2i, b2i_inj, Int.toNat_natCast, Int.ofNat_eq_natCast, UInt8.ofNat_toNat, AOut.ret.injEq, D.v.injEq, D.tup.injEq, V0.one.injEq, C.p.injEq, P.bool.injEq, P.int.injEq, P.str.injEq, Bool.false_eq_true, Bool.true_eq_false, imp_false, Decidable.not_not, not_true_eq_false, not_false_eq_true]
  have hb := byte_int (s.getD i 0)
  have hd : i < s.length → seenA (s.drop i) = (seenB (s.getD i 0).toNat && seenA (s.drop (i + 1))) := fun h => all_drop h
  generalize s.getD i 0 = x at *
  (repeat' (first | refine And.intro ?_ ?_ | intro _)) <;> first | omega | exact True.intro | exact False.elim ‹False› | skip
  all_goals first
    | (rw [← h2, hd (by omega)]; simp [*]; done)
    | (refine hA (i + 1) ⟨by omega, ?_⟩ (by omega); rw [← h2, hd (by omega)]; simp [*]; done)
    | (rw [← h2, List.drop_of_length_le (by omega)]; rfl)
def seenText__c (I : Alg) (args : List D) (hp : List HO) : Option CT := match args, hp with
  | [.v (.one (.p (.str s)))], [] => (fun (s : Str) => (some (.one ⟨I.hid (s.length ≤ 1000000), (.ret (.v (.one (.p (.bool (I.hid (seenA s))))))), []⟩) : Option CT)) s
  | _, _ => none
theorem seenText__g : GoodC Tryz.prog 53 (seenText__c alg) := by
  intro args hp r h
  unfold seenText__c at h
  split at h
  · cases h; exact fun hn => seenText_ _ hn
  · cases h
def seenText__k : Know Tryz.prog := ⟨53, seenText__c, seenText__g⟩
def seenText__l : Know Tryz.prog := ⟨53, fun I => lendC I (seenText__c I), lendC_good seenText__g⟩
end Go.Proofs.YtjapkdcomcgamaaGreatDoor
