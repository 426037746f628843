/- Contracts of Go's library, off the kit's shelf, as the abstract machine asks them. -/
import Derived.Test.YtjapkdcomcgamaaGreatDoorTab
import Derived.Test.YtjapkdcomcgamaaGreatDoorShelf
import Derived.Below
set_option linter.all false
namespace Go.Ab
open Go Go.Sep
variable [Facts]

theorem below_keeps {w w' : World} (h : RowKit.Below w.heap.size w w') : Keeps (fun k => k < w.heap.size) w w' := ⟨h.1, h.2, h.3, h.4, h.5⟩
/-- A function that turns nothing that was there. -/
theorem Spc.of_below {Pr : Program} {f : Nat} {args : List D} {hp : List HO} {d : D} (hf : ∃ fn, Pr.funcs[f]? = some fn ∧ (fn.name == "runtime.NumGoroutine") = false ∧ fn.body.isNone = false)
    (h : ∀ (S : Frz) (bs : List Value) (w : World) (vs : List Value), Facts.p w → MDs S bs args vs → ∃ v, MD S bs d v ∧ Calls Pr f vs.toArray w fun e w' => e = .returned v ∧ RowKit.Below w.heap.size w w') : Spc Pr f args hp (.ret d) hp := by
  refine ⟨hf, fun S K fr w vs hH hM hA => ?_⟩
  obtain ⟨v, hv, hc⟩ := h S _ w vs (At.frz hA).facts hM
  refine hc.mono fun e w' he => ?_
  obtain ⟨he, hb⟩ := he
  subst he
  exact ⟨S, K, Frz.le.refl S, Ext.refl _, hH, hA.keep (below_keeps hb), hv⟩
end Go.Ab
namespace Go.Proofs.YtjapkdcomcgamaaGreatDoor
open Go Go.Sep Go.Ab
set_option maxRecDepth 100000

theorem trimS_le (s cs : Str) : (Lib.trimS s cs).length ≤ s.length := by
  unfold Lib.trimS Lib.trimLeftS Lib.trimRightS
  refine Nat.le_trans (List.dropWhile_sublist _).length_le ?_
  rw [List.length_reverse]
  exact Nat.le_trans (List.dropWhile_sublist _).length_le (by rw [List.length_reverse]; exact Nat.le_refl _)
theorem indexByte_le : ∀ (s : Str) (c : UInt8), -1 ≤ Lib.indexByte s c ∧ Lib.indexByte s c < s.length
  | [], c => by simp [Lib.indexByte]
  | b :: l, c => by
    have := indexByte_le l c
    unfold Lib.indexByte
    rw [List.length_cons]
    split
    · omega
    · split
      · omega
      · omega

theorem trim_ (s : Str) : Spc Tryz.prog 146 [.v (.one (.p (.str s))), .v (.one (.p (.str ([32, 9]))))] [] (.ret (.v (.one (.p (.str (Lib.trimS s [32, 9])))))) [] := by
  refine Spc.of_below ⟨_, Tryz.func146, by kernel_rfl, by kernel_rfl⟩ fun S bs w vs _ hM => ?_
  obtain ⟨v, r, rfl⟩ : ∃ v r, vs = v :: r := by cases vs with | nil => exact hM.elim | cons v r => exact ⟨v, r, rfl⟩
  obtain ⟨h1, hM⟩ := hM
  obtain ⟨v2, r2, rfl⟩ : ∃ v r2, r = v :: r2 := by cases r with | nil => exact hM.elim | cons v r => exact ⟨v, r, rfl⟩
  obtain ⟨h2, hM⟩ := hM
  obtain rfl : r2 = [] := by cases r2 with | nil => rfl | cons v r => exact hM.elim
  cases h1 with
  | str _ hl1 =>
    cases h2 with
    | str _ hl2 =>
      refine ⟨.string (Sep.S (Lib.trimS s [32, 9])), .str _ (Nat.le_trans (trimS_le _ _) hl1), ?_⟩
      exact Tryz.strings_Trim_laid (Sep.S s) (Sep.S [32, 9]) w (by have := hl1; unfold maxLen at this; exact this) (by decide) (fun j b hb => by
        have := List.mem_of_getElem? hb
        rcases (by simpa [Sep.S] using this : b = 32 ∨ b = 9) with rfl | rfl <;> decide)
def trim__c (I : Alg) (args : List D) (hp : List HO) : Option CT := match args, hp with
  | [.v (.one (.p (.str s))), .v (.one (.p (.str ([32, 9]))))], [] => (fun (s : Str) => (some (.one ⟨I.hid (True), (.ret (.v (.one (.p (.str (I.hid (Lib.trimS s [32, 9]))))))), []⟩) : Option CT)) s
  | _, _ => none
theorem trim__g : GoodC Tryz.prog 146 (trim__c alg) := by
  intro args hp r h
  unfold trim__c at h
  split at h
  · cases h; exact fun hn => trim_ _
  · cases h
def trim__k : Know Tryz.prog := ⟨146, trim__c, trim__g⟩
def trim__l : Know Tryz.prog := ⟨146, fun I => lendC I (trim__c I), lendC_good trim__g⟩

theorem indexByte_ (s : Str) (k : Int) : Spc Tryz.prog 122 [.v (.one (.p (.str s))), .v (.one (.p (.int .u8 k)))] [] (.ret (.v (.one (.p (.int .i64 (Lib.indexByte s k.toNat.toUInt8)))))) [] := by
  refine Spc.of_below ⟨_, Tryz.func122, by kernel_rfl, by kernel_rfl⟩ fun S bs w vs _ hM => ?_
  obtain ⟨v, r, rfl⟩ : ∃ v r, vs = v :: r := by cases vs with | nil => exact hM.elim | cons v r => exact ⟨v, r, rfl⟩
  obtain ⟨h1, hM⟩ := hM
  obtain ⟨v2, r2, rfl⟩ : ∃ v r2, r = v :: r2 := by cases r with | nil => exact hM.elim | cons v r => exact ⟨v, r, rfl⟩
  obtain ⟨h2, hM⟩ := hM
  obtain rfl : r2 = [] := by cases r2 with | nil => rfl | cons v r => exact hM.elim
  cases h1 with
  | str _ hl1 =>
    cases h2 with
    | int _ _ =>
      refine ⟨.int .i64 (Lib.indexByte s k.toNat.toUInt8), .int _ _, ?_⟩
      refine (Tryz.strings_IndexByte (Sep.S s) k w).mono fun e w' h => ?_
      obtain ⟨he, rfl⟩ := h
      exact ⟨he, RowKit.Below.refl _ _⟩
def indexByte__c (I : Alg) (args : List D) (hp : List HO) : Option CT := match args, hp with
  | [.v (.one (.p (.str s))), .v (.one (.p (.int .u8 k)))], [] => (fun (s : Str) (k : Int) => (some (.one ⟨I.hid (True), (.ret (.v (.one (.p (.int .i64 (I.hid (Lib.indexByte s k.toNat.toUInt8))))))), []⟩) : Option CT)) s k
  | _, _ => none
theorem indexByte__g : GoodC Tryz.prog 122 (indexByte__c alg) := by
  intro args hp r h
  unfold indexByte__c at h
  split at h
  · cases h; exact fun hn => indexByte_ _ _
  · cases h
def indexByte__k : Know Tryz.prog := ⟨122, indexByte__c, indexByte__g⟩
def indexByte__l : Know Tryz.prog := ⟨122, fun I => lendC I (indexByte__c I), lendC_good indexByte__g⟩

theorem index1_ (s : Str) (c : UInt8) : Spc Tryz.prog 140 [.v (.one (.p (.str s))), .v (.one (.p (.str ([c]))))] [] (.ret (.v (.one (.p (.int .i64 (Lib.indexByte s c)))))) [] := by
  refine Spc.of_below ⟨_, Tryz.func140, by kernel_rfl, by kernel_rfl⟩ fun S bs w vs _ hM => ?_
  obtain ⟨v, r, rfl⟩ : ∃ v r, vs = v :: r := by cases vs with | nil => exact hM.elim | cons v r => exact ⟨v, r, rfl⟩
  obtain ⟨h1, hM⟩ := hM
  obtain ⟨v2, r2, rfl⟩ : ∃ v r2, r = v :: r2 := by cases r with | nil => exact hM.elim | cons v r => exact ⟨v, r, rfl⟩
  obtain ⟨h2, hM⟩ := hM
  obtain rfl : r2 = [] := by cases r2 with | nil => rfl | cons v r => exact hM.elim
  cases h1 with
  | str _ hl1 =>
    cases h2 with
    | str _ _ =>
      refine ⟨.int .i64 (Lib.indexByte s c), .int _ _, ?_⟩
      refine (Tryz.stringslite_Index_one (Sep.S s) c w).mono fun e w' h => ?_
      obtain ⟨he, rfl⟩ := h
      exact ⟨he, RowKit.Below.refl _ _⟩
def index1__c (I : Alg) (args : List D) (hp : List HO) : Option CT := match args, hp with
  | [.v (.one (.p (.str s))), .v (.one (.p (.str ([c]))))], [] => (fun (s : Str) (c : UInt8) => (some (.one ⟨I.hid (True), (.ret (.v (.one (.p (.int .i64 (I.hid (Lib.indexByte s c))))))), []⟩) : Option CT)) s c
  | _, _ => none
theorem index1__g : GoodC Tryz.prog 140 (index1__c alg) := by
  intro args hp r h
  unfold index1__c at h
  split at h
  · cases h; exact fun hn => index1_ _ _
  · cases h
def index1__k : Know Tryz.prog := ⟨140, index1__c, index1__g⟩
def index1__l : Know Tryz.prog := ⟨140, fun I => lendC I (index1__c I), lendC_good index1__g⟩
end Go.Proofs.YtjapkdcomcgamaaGreatDoor
