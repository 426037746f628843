/- A reply, in plain words. -/
import Derived.Test.YtjapkdcomcgamaaDoorFldD
import Derived.Test.YtjapkdcomcgamaaDoorNum
set_option linter.all false
namespace Go.Proofs.YtjapkdcomcgamaaDoor
open Go Go.Sep Go.Ab

def wordM (n : Int) : Str :=
  if n = 200 then [79, 75]
  else if n = 201 then [67, 114, 101, 97, 116, 101, 100]
  else if n = 204 then [78, 111, 32, 67, 111, 110, 116, 101, 110, 116]
  else if n = 400 then [66, 97, 100, 32, 82, 101, 113, 117, 101, 115, 116]
  else if n = 404 then [78, 111, 116, 32, 70, 111, 117, 110, 100]
  else if n = 405 then [77, 101, 116, 104, 111, 100, 32, 78, 111, 116, 32, 65, 108, 108, 111, 119, 101, 100]
  else if n = 409 then [67, 111, 110, 102, 108, 105, 99, 116]
  else if n = 412 then [80, 114, 101, 99, 111, 110, 100, 105, 116, 105, 111, 110, 32, 70, 97, 105, 108, 101, 100]
  else if n = 413 then [67, 111, 110, 116, 101, 110, 116, 32, 84, 111, 111, 32, 76, 97, 114, 103, 101]
  else if n = 415 then [85, 110, 115, 117, 112, 112, 111, 114, 116, 101, 100, 32, 77, 101, 100, 105, 97, 32, 84, 121, 112, 101]
  else if n = 507 then [73, 110, 115, 117, 102, 102, 105, 99, 105, 101, 110, 116, 32, 83, 116, 111, 114, 97, 103, 101]
  else []
/-- The code of the first field that has no text; the texts of all. -/
def badF : List Fld → Int
  | [] => 0
  | f :: l => if (textF f).2 = 0 then badF l else (textF f).2
def fldsT : List Fld → Str
  | [] => []
  | f :: l => (textF f).1 ++ [13, 10] ++ fldsT l
theorem fldsT_app (a b : List Fld) : fldsT (a ++ b) = fldsT a ++ fldsT b := by
  induction a with
  | nil => rfl
  | cons f l ih => simp only [List.cons_append, fldsT, ih, List.append_assoc]
def headM (st : Int) : Str := [72, 84, 84, 80, 47, 49, 46, 49, 32] ++ decS st ++ [32] ++ wordM st ++ [13, 10]
def tailM (n : Int) : Str := [67, 111, 110, 116, 101, 110, 116, 45, 76, 101, 110, 103, 116, 104, 58, 32] ++ decS n ++ [13, 10, 13, 10]
def clenS : Str := [99, 111, 110, 116, 101, 110, 116, 45, 108, 101, 110, 103, 116, 104]
def writeC (st : Int) (fs : List Fld) : Int :=
  if wordM st = [] then 11 else if 16 ≤ fs.length then 8 else if 0 < (valsF fs clenS).length then 12 else badF fs
def writeT (st : Int) (fs : List Fld) (body : Str) : Str :=
  if writeC st fs = 0 then headM st ++ fldsT fs ++ tailM body.length ++ body else []
theorem textF_len (f : Fld) : (textF f).1.length ≤ 200 := by
  unfold textF
  split
  · simp
  split
  · simp
  split
  · simp
  · simp only [List.length_append, List.length_cons, List.length_nil]; omega
theorem fldsT_len : ∀ l : List Fld, (fldsT l).length ≤ 202 * l.length
  | [] => by simp [fldsT]
  | f :: l => by
    have := textF_len f
    have := fldsT_len l
    simp only [fldsT, List.length_append, List.length_cons, List.length_nil]; omega
theorem wordM_in {n : Int} (h : wordM n ≠ []) : n = 200 ∨ n = 201 ∨ n = 204 ∨ n = 400 ∨ n = 404 ∨ n = 405 ∨ n = 409 ∨ n = 412 ∨ n = 413 ∨ n = 415 ∨ n = 507 := by
  refine Decidable.byContradiction fun hn => h ?_
  simp only [not_or] at hn
  simp [wordM, hn]
theorem wordM_few {n : Int} (h : wordM n ≠ []) : 200 ≤ n ∧ n ≤ 507 ∧ (wordM n).length ≤ 30 := by
  rcases wordM_in h with rfl | rfl | rfl | rfl | rfl | rfl | rfl | rfl | rfl | rfl | rfl <;> decide
end Go.Proofs.YtjapkdcomcgamaaDoor
