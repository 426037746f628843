/- Uploads: the law's own. -/
import Derived.Test.YtjapkdcomcgamaaDoorSplS
set_option linter.all false
namespace Go.Proofs.YtjapkdcomcgamaaDoor
open Go Go.Sep Go.Ab
set_option maxRecDepth 100000

/-- A sum that may run over. -/
def sumW (n : Int) : List Sst → Int
  | [] => n
  | x :: l => sumW (IntKind.i64.wrap (n + x.text.length)) l
def sumT : List Sst → Int
  | [] => 0
  | x :: l => x.text.length + sumT l
def greatM (l : List Sst) : Bool := decide (200 < l.length) || decide (20000 < sumW 0 l)
theorem sumT_nonneg : ∀ l : List Sst, 0 ≤ sumT l
  | [] => Int.le_refl _
  | x :: l => by have := sumT_nonneg l; simp only [sumT]; omega
theorem sumW_small : ∀ (l : List Sst) (n : Int), 0 ≤ n → n + l.length * 140737488355328 ≤ 9223372036854775807 → (∀ x ∈ l, x.text.length ≤ 140737488355328) → sumW n l = n + sumT l
  | [], n, _, _, _ => by simp [sumW, sumT]
  | x :: l, n, h0, h1, h2 => by
    have hx := h2 x (List.mem_cons_self ..)
    rw [List.length_cons] at h1
    have e : IntKind.i64.wrap (n + x.text.length) = n + x.text.length := wrap_id (k := .i64) (by rw [alg_inr, i64_min, i64_max]; omega)
    rw [sumW, e, sumW_small l _ (by omega) (by omega) (fun y hy => h2 y (List.mem_cons_of_mem _ hy)), sumT]
    omega
theorem sumT_mem : ∀ {l : List Sst} {x : Sst}, x ∈ l → (x.text.length : Int) ≤ sumT l
  | y :: l, x, h => by
    have := sumT_nonneg l
    simp only [sumT]
    rcases List.mem_cons.1 h with rfl | h
    · omega
    · have := sumT_mem h; omega
theorem great_few {l : List Sst} (hw : ∀ x ∈ l, x.text.length ≤ 140737488355328) (h : greatM l = false) : l.length ≤ 200 ∧ ∀ x ∈ l, x.text.length ≤ 20000 := by
  unfold greatM at h
  simp only [Bool.or_eq_false_iff, decide_eq_false_iff_not] at h
  have e := sumW_small l 0 (Int.le_refl _) (by omega) hw
  exact ⟨by omega, fun x hx => by have := sumT_mem hx; omega⟩

theorem greatS_ (l : List Sst) (hneed : l.length ≤ 140737488355328) : Spc Tryd.prog 12 [.v (.one (.p (.list .sst l)))] [] (.ret (.v (.one (.p (.bool (greatM l)))))) [] := by
  generalize hr : greatM l = r
  refine spcG tab_ok mixed Tryd.func12 (by kernel_rfl) { wrp := true, keep := some [0, 2, 3, 4] } [] (by kernel_rfl) ?_
  intro I X hI hX
  refine ev_rule (.code 0 [1, 1, 0, 1, 0] ⟨[(4, (.v (.one (.p (.int .i64 0))))), (3, (.v (.one (.p (.int .i64 0))))), (2, (.v (.one (.p (.val (.bool .false)))))), (0, (.v (.one (.p (.list .sst l)))))], [], 26⟩) (by kernel_rfl) ?_
  simp only [inst_need, inst_br, inst_both, inst_fin, inst_qed, inst_stop, inst_code]
  refine loop_inv hI tab_ok mixed [] hX [0, 3, 4] (fun (g : Nat × Int) => match g with | (i, n) => i ≤ l.length ∧ sumW n (l.drop i) = sumW 0 l) (fun (g : Nat × Int) => match g with | (i, n) => ⟨[(0, .v (.one (.p (.list .sst l)))), (3, .v (.one (.p (.int .i64 n)))), (4, .v (.one (.p (.int .i64 i))))], [], 26⟩) (fun (g : Nat × Int) => match g with | (i, n) => l.length - i) (0, 0) (by kernel_rfl) (by kernel_rfl) ?_ ?_
  · exact ⟨Nat.zero_le _, rfl⟩
  rintro ⟨i, n⟩ ⟨h1, h2⟩ A hA
  simp only at hA
  refine ev_rule (let y0 := I.inb (Nat.cast i) (I.len (α := Go.Ab.Sst) l); .br (I.ilt (Nat.cast i) (I.len (α := Go.Ab.Sst) l)) (.need y0 (.need y0 (.need (A ⟨[(0, (.v (.one (.p (.list .sst l))))), (3, (.v (.one (.p (.int .i64 (I.wrap Go.IntKind.i64 (I.add n (I.len (α := UInt8) (Go.Ab.Sst.text (I.get (α := Go.Ab.Sst) l (Go.Ab.Sst.mk (0 : Int) (0 : Int) (0 : Int) ([] : List UInt8)) (Nat.cast i))))))))))), (4, (.v (.one (.p (.int .i64 (I.wrap Go.IntKind.i64 (I.add (Nat.cast i) 1)))))))], [], 26⟩) .qed))) (.br (I.ilt 200 (I.len (α := Go.Ab.Sst) l)) (.fin (.ret (.v (.one (.p (.bool Bool.true))))) []) (.fin (.ret (.v (.one (.p (.bool (I.ilt 20000 n)))))) []))) (by kernel_rfl) ?_
  simp only [inst_need, inst_br, inst_both, inst_fin, inst_qed, inst_stop, inst_code]
  subst hI
  simp only [alg_b2i, alg_i2b, alg_add, alg_sub, alg_mul, alg_quo, alg_rem, alg_wrap, alg_imin, alg_imax, alg_ilt, alg_ile, alg_ieq, alg_bnot, alg_beq, alg_ban, alg_seq, alg_len, alg_app, alg_cut, alg_get, alg_set, alg_rep, alg_inr, alg_inb, alg_cutb, alg_same, alg_few, alg_nne, alg_nng, alg_hid, alg_shl, alg_shr, alg_bits, decide_eq_true_eq, decide_eq_false_iff_not, beq_iff_eq, beq_eq_false_iff_ne, Bool.not_eq_true', Bool.not_eq_false', Bool.and_eq_true, Bool.and_true, Bool.true_and, and_true, true_and, ne_eq, Int.toNat_zero, Nat.sub_zero, List.drop_zero, i64_min, i64_max, u8_min, u8_max, ofNat_b2i, b2i_inj, Int.toNat_natCast, Int.ofNat_eq_natCast, UInt8.ofNat_toNat, AOut.ret.injEq, D.v.injEq, D.tup.injEq, V0.one.injEq, C.p.injEq, P.bool.injEq, P.int.injEq, P.str.injEq, Bool.false_eq_true, Bool.true_eq_false, imp_false, Decidable.not_not, not_true_eq_false, not_false_eq_true]
  have hd : i < l.length → sumW n (l.drop i) = sumW (IntKind.i64.wrap (n + (l.getD i ⟨0, 0, 0, []⟩).text.length)) (l.drop (i + 1)) := fun h => by
    rw [List.drop_eq_getElem_cons h, sumW]; simp [h]
  have hend : ¬ i < l.length → n = sumW 0 l := fun h => by rw [← h2, List.drop_of_length_le (by omega)]; rfl
  generalize l.getD i ⟨0, 0, 0, []⟩ = x at *
  have hrm : r = (decide (200 < l.length) || decide (20000 < sumW 0 l)) := hr.symm
  refine ⟨fun c => ⟨by omega, by omega, ?_⟩, fun c => ⟨fun c2 => ?_, fun c2 => ?_⟩⟩
  · rw [show IntKind.i64.wrap ((i : Int) + 1) = ((i + 1 : Nat) : Int) from wrap_id (k := .i64) (by rw [alg_inr, i64_min, i64_max]; omega)]
    exact hA (i + 1, IntKind.i64.wrap (n + x.text.length)) ⟨by simp only; omega, by simp only; rw [← hd (by omega), h2]⟩ (by simp only; omega)
  · rw [hrm, decide_eq_true (by omega), Bool.true_or]
  · rw [hrm, hend (by omega), decide_eq_false (p := 200 < l.length) (by omega), Bool.false_or]
def greatS__c (I : Alg) (args : List D) (hp : List HO) : Option CT := match args, hp with
  | [.v (.one (.p (.list .sst l)))], [] => (fun (l : List Sst) => (some (.one ⟨I.hid (l.length ≤ 140737488355328), (.ret (.v (.one (.p (.bool (I.hid (greatM l))))))), []⟩) : Option CT)) l
  | _, _ => none
theorem greatS__g : GoodC Tryd.prog 12 (greatS__c alg) := by
  intro args hp r h
  unfold greatS__c at h
  split at h
  · cases h; exact fun hn => greatS_ _ hn
  · cases h
def greatS__k : Know Tryd.prog := ⟨12, greatS__c, greatS__g⟩
def greatS__l : Know Tryd.prog := ⟨12, fun I => lendC I (greatS__c I), lendC_good greatS__g⟩

theorem splBegun_  : Spc Tryd.prog 11 [] [] (.ret (.v (.one (.p (.bool true))))) [] := by
  refine spcG tab_ok mixed Tryd.func11 (by kernel_rfl) { fz := [15], keep := some [0, 1, 2, 3] } [sUsedB__k, sUsedB__l, sUsed__k, sUsed__l, sCreate__k, sCreate__l, sAppend__k, sAppend__l, sBegin__k, sBegin__l, sEnd__k, sEnd__l, sNext__k, sNext__l, sNew__k, sNew__l, sListB__k, sListB__l, sList__k, sList__l] (by kernel_rfl) ?_
  intro I X hI hX
  refine ev_rule (let y5 := I.hid (α := (List Go.Ab.Upl)) ([] : List Go.Ab.Upl); let y2 := I.hid (α := (List Go.Ab.Upl)) (creL y5 (0 : Int) (3 : Int) (Array.toList (List.toArray ([109] : List UInt8)))); let y4 := I.hid (α := (List Go.Ab.Upl)) (appL y2 (1 : Int) (0 : Int) ([(I.i2b 97), (I.i2b 98)] : List UInt8)); let y6 := I.hid (α := (List Go.Ab.Upl)) (begL y4 (1 : Int)); let y0 := I.hid (α := (List Go.Ab.Upl)) (appL y6 (1 : Int) (2 : Int) ([(I.i2b 99)] : List UInt8)); let y1 := I.hid (α := Int) (creN y5 (0 : Int) (3 : Int) (Array.toList (List.toArray ([109] : List UInt8)))); let y7 := I.hid (α := (List Go.Ab.Upl)) (begL y0 (1 : Int)); let y3 := I.hid (α := (List Go.Ab.Upl)) (endL y7 (1 : Int)); .need (I.hid (α := (Prop)) True) (.need (I.hid (α := (Prop)) (And (SplOk y5 (0 : Int)) (And (LE.le (0 : Int) (1000000 : Int)) (LE.le (List.length (Array.toList (List.toArray ([109] : List UInt8)))) 1000000)))) (.br (I.ieq (I.hid (α := Int) (creI y5 (0 : Int) (3 : Int) (Array.toList (List.toArray ([109] : List UInt8))))) 1) (.br (I.ieq (I.hid (α := Int) (creC y5 (3 : Int) (Array.toList (List.toArray ([109] : List UInt8))))) 0) (.need (I.inr Go.IntKind.u8 97) (.need (I.inr Go.IntKind.u8 98) (.need (I.inb 0 (I.len (α := UInt8) ([(I.i2b 97), (I.i2b 98)] : List UInt8))) (.need (I.hid (α := (Prop)) (And (SplOk y2 y1) (LE.le (List.length ([(I.i2b 97), (I.i2b 98)] : List UInt8)) 1000000))) (.br (I.ieq (I.hid (α := Int) (appC y2 (1 : Int) (0 : Int) ([(I.i2b 97), (I.i2b 98)] : List UInt8))) 0) (.need (I.hid (α := (Prop)) (SplOk y4 y1)) (.br (I.ieq (I.hid (α := Int) (begC y4 (1 : Int))) 14) (.need (I.inr Go.IntKind.u8 99) (.need (I.inb 0 (I.len (α := UInt8) ([(I.i2b 99)] : List UInt8))) (.need (I.hid (α := (Prop)) (And (SplOk y6 y1) (LE.le (List.length ([(I.i2b 99)] : List UInt8)) 1000000))) (.br (I.ieq (I.hid (α := Int) (appC y6 (1 : Int) (2 : Int) ([(I.i2b 99)] : List UInt8))) 0) (.need (I.hid (α := (Prop)) (SplOk y0 y1)) (.br (I.ieq (I.hid (α := Int) (begC y0 (1 : Int))) 0) (.need (I.hid (α := (Prop)) (SplOk y7 y1)) (.br (I.ieq (I.hid (α := Int) (endC y7 (1 : Int))) 0) (.need (I.hid (α := (Prop)) (And (LE.le (usedU y3) (1000000 : Int)) (LE.le (List.length y3) 1000000))) (.br (I.ieq (I.hid (α := Int) (usedU y3)) 3) (.need (I.hid (α := (Prop)) (And (LE.le (0 : Int) y1) (LE.le y1 (1000000 : Int)))) (.br (I.ieq (I.hid (α := Int) (HAdd.hAdd y1 (1 : Int))) 2) (.need (I.hid (α := (Prop)) (SplOk y3 y1)) (.fin (.ret (.v (.one (.p (.bool (I.ieq (I.len (α := Go.Ab.Upl) y3) 1)))))) [])) (.fin (.ret (.v (.one (.p (.bool Bool.false))))) []))) (.fin (.ret (.v (.one (.p (.bool Bool.false))))) []))) (.fin (.ret (.v (.one (.p (.bool Bool.false))))) []))) (.fin (.ret (.v (.one (.p (.bool Bool.false))))) []))) (.fin (.ret (.v (.one (.p (.bool Bool.false))))) []))))) (.fin (.ret (.v (.one (.p (.bool Bool.false))))) []))) (.fin (.ret (.v (.one (.p (.bool Bool.false))))) [])))))) (.fin (.ret (.v (.one (.p (.bool Bool.false))))) [])) (.fin (.ret (.v (.one (.p (.bool Bool.false))))) [])))) (by kernel_rfl) ?_
  simp only [inst_need, inst_br, inst_both, inst_fin, inst_qed, inst_stop, inst_code]
  subst hI
  simp only [alg_b2i, alg_i2b, alg_add, alg_sub, alg_mul, alg_quo, alg_rem, alg_wrap, alg_imin, alg_imax, alg_ilt, alg_ile, alg_ieq, alg_bnot, alg_beq, alg_ban, alg_seq, alg_len, alg_app, alg_cut, alg_get, alg_set, alg_rep, alg_inr, alg_inb, alg_cutb, alg_same, alg_few, alg_nne, alg_nng, alg_hid, alg_shl, alg_shr, alg_bits, decide_eq_true_eq, decide_eq_false_iff_not, beq_iff_eq, beq_eq_false_iff_ne, Bool.not_eq_true', Bool.not_eq_false', Bool.and_eq_true, Bool.and_true, Bool.true_and, and_true, true_and, ne_eq, Int.toNat_zero, Nat.sub_zero, List.drop_zero, i64_min, i64_max, u8_min, u8_max, ofNat_b2i, b2i_inj, Int.toNat_natCast, Int.ofNat_eq_natCast, UInt8.ofNat_toNat, AOut.ret.injEq, D.v.injEq, D.tup.injEq, V0.one.injEq, C.p.injEq, P.bool.injEq, P.int.injEq, P.str.injEq, Bool.false_eq_true, Bool.true_eq_false, imp_false, Decidable.not_not, not_true_eq_false, not_false_eq_true]
  (repeat' (first | refine And.intro ?_ ?_ | (intro h; first | exact absurd h (by decide +kernel) | clear h)))
  all_goals first
    | decide +kernel
    | (repeat (first | exact spl_nil | refine cre_ok ?_ _ _ | refine app_ok ?_ _ _ _ | refine beg_ok ?_ _ | refine end_ok ?_ _)); done
    | trace_state
def splBegun__c (I : Alg) (args : List D) (hp : List HO) : Option CT := match args, hp with
  | [], [] => (fun (_ : Unit) => (some (.one ⟨I.hid (True), (.ret (.v (.one (.p (.bool true))))), []⟩) : Option CT)) ()
  | _, _ => none
theorem splBegun__g : GoodC Tryd.prog 11 (splBegun__c alg) := by
  intro args hp r h
  unfold splBegun__c at h
  split at h
  · cases h; exact fun hn => splBegun_ 
  · cases h
def splBegun__k : Know Tryd.prog := ⟨11, splBegun__c, splBegun__g⟩
def splBegun__l : Know Tryd.prog := ⟨11, fun I => lendC I (splBegun__c I), lendC_good splBegun__g⟩
end Go.Proofs.YtjapkdcomcgamaaDoor
