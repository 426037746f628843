/- A body in chunks: what is written, and the document's own. -/
import Derived.Test.YtjapkdcomcgamaaDoorChkA
import Derived.Test.YtjapkdcomcgamaaDoorHexB
import Derived.Test.YtjapkdcomcgamaaDoorRplC
import Derived.Test.YtjapkdcomcgamaaDoorBase
set_option linter.all false
namespace Go.Proofs.YtjapkdcomcgamaaDoor
open Go Go.Sep Go.Ab
set_option maxRecDepth 100000

def ck1 (b : Str) : Str := if b = [] then [] else hexS b.length ++ [13, 10] ++ b ++ [13, 10]
def ckT : List Str → Str
  | [] => []
  | b :: l => ck1 b ++ ckT l
def ckW (l : List Str) : Str := ckT l ++ [48, 13, 10, 13, 10]
theorem ckT_app : ∀ (l m : List Str), ckT (l ++ m) = ckT l ++ ckT m
  | [], _ => rfl
  | b :: l, m => by simp only [List.cons_append, ckT, ckT_app l m, List.append_assoc]
theorem ck1_len (b : Str) : (ck1 b).length ≤ b.length + 8 := by
  unfold ck1
  split
  · simp
  · have := hexS_len b.length
    simp only [List.length_append, List.length_cons, List.length_nil]; omega
theorem ckT_len : ∀ {l : List Str}, (∀ b ∈ l, b.length ≤ 10000) → (ckT l).length ≤ 10008 * l.length
  | [], _ => Nat.le_refl _
  | b :: l, h => by
    have h1 := h b (List.mem_cons_self ..)
    have h2 := ckT_len (fun x hx => h x (List.mem_cons_of_mem _ hx))
    have h3 := ck1_len b
    simp only [ckT, List.length_append, List.length_cons]; omega

theorem ckT_take {l : List Str} {i : Nat} (h : i < l.length) : ckT (l.take (i + 1)) = ckT (l.take i) ++ ck1 (l.getD i []) := by
  rw [List.take_succ_eq_append_getElem h, ckT_app]; simp [ckT, h]
theorem take_len {l : List Str} (h : ∀ b ∈ l, b.length ≤ 10000) (hl : l.length ≤ 1000) (i : Nat) : (ckT (l.take i)).length ≤ 10008000 := by
  have h1 := ckT_len (l := l.take i) (fun x hx => h x ((List.take_sublist i l).subset hx))
  have : (l.take i).length ≤ l.length := by rw [List.length_take]; omega
  omega
set_option maxHeartbeats 4000000 in
theorem ckWrite_ (l : List Str) (hneed : l.length ≤ 1000 ∧ ∀ b ∈ l, b.length ≤ 10000) : Spc Tryd.prog 56 [.v (.one (.p (.list .bytes l)))] [] (.ret (.v (.one (.row 0)))) [.row .byte 5 ((ckW l))] := by
  obtain ⟨hl, hb⟩ := hneed
  generalize hr : ckW l = r
  refine spcG tab_ok mixed Tryd.func56 (by kernel_rfl) { nr := [3], keep := some [0, 2, 3, 5, 6, 7, 8] } [fmtInt__k, fmtInt__l] (by kernel_rfl) ?_
  intro I X hI hX
  refine ev_rule (.code 0 [1, 1, 0, 1, 0] ⟨[(8, (.v (.one (.p (.int .i64 0))))), (7, (.v (.one (.p (.int .i64 (I.len (α := (List UInt8)) l)))))), (6, (.v (.one (.p (.list .bytes l))))), (3, (.v (.one (.row 0)))), (2, (.v (.one .nilS))), (0, (.v (.one (.p (.list .bytes l)))))], [(.row .byte 5 ([] : List UInt8))], 30⟩) (by kernel_rfl) ?_
  simp only [inst_need, inst_br, inst_both, inst_fin, inst_qed, inst_stop, inst_code]
  refine loop_inv hI tab_ok mixed [fmtInt__k, fmtInt__l] hX [3, 6, 7, 8] (fun (g : Nat × Str) => match g with | (i, o) => i ≤ l.length ∧ o = ckT (l.take i)) (fun (g : Nat × Str) => match g with | (i, o) => ⟨[(3, .v (.one (.row 0))), (6, .v (.one (.p (.list .bytes l)))), (7, .v (.one (.p (.int .i64 ((I.len (α := Str) l)))))), (8, .v (.one (.p (.int .i64 i))))], [.row .byte 5 o], 30⟩) (fun (g : Nat × Str) => match g with | (i, o) => l.length - i) (0, []) (by kernel_rfl) (by kernel_rfl) ?_ ?_
  · exact ⟨Nat.zero_le _, rfl⟩
  rintro ⟨i, o⟩ ⟨h1, h2⟩ A hA
  simp only at hA h1 h2
  refine ev_rule (let y3 := I.get (α := (List UInt8)) l ([] : List UInt8) (Nat.cast i); let y0 := I.len (α := UInt8) y3; let y1 := I.hid (α := (List UInt8)) (hexS y0); let y2 := I.len (α := UInt8) (Array.toList (List.toArray ([13, 10] : List UInt8))); let y4 := I.inb (Nat.cast i) (I.len (α := (List UInt8)) l); let y5 := I.inr Go.IntKind.i64 (I.add (Nat.cast i) 1); .br (I.ilt (Nat.cast i) (I.len (α := (List UInt8)) l)) (.need y4 (.need y4 (.br (I.ilt 0 y0) (.need (I.hid (α := (Prop)) (And (LE.le (0 : Int) y0) (LT.lt y0 (65536 : Int)))) (.need (I.few (I.add (I.len (α := UInt8) o) (I.len (α := UInt8) y1)) 140737488355328) (.need (I.few (I.add (I.len (α := UInt8) (I.app (α := UInt8) o y1)) y2) 140737488355328) (.need (I.few (I.add (I.len (α := UInt8) (I.app (α := UInt8) (I.app (α := UInt8) o y1) (Array.toList (List.toArray ([13, 10] : List UInt8))))) y0) 140737488355328) (.need (I.few (I.add (I.len (α := UInt8) (I.app (α := UInt8) (I.app (α := UInt8) (I.app (α := UInt8) o y1) (Array.toList (List.toArray ([13, 10] : List UInt8)))) y3)) y2) 140737488355328) (.need y5 (.need (A ⟨[(3, (.v (.one (.row 0)))), (6, (.v (.one (.p (.list .bytes l))))), (7, (.v (.one (.p (.int .i64 (I.len (α := (List UInt8)) l)))))), (8, (.v (.one (.p (.int .i64 (I.add (Nat.cast i) 1))))))], [(.row .byte 5 (I.app (α := UInt8) (I.app (α := UInt8) (I.app (α := UInt8) (I.app (α := UInt8) o y1) (Array.toList (List.toArray ([13, 10] : List UInt8)))) y3) (Array.toList (List.toArray ([13, 10] : List UInt8)))))], 30⟩) .qed))))))) (.need y5 (.need (A ⟨[(3, (.v (.one (.row 0)))), (6, (.v (.one (.p (.list .bytes l))))), (7, (.v (.one (.p (.int .i64 (I.len (α := (List UInt8)) l)))))), (8, (.v (.one (.p (.int .i64 (I.add (Nat.cast i) 1))))))], [(.row .byte 5 o)], 30⟩) .qed))))) (.need (I.few (I.add (I.len (α := UInt8) o) (I.len (α := UInt8) (Array.toList (List.toArray ([48, 13, 10, 13, 10] : List UInt8))))) 140737488355328) (.fin (.ret (.v (.one (.row 0)))) [(.row .byte 5 (I.app (α := UInt8) o (Array.toList (List.toArray ([48, 13, 10, 13, 10] : List UInt8)))))]))) (by kernel_rfl) ?_
  simp only [inst_need, inst_br, inst_both, inst_fin, inst_qed, inst_stop, inst_code]
  subst hI
  simp only [alg_b2i, alg_i2b, alg_add, alg_sub, alg_mul, alg_quo, alg_rem, alg_wrap, alg_imin, alg_imax, alg_ilt, alg_ile, alg_ieq, alg_bnot, alg_beq, alg_ban, alg_seq, alg_len, alg_app, alg_cut, alg_get, alg_set, alg_rep, alg_inr, alg_inb, alg_cutb, alg_same, alg_few, alg_nne, alg_nng, alg_hid, alg_shl, alg_shr, alg_bits, decide_eq_true_eq, decide_eq_false_iff_not, beq_iff_eq, beq_eq_false_iff_ne, Bool.not_eq_true', Bool.not_eq_false', Bool.and_eq_true, Bool.and_true, Bool.true_and, and_true, true_and, ne_eq, Int.toNat_zero, Nat.sub_zero, List.drop_zero, i64_min, i64_max, u8_min, u8_max, ofNat_b2i, b2i_inj, Int.toNat_natCast, Int.ofNat_eq_natCast, UInt8.ofNat_toNat, AOut.ret.injEq, D.v.injEq, D.tup.injEq, V0.one.injEq, C.p.injEq, P.bool.injEq, P.int.injEq, P.str.injEq, Bool.false_eq_true, Bool.true_eq_false, imp_false, Decidable.not_not, not_true_eq_false, not_false_eq_true, List.cons.injEq, P.list.injEq, HO.row.injEq, heq_eq_eq, reduceCtorEq, false_and, and_false]
  have htk := fun h => ckT_take (l := l) (i := i) h
  have hol := take_len hb hl i
  have hm : i < l.length → (l.getD i []).length ≤ 10000 := fun h => hb _ (by rw [show l.getD i [] = l[i] by simp [h]]; exact List.getElem_mem h)
  have hend : ¬ i < l.length → o ++ [48, 13, 10, 13, 10] = r := fun h => by
    rw [h2, List.take_of_length_le (by omega), ← hr]; rfl
  rw [← h2] at hol htk
  have hfin := fun h => hA (i + 1, _) ⟨by simp only; omega, (htk h).symm⟩ (by simp only; omega)
  clear hA htk
  generalize l.getD i [] = x at *
  have hx := hexS_len x.length
  unfold ck1 at hfin
  (repeat' (first | refine And.intro ?_ ?_ | intro _)) <;> first | omega | exact True.intro | exact False.elim ‹False› | skip
  all_goals first
    | exact hend (by omega)
    | (simp only [List.length_cons, List.length_nil]; omega)
    | (have := hm (by omega); omega)
    | (have := hm (by omega); simp only [List.length_append, List.length_cons, List.length_nil]; omega)
    | (have hfin := hfin (by omega); rw [if_neg (by rintro rfl; simp at *)] at hfin; simp only [← List.append_assoc] at hfin; exact hfin)
    | (have hfin := hfin (by omega); rw [if_pos (List.eq_nil_of_length_eq_zero (by omega)), List.append_nil] at hfin; exact hfin)
    | trace_state
def ckWrite__c (I : Alg) (args : List D) (hp : List HO) : Option CT := match args, hp with
  | [.v (.one (.p (.list .bytes l)))], [] => (fun (l : List Str) => (some (.one ⟨I.hid (l.length ≤ 1000 ∧ ∀ b ∈ l, b.length ≤ 10000), (.ret (.v (.one (.row 0)))), [.row .byte 5 (I.hid ((ckW l)))]⟩) : Option CT)) l
  | _, _ => none
theorem ckWrite__g : GoodC Tryd.prog 56 (ckWrite__c alg) := by
  intro args hp r h
  unfold ckWrite__c at h
  split at h
  · cases h; exact fun hn => ckWrite_ _ hn
  · cases h
def ckWrite__k : Know Tryd.prog := ⟨56, ckWrite__c, ckWrite__g⟩
def ckWrite__l : Know Tryd.prog := ⟨56, fun I => lendC I (ckWrite__c I), lendC_good ckWrite__g⟩

set_option maxHeartbeats 4000000 in
theorem ckText_ (l : List Str) (hneed : l.length ≤ 1000 ∧ ∀ b ∈ l, b.length ≤ 10000) : Spc Tryd.prog 57 [.v (.one (.p (.list .bytes l)))] [] (.ret (.v (.one (.row 0)))) [.row .byte 5 ((ckW l))] := by
  obtain ⟨hl, hb⟩ := hneed
  generalize hr : ckW l = r
  refine spcG tab_ok mixed Tryd.func57 (by kernel_rfl) { nr := [3], keep := some [0, 2, 3, 4] } [htxt__k, htxt__l] (by kernel_rfl) ?_
  intro I X hI hX
  refine ev_rule (.code 0 [1, 1, 0, 1, 0] ⟨[(4, (.v (.one (.p (.int .i64 0))))), (3, (.v (.one (.row 0)))), (2, (.v (.one .nilS))), (0, (.v (.one (.p (.list .bytes l)))))], [(.row .byte 5 ([] : List UInt8))], 36⟩) (by kernel_rfl) ?_
  simp only [inst_need, inst_br, inst_both, inst_fin, inst_qed, inst_stop, inst_code]
  refine loop_inv hI tab_ok mixed [htxt__k, htxt__l] hX [0, 3, 4] (fun (g : Nat × Str) => match g with | (i, o) => i ≤ l.length ∧ o = ckT (l.take i)) (fun (g : Nat × Str) => match g with | (i, o) => ⟨[(0, .v (.one (.p (.list .bytes l)))), (3, .v (.one (.row 0))), (4, .v (.one (.p (.int .i64 i))))], [.row .byte 5 o], 36⟩) (fun (g : Nat × Str) => match g with | (i, o) => l.length - i) (0, []) (by kernel_rfl) (by kernel_rfl) ?_ ?_
  · exact ⟨Nat.zero_le _, rfl⟩
  rintro ⟨i, o⟩ ⟨h1, h2⟩ A hA
  simp only at hA h1 h2
  refine ev_rule (let y4 := I.get (α := (List UInt8)) l ([] : List UInt8) (Nat.cast i); let y0 := I.len (α := UInt8) y4; let y1 := I.inb (Nat.cast i) (I.len (α := (List UInt8)) l); let y2 := I.hid (α := (List UInt8)) (hexS y0); let y3 := I.len (α := UInt8) (Array.toList (List.toArray ([13, 10] : List UInt8))); let y5 := I.inr Go.IntKind.i64 (I.add (Nat.cast i) 1); .br (I.ilt (Nat.cast i) (I.len (α := (List UInt8)) l)) (.need y1 (.need y1 (.br (I.ilt 0 y0) (.need y1 (.need y1 (.need (I.hid (α := (Prop)) (And (LE.le (0 : Int) y0) (LT.lt y0 (65536 : Int)))) (.need (I.few (I.add (I.len (α := UInt8) y2) y3) 1000000000) (.need (I.few (I.add (I.len (α := UInt8) o) (I.len (α := UInt8) (I.app (α := UInt8) y2 (Array.toList (List.toArray ([13, 10] : List UInt8)))))) 140737488355328) (.need y1 (.need y1 (.need (I.few (I.add (I.len (α := UInt8) (I.app (α := UInt8) o (I.app (α := UInt8) y2 (Array.toList (List.toArray ([13, 10] : List UInt8)))))) y0) 140737488355328) (.need (I.few (I.add (I.len (α := UInt8) (I.app (α := UInt8) (I.app (α := UInt8) o (I.app (α := UInt8) y2 (Array.toList (List.toArray ([13, 10] : List UInt8))))) y4)) y3) 140737488355328) (.need y5 (.need (A ⟨[(0, (.v (.one (.p (.list .bytes l))))), (3, (.v (.one (.row 0)))), (4, (.v (.one (.p (.int .i64 (I.add (Nat.cast i) 1))))))], [(.row .byte 5 (I.app (α := UInt8) (I.app (α := UInt8) (I.app (α := UInt8) o (I.app (α := UInt8) y2 (Array.toList (List.toArray ([13, 10] : List UInt8))))) y4) (Array.toList (List.toArray ([13, 10] : List UInt8)))))], 36⟩) .qed))))))))))) (.need y5 (.need (A ⟨[(0, (.v (.one (.p (.list .bytes l))))), (3, (.v (.one (.row 0)))), (4, (.v (.one (.p (.int .i64 (I.add (Nat.cast i) 1))))))], [(.row .byte 5 o)], 36⟩) .qed))))) (.need (I.few (I.add (I.len (α := UInt8) o) (I.len (α := UInt8) (Array.toList (List.toArray ([48, 13, 10, 13, 10] : List UInt8))))) 140737488355328) (.fin (.ret (.v (.one (.row 0)))) [(.row .byte 5 (I.app (α := UInt8) o (Array.toList (List.toArray ([48, 13, 10, 13, 10] : List UInt8)))))]))) (by kernel_rfl) ?_
  simp only [inst_need, inst_br, inst_both, inst_fin, inst_qed, inst_stop, inst_code]
  subst hI
  simp only [alg_b2i, alg_i2b, alg_add, alg_sub, alg_mul, alg_quo, alg_rem, alg_wrap, alg_imin, alg_imax, alg_ilt, alg_ile, alg_ieq, alg_bnot, alg_beq, alg_ban, alg_seq, alg_len, alg_app, alg_cut, alg_get, alg_set, alg_rep, alg_inr, alg_inb, alg_cutb, alg_same, alg_few, alg_nne, alg_nng, alg_hid, alg_shl, alg_shr, alg_bits, decide_eq_true_eq, decide_eq_false_iff_not, beq_iff_eq, beq_eq_false_iff_ne, Bool.not_eq_true', Bool.not_eq_false', Bool.and_eq_true, Bool.and_true, Bool.true_and, and_true, true_and, ne_eq, Int.toNat_zero, Nat.sub_zero, List.drop_zero, i64_min, i64_max, u8_min, u8_max, ofNat_b2i, b2i_inj, Int.toNat_natCast, Int.ofNat_eq_natCast, UInt8.ofNat_toNat, AOut.ret.injEq, D.v.injEq, D.tup.injEq, V0.one.injEq, C.p.injEq, P.bool.injEq, P.int.injEq, P.str.injEq, Bool.false_eq_true, Bool.true_eq_false, imp_false, Decidable.not_not, not_true_eq_false, not_false_eq_true, List.cons.injEq, P.list.injEq, HO.row.injEq, heq_eq_eq, reduceCtorEq, false_and, and_false]
  have htk := fun h => ckT_take (l := l) (i := i) h
  have hol := take_len hb hl i
  have hm : i < l.length → (l.getD i []).length ≤ 10000 := fun h => hb _ (by rw [show l.getD i [] = l[i] by simp [h]]; exact List.getElem_mem h)
  have hend : ¬ i < l.length → o ++ [48, 13, 10, 13, 10] = r := fun h => by
    rw [h2, List.take_of_length_le (by omega), ← hr]; rfl
  rw [← h2] at hol htk
  have hfin := fun h => hA (i + 1, _) ⟨by simp only; omega, (htk h).symm⟩ (by simp only; omega)
  clear hA htk
  generalize l.getD i [] = x at *
  have hx := hexS_len x.length
  unfold ck1 at hfin
  (repeat' (first | refine And.intro ?_ ?_ | intro _)) <;> first | omega | exact True.intro | exact False.elim ‹False› | skip
  all_goals first
    | exact hend (by omega)
    | (simp only [List.length_cons, List.length_nil]; omega)
    | (have := hm (by omega); omega)
    | (have := hm (by omega); simp only [List.length_append, List.length_cons, List.length_nil]; omega)
    | (have hfin := hfin (by omega); rw [if_neg (by rintro rfl; simp at *)] at hfin; simp only [← List.append_assoc] at hfin ⊢; exact hfin)
    | (have hfin := hfin (by omega); rw [if_pos (List.eq_nil_of_length_eq_zero (by omega)), List.append_nil] at hfin; exact hfin)
    | trace_state
def ckText__c (I : Alg) (args : List D) (hp : List HO) : Option CT := match args, hp with
  | [.v (.one (.p (.list .bytes l)))], [] => (fun (l : List Str) => (some (.one ⟨I.hid (l.length ≤ 1000 ∧ ∀ b ∈ l, b.length ≤ 10000), (.ret (.v (.one (.row 0)))), [.row .byte 5 (I.hid ((ckW l)))]⟩) : Option CT)) l
  | _, _ => none
theorem ckText__g : GoodC Tryd.prog 57 (ckText__c alg) := by
  intro args hp r h
  unfold ckText__c at h
  split at h
  · cases h; exact fun hn => ckText_ _ hn
  · cases h
def ckText__k : Know Tryd.prog := ⟨57, ckText__c, ckText__g⟩
def ckText__l : Know Tryd.prog := ⟨57, fun I => lendC I (ckText__c I), lendC_good ckText__g⟩


theorem numG_le : ∀ (s : Str) (n : Int), 0 ≤ n → (numG 16 n s).1 + 1 ≤ (n + 1) * 16 ^ s.length
  | [], n, h => by simp [numG]
  | c :: l, n, h => by
    have h16 : (0 : Int) < 16 ^ l.length := Int.pow_pos (by decide)
    have e : ((n + 1) * 16 ^ (c :: l).length : Int) = ((n + 1) * 16) * 16 ^ l.length := by rw [List.length_cons, Int.pow_succ, Int.mul_assoc, Int.mul_comm (16 ^ l.length) 16]
    rw [e, numG]
    split
    · have h1 : (1 : Int) * 1 ≤ ((n + 1) * 16) * 16 ^ l.length := Int.mul_le_mul (by omega) (by omega) (by decide) (by omega)
      simpa using h1
    · rename_i hc
      have h2 := numG_le l (n * 16 + hexK c.toNat) (by omega)
      exact Int.le_trans h2 (Int.mul_le_mul_of_nonneg_right (by omega) (by omega))
theorem sizeC_le (t : Str) : (sizeC t).1 ≤ 16777215 := by
  unfold sizeC numA
  split
  · exact by decide
  · rename_i h
    have h1 := numG_le (Lib.trimS (cutB t 59).1 [32, 9]) 0 (Int.le_refl _)
    have h2 : (Lib.trimS (cutB t 59).1 [32, 9]).length ≤ 6 := by omega
    have h3 : (16 : Int) ^ (Lib.trimS (cutB t 59).1 [32, 9]).length ≤ 16 ^ 6 := by
      have := Nat.pow_le_pow_right (show 0 < 16 by decide) h2
      exact_mod_cast this
    have h4 : (16 : Int) ^ 6 = 16777216 := by decide
    omega
theorem lineGo_len : ∀ (r pre : Str), (lineGo pre r).1.length ≤ pre.length + r.length
  | [], pre => by simp [lineGo]
  | c :: r, pre => by
    rw [lineGo.eq_def]
    simp only
    split
    · split
      · simp
      · split
        · simp
        · simp
    split
    · simp
    split
    · simp
    split
    · simp
    · have := lineGo_len r (pre ++ [c])
      rw [List.length_append] at this
      simp at this ⊢
      omega
theorem lineOf_len (r : Str) : (lineOf r).1.length ≤ r.length := by have := lineGo_len r []; simpa [lineOf] using this
theorem ChR.pre_outs (o : Str) (b : Str) (x : ChR) : outR (x.pre o) = o ++ outR x ∧ usedR b (x.pre o) = usedR b x ∧ isR (x.pre o) = isR x ∧ codeR (x.pre o) = codeR x := by
  cases x <;> exact ⟨rfl, rfl, rfl, rfl⟩
set_option maxHeartbeats 8000000 in
theorem ckOf_ (b : Str) (hneed : b.length ≤ 1000000) : Spc Tryd.prog 58 [.v (.one (.p (.list .byte b)))] [] (.ret (.tup [(.one (.row 0)), (.one (.p (.int .i64 ((usedR b (chunksR b)))))), (.one (.p (.bool ((isR (chunksR b)))))), (.one (.p (.int .i64 ((codeR (chunksR b))))))])) [.row .byte 5 ((outR (chunksR b)))] := by
  generalize hR : chunksR b = R
  generalize ho : outR R = ro
  generalize hu : usedR b R = ru
  generalize hs : isR R = rs
  generalize hc : codeR R = rc
  refine spcG tab_ok mixed Tryd.func58 (by kernel_rfl) { nr := [6], keep := some [0, 2, 3, 4, 5, 6, 7, 8, 9, 10, 11, 12, 13, 14, 15, 16, 17, 18, 19, 21] } [trimmed__k, trimmed__l, findFirst__k, findFirst__l, hexNumberOf__k, hexNumberOf__l, fieldOf__k, fieldOf__l, lineOf__k, lineOf__l] (by kernel_rfl) ?_
  intro I X hI hX
  refine ev_rule (.code 0 [1, 1, 1, 0, 0] ⟨[(7, (.v (.one (.p (.int .i64 0))))), (6, (.v (.one (.row 0)))), (5, (.v (.one (.p (.int .i64 0))))), (4, (.v (.one (.p (.val (.bool .false)))))), (3, (.v (.one (.p (.int .i64 0))))), (2, (.v (.one .nilS))), (0, (.v (.one (.p (.list .byte b)))))], [(.row .byte 5 ([] : List UInt8))], 166⟩) (by kernel_rfl) ?_
  simp only [inst_need, inst_br, inst_both, inst_fin, inst_qed, inst_stop, inst_code]
  refine loop_inv hI tab_ok mixed [trimmed__k, trimmed__l, findFirst__k, findFirst__l, hexNumberOf__k, hexNumberOf__l, fieldOf__k, fieldOf__l, lineOf__k, lineOf__l] hX [0, 6, 7] (fun (g : Nat × Str) => match g with | (i, o) => i ≤ b.length ∧ o.length ≤ 4000 ∧ ∃ f, (b.drop i).length < f ∧ (bodyR f o.length (b.drop i)).pre o = R) (fun (g : Nat × Str) => match g with | (i, o) => ⟨[(0, .v (.one (.p (.list .byte b)))), (6, .v (.one (.row 0))), (7, .v (.one (.p (.int .i64 i))))], [.row .byte 5 o], 166⟩) (fun (g : Nat × Str) => match g with | (i, o) => b.length - i) (0, []) (by kernel_rfl) (by kernel_rfl) ?_ ?_
  · exact ⟨Nat.zero_le _, Nat.zero_le _, b.length + 1, Nat.lt_succ_self _, by rw [ChR.pre_nil]; exact hR⟩
  rintro ⟨i, o⟩ ⟨h1, h2, f, h3, h4⟩ A hA
  simp only at hA h1 h2 h3 h4
  refine ev_rule (let y2 := I.cut (α := UInt8) b (Int.ofNat i) (I.len (α := UInt8) b); let y23 := I.hid (α := Int) (Prod.fst (Prod.snd (lineOf y2))); let y3 := I.add (Nat.cast i) y23; let y5 := I.hid (α := (List UInt8)) (Prod.fst (lineOf y2)); let y10 := I.hid (α := Int) (findAt (Array.toList (List.toArray ([59] : List UInt8))) y5 (0 : Int)); let y4 := I.cut (α := UInt8) y5 0 y10; let y8 := I.hid (α := Int) (Prod.fst (numA (I.hid (α := (List UInt8)) (Go.Lib.trimS y4 ([32, 9] : List UInt8))) (16 : Int) (6 : Int))); let y0 := I.add y3 y8; let y9 := I.hid (α := Int) (Prod.fst (numA (I.hid (α := (List UInt8)) (Go.Lib.trimS y5 ([32, 9] : List UInt8))) (16 : Int) (6 : Int))); let y1 := I.add y3 y9; let y12 := I.cut (α := UInt8) b y0 (I.len (α := UInt8) b); let y6 := I.add y0 (I.hid (α := Int) (Prod.fst (Prod.snd (lineOf y12)))); let y13 := I.cut (α := UInt8) b y1 (I.len (α := UInt8) b); let y7 := I.add y1 (I.hid (α := Int) (Prod.fst (Prod.snd (lineOf y13)))); let y11 := I.hid (α := Int) (Prod.snd (Prod.snd (Prod.snd (lineOf y2)))); let y14 := I.cut (α := UInt8) b y3 (I.len (α := UInt8) b); let y15 := I.hid (α := Bool) (Prod.snd (numA (I.hid (α := (List UInt8)) (Go.Lib.trimS y4 ([32, 9] : List UInt8))) (16 : Int) (6 : Int))); let y16 := I.hid (α := Bool) (Prod.snd (numA (I.hid (α := (List UInt8)) (Go.Lib.trimS y5 ([32, 9] : List UInt8))) (16 : Int) (6 : Int))); let y17 := I.hid (α := Bool) (Prod.fst (Prod.snd (Prod.snd (lineOf y2)))); let y18 := I.hid (α := Int) (Prod.snd (Prod.snd (Prod.snd (lineOf y12)))); let y19 := I.hid (α := Int) (Prod.snd (Prod.snd (Prod.snd (lineOf y13)))); let y20 := I.few (I.add (I.len (α := UInt8) o) (I.len (α := UInt8) y14)) 140737488355328; let y21 := I.cutb y3 (I.len (α := UInt8) b) (I.len (α := UInt8) b); let y22 := I.inr Go.IntKind.i64 (I.sub (I.len (α := UInt8) b) y3); .need (I.cutb (Int.ofNat i) (I.len (α := UInt8) b) (I.len (α := UInt8) b)) (.need (I.hid (α := (Prop)) (LE.le (List.length y2) 1000000)) (.br (I.bnot (I.ieq y11 0)) (.need (I.inr Go.IntKind.i64 y3) (.fin (.ret (.tup [(.one (.row 0)), (.one (.p (.int .i64 y3))), (.one (.p (.bool Bool.false))), (.one (.p (.int .i64 y11)))])) [(.row .byte 5 o)])) (.br (I.bnot y17) (.need (I.inr Go.IntKind.i64 y3) (.fin (.ret (.tup [(.one (.row 0)), (.one (.p (.int .i64 y3))), (.one (.p (.bool Bool.false))), (.one (.p (.int .i64 y11)))])) [(.row .byte 5 o)])) (.need (I.inr Go.IntKind.i64 y3) (.need (I.hid (α := (Prop)) (And (LE.le (List.length y5) 1000000) (LE.le (List.length (Array.toList (List.toArray ([59] : List UInt8)))) 1000000))) (.br (I.ile 0 y10) (.need (I.cutb 0 y10 (I.len (α := UInt8) y5)) (.need (I.hid (α := (Prop)) (LE.le (List.length y4) 1000000)) (.need (I.hid (α := (Prop)) True) (.br (I.bnot y15) (.fin (.ret (.tup [(.one (.row 0)), (.one (.p (.int .i64 y3))), (.one (.p (.bool Bool.false))), (.one (.p (.int .i64 7)))])) [(.row .byte 5 o)]) (.need (I.inr Go.IntKind.i64 (I.add (I.len (α := UInt8) o) y8)) (.br (I.ilt 4000 (I.add (I.len (α := UInt8) o) y8)) (.fin (.ret (.tup [(.one (.row 0)), (.one (.p (.int .i64 y3))), (.one (.p (.bool Bool.false))), (.one (.p (.int .i64 4)))])) [(.row .byte 5 o)]) (.br (I.ieq y8 0) (.code 1 [1, 1, 1, 1, 1, 0] ⟨[(15, (.v (.one (.p (.int .i64 0))))), (14, (.v (.one (.p (.bool y15))))), (13, (.v (.one (.p (.int .i64 y8))))), (8, (.v (.one (.p (.str y4))))), (12, (.v (.one (.p (.int .i64 y10))))), (7, (.v (.one (.p (.int .i64 y3))))), (11, (.v (.one (.p (.int .i64 y11))))), (10, (.v (.one (.p (.bool y17))))), (9, (.v (.one (.p (.int .i64 y23))))), (0, (.v (.one (.p (.list .byte b))))), (6, (.v (.one (.row 0))))], [(.row .byte 5 o), (.row .byte 5 y5)], 166⟩) (.need y22 (.br (I.ilt (I.sub (I.len (α := UInt8) b) y3) y8) (.need y21 (.need y20 (.fin (.ret (.tup [(.one (.row 0)), (.one (.p (.int .i64 (I.len (α := UInt8) b)))), (.one (.p (.bool Bool.false))), (.one (.p (.int .i64 0)))])) [(.row .byte 5 (I.app (α := UInt8) o y14))]))) (.need (I.inr Go.IntKind.i64 y0) (.need (I.cutb y3 y0 (I.len (α := UInt8) b)) (.need (I.few (I.add (I.len (α := UInt8) o) (I.len (α := UInt8) (I.cut (α := UInt8) b y3 y0))) 140737488355328) (.need (I.inr Go.IntKind.i64 y0) (.need (I.cutb y0 (I.len (α := UInt8) b) (I.len (α := UInt8) b)) (.need (I.hid (α := (Prop)) (LE.le (List.length y12) 1000000)) (.br (I.bnot (I.ieq y18 0)) (.need (I.inr Go.IntKind.i64 y6) (.fin (.ret (.tup [(.one (.row 0)), (.one (.p (.int .i64 y6))), (.one (.p (.bool Bool.false))), (.one (.p (.int .i64 y18)))])) [(.row .byte 5 (I.app (α := UInt8) o (I.cut (α := UInt8) b y3 y0)))])) (.br (I.bnot (I.hid (α := Bool) (Prod.fst (Prod.snd (Prod.snd (lineOf y12)))))) (.need (I.inr Go.IntKind.i64 y6) (.fin (.ret (.tup [(.one (.row 0)), (.one (.p (.int .i64 y6))), (.one (.p (.bool Bool.false))), (.one (.p (.int .i64 y18)))])) [(.row .byte 5 (I.app (α := UInt8) o (I.cut (α := UInt8) b y3 y0)))])) (.need (I.inr Go.IntKind.i64 y6) (.br (I.bnot (I.seq (I.hid (α := (List UInt8)) (Prod.fst (lineOf y12))) (Array.toList (List.toArray ([] : List UInt8))))) (.fin (.ret (.tup [(.one (.row 0)), (.one (.p (.int .i64 y6))), (.one (.p (.bool Bool.false))), (.one (.p (.int .i64 5)))])) [(.row .byte 5 (I.app (α := UInt8) o (I.cut (α := UInt8) b y3 y0)))]) (.need (A ⟨[(0, (.v (.one (.p (.list .byte b))))), (6, (.v (.one (.row 0)))), (7, (.v (.one (.p (.int .i64 y6)))))], [(.row .byte 5 (I.app (α := UInt8) o (I.cut (α := UInt8) b y3 y0)))], 166⟩) .qed)))))))))))))))))))) (.need (I.hid (α := (Prop)) (LE.le (List.length y5) 1000000)) (.need (I.hid (α := (Prop)) True) (.br (I.bnot y16) (.fin (.ret (.tup [(.one (.row 0)), (.one (.p (.int .i64 y3))), (.one (.p (.bool Bool.false))), (.one (.p (.int .i64 7)))])) [(.row .byte 5 o)]) (.need (I.inr Go.IntKind.i64 (I.add (I.len (α := UInt8) o) y9)) (.br (I.ilt 4000 (I.add (I.len (α := UInt8) o) y9)) (.fin (.ret (.tup [(.one (.row 0)), (.one (.p (.int .i64 y3))), (.one (.p (.bool Bool.false))), (.one (.p (.int .i64 4)))])) [(.row .byte 5 o)]) (.br (I.ieq y9 0) (.code 1 [1, 1, 1, 1, 1, 0] ⟨[(15, (.v (.one (.p (.int .i64 0))))), (14, (.v (.one (.p (.bool y16))))), (13, (.v (.one (.p (.int .i64 y9))))), (12, (.v (.one (.p (.int .i64 y10))))), (7, (.v (.one (.p (.int .i64 y3))))), (11, (.v (.one (.p (.int .i64 y11))))), (10, (.v (.one (.p (.bool y17))))), (9, (.v (.one (.p (.int .i64 y23))))), (8, (.v (.one (.p (.str y5))))), (0, (.v (.one (.p (.list .byte b))))), (6, (.v (.one (.row 0))))], [(.row .byte 5 o), (.row .byte 5 y5)], 166⟩) (.need y22 (.br (I.ilt (I.sub (I.len (α := UInt8) b) y3) y9) (.need y21 (.need y20 (.fin (.ret (.tup [(.one (.row 0)), (.one (.p (.int .i64 (I.len (α := UInt8) b)))), (.one (.p (.bool Bool.false))), (.one (.p (.int .i64 0)))])) [(.row .byte 5 (I.app (α := UInt8) o y14))]))) (.need (I.inr Go.IntKind.i64 y1) (.need (I.cutb y3 y1 (I.len (α := UInt8) b)) (.need (I.few (I.add (I.len (α := UInt8) o) (I.len (α := UInt8) (I.cut (α := UInt8) b y3 y1))) 140737488355328) (.need (I.inr Go.IntKind.i64 y1) (.need (I.cutb y1 (I.len (α := UInt8) b) (I.len (α := UInt8) b)) (.need (I.hid (α := (Prop)) (LE.le (List.length y13) 1000000)) (.br (I.bnot (I.ieq y19 0)) (.need (I.inr Go.IntKind.i64 y7) (.fin (.ret (.tup [(.one (.row 0)), (.one (.p (.int .i64 y7))), (.one (.p (.bool Bool.false))), (.one (.p (.int .i64 y19)))])) [(.row .byte 5 (I.app (α := UInt8) o (I.cut (α := UInt8) b y3 y1)))])) (.br (I.bnot (I.hid (α := Bool) (Prod.fst (Prod.snd (Prod.snd (lineOf y13)))))) (.need (I.inr Go.IntKind.i64 y7) (.fin (.ret (.tup [(.one (.row 0)), (.one (.p (.int .i64 y7))), (.one (.p (.bool Bool.false))), (.one (.p (.int .i64 y19)))])) [(.row .byte 5 (I.app (α := UInt8) o (I.cut (α := UInt8) b y3 y1)))])) (.need (I.inr Go.IntKind.i64 y7) (.br (I.bnot (I.seq (I.hid (α := (List UInt8)) (Prod.fst (lineOf y13))) (Array.toList (List.toArray ([] : List UInt8))))) (.fin (.ret (.tup [(.one (.row 0)), (.one (.p (.int .i64 y7))), (.one (.p (.bool Bool.false))), (.one (.p (.int .i64 5)))])) [(.row .byte 5 (I.app (α := UInt8) o (I.cut (α := UInt8) b y3 y1)))]) (.need (A ⟨[(0, (.v (.one (.p (.list .byte b))))), (6, (.v (.one (.row 0)))), (7, (.v (.one (.p (.int .i64 y7)))))], [(.row .byte 5 (I.app (α := UInt8) o (I.cut (α := UInt8) b y3 y1)))], 166⟩) .qed)))))))))))))))))))))))))) (by kernel_rfl) ?_
  simp only [inst_need, inst_br, inst_both, inst_fin, inst_qed, inst_stop, inst_code]
  have hh : ∀ {α : Type} (x : α), I.hid x = x := by subst hI; intros; rfl
  have hcut : ∀ j : Nat, I.cut b (j : Int) (I.len b) = b.drop j := fun j => by
    subst hI
    rw [alg_cut, alg_len, Int.toNat_natCast, Int.toNat_natCast]
    exact List.take_of_length_le (by rw [List.length_drop]; exact Nat.le_refl _)
  have hadd : ∀ j k : Nat, I.add (j : Int) (k : Int) = ((j + k : Nat) : Int) := fun j k => by subst hI; rw [alg_add]; omega
  have hcut0 : I.cut b (Int.ofNat i) (I.len b) = b.drop i := hcut i
  simp only [hcut0, hh]
  obtain ⟨n, hn, hn1, hn2, hn3, hn4⟩ := lineOf_n (b.drop i)
  obtain ⟨f, rfl⟩ : ∃ f', f = f' + 1 := ⟨f - 1, by omega⟩
  rw [bodyR] at h4
  rw [List.length_drop] at h3 hn1
  simp only [hn, hadd, Int.toNat_natCast, List.drop_drop] at h4 ⊢
  have hll := lineOf_len (b.drop i)
  rw [List.length_drop] at hll
  generalize lineOf (b.drop i) = x at *
  obtain ⟨t, n', ok, e⟩ := x
  simp only at *
  subst hn
  have hfc : findAt [59] t 0 = Lib.indexByte t 59 := by
    rw [findAt_one]
    split
    · rename_i h; rw [h]
    · omega
  have hix := indexByte_le t 59
  rw [hfc]
  have hcl := (cutB_len t 59).1
  have hm0 := sizeC_nonneg t
  have hsz : numA (Lib.trimS (cutB t 59).1 [32, 9]) 16 6 = sizeC t := rfl
  obtain ⟨m, okm, hz⟩ : ∃ (m : Nat) (okm : Bool), sizeC t = ((m : Int), okm) := ⟨(sizeC t).1.toNat, (sizeC t).2, Prod.ext (by simp only; omega) rfl⟩
  rw [hz] at hsz hm0 h4
  have hc1 : 0 ≤ Lib.indexByte t 59 → I.cut t 0 (Lib.indexByte t 59) = (cutB t 59).1 := fun h => by
    subst hI
    rw [cutB, if_pos h, alg_cut]; simp
  have hc2 : ¬ 0 ≤ Lib.indexByte t 59 → (cutB t 59).1 = t := fun h => by rw [cutB, if_neg h]
  have hcut4 : I.cut b ((i + n : Nat) : Int) ((i + n + m : Nat) : Int) = (b.drop (i + n)).take m := by
    subst hI
    rw [alg_cut, Int.toNat_natCast, Int.toNat_natCast, Nat.add_sub_cancel_left]
  obtain ⟨n2, gn, gn1, gn2, gn3, gn4⟩ := lineOf_n (b.drop (i + n + m))
  have gll := lineOf_len (b.drop (i + n + m))
  rw [List.length_drop] at gll gn1
  simp only [Int.toNat_natCast, List.drop_drop] at h4
  unfold endR at h4
  obtain ⟨t2, n2', ok2, e3, hx2⟩ : ∃ t2 n2' ok2 e3, lineOf (b.drop (i + n + m)) = (t2, n2', ok2, e3) := ⟨_, _, _, _, rfl⟩
  rw [hx2] at gn gn2 gn3 gn4 gll h4
  simp only at gn gn2 gn3 gn4 gll h4
  subst gn
  simp only [Int.toNat_natCast, List.drop_drop] at h4
  have e1t : 0 ≤ Lib.indexByte t 59 → I.ile 0 (Lib.indexByte t 59) = true := fun h => by subst hI; exact decide_eq_true h
  have e1f : ¬ 0 ≤ Lib.indexByte t 59 → I.ile 0 (Lib.indexByte t 59) = false := fun h => by subst hI; exact decide_eq_false h
  have hm1 : m ≤ 16777215 := by have := sizeC_le t; rw [hz] at this; simp only at this; omega
  apply share1
  · intro key
    by_cases hk : 0 ≤ Lib.indexByte t 59
    all_goals first
      | (have e1 := e1t hk
         have e2 := hc1 hk
         simp only [e1, e2, hsz, hadd, hcut, hcut4, hx2, Bool.true_eq_false, false_implies, and_true, true_implies])
      | (have e1 := e1f hk
         have e2 := hc2 hk
         rw [e2] at hsz
         simp only [e1, hsz, hadd, hcut, hcut4, hx2, Bool.false_eq_true, false_implies, true_and, true_implies])
    all_goals (repeat' (first | refine And.intro ?_ ?_ | intro _))
    all_goals first
      | (clear key; subst hI; (simp only [alg_b2i, alg_i2b, alg_add, alg_sub, alg_mul, alg_quo, alg_rem, alg_wrap, alg_imin, alg_imax, alg_ilt, alg_ile, alg_ieq, alg_bnot, alg_beq, alg_ban, alg_seq, alg_len, alg_app, alg_cut, alg_get, alg_set, alg_rep, alg_inr, alg_inb, alg_cutb, alg_same, alg_few, alg_nne, alg_nng, alg_hid, alg_shl, alg_shr, alg_bits, decide_eq_true_eq, decide_eq_false_iff_not, beq_iff_eq, beq_eq_false_iff_ne, Bool.not_eq_true', Bool.not_eq_false', Bool.and_eq_true, Bool.and_true, Bool.true_and, and_true, true_and, ne_eq, Int.toNat_zero, Nat.sub_zero, List.drop_zero, i64_min, i64_max, u8_min, u8_max, ofNat_b2i, b2i_inj, Int.toNat_natCast, Int.ofNat_eq_natCast, UInt8.ofNat_toNat, AOut.ret.injEq, D.v.injEq, D.tup.injEq, V0.one.injEq, C.p.injEq, P.bool.injEq, P.int.injEq, P.str.injEq, Bool.false_eq_true, Bool.true_eq_false, imp_false, Decidable.not_not, not_true_eq_false, not_false_eq_true, List.cons.injEq, P.list.injEq, HO.row.injEq, heq_eq_eq, reduceCtorEq, false_and, and_false] at *); first
        | done
        | omega
        | (simp only [List.length_take, List.length_drop, List.length_cons, List.length_nil]; omega)
        | ((repeat (first | rewrite [if_pos (by first | omega | assumption | (simp only [*, or_self, or_true, true_or, or_false, false_or, not_true_eq_false, not_false_eq_true, Bool.false_eq_true, Bool.true_eq_false, and_self, and_true, true_and]; done) | (simp only [*]; omega) | (simp [*]; done) | (simp [*]; omega))] at h4 | rewrite [if_neg (by first | omega | assumption | (simp only [*, or_self, or_true, true_or, or_false, false_or, not_true_eq_false, not_false_eq_true, Bool.false_eq_true, Bool.true_eq_false, and_self, and_true, true_and]; done) | (simp only [*]; omega) | (simp [*]; done) | (simp [*]; omega))] at h4)); subst h4; simp only [ChR.pre, outR, usedR, isR, codeR, List.append_nil] at ho hu hs hc; subst ho; subst hu; subst hs; subst hc; first | done | rfl | (simp; done) | (simp; omega) | (simp only [List.length_drop]; omega))
        | ((repeat (first | rewrite [if_pos (by first | omega | assumption | (simp only [*, or_self, or_true, true_or, or_false, false_or, not_true_eq_false, not_false_eq_true, Bool.false_eq_true, Bool.true_eq_false, and_self, and_true, true_and]; done) | (simp only [*]; omega) | (simp [*]; done) | (simp [*]; omega))] at h4 | rewrite [if_neg (by first | omega | assumption | (simp only [*, or_self, or_true, true_or, or_false, false_or, not_true_eq_false, not_false_eq_true, Bool.false_eq_true, Bool.true_eq_false, and_self, and_true, true_and]; done) | (simp only [*]; omega) | (simp [*]; done) | (simp [*]; omega))] at h4)); subst h4; simp only [ChR.pre, outR, usedR, isR, codeR, List.append_nil] at ho hu hs hc; subst ho; subst hu; subst hs; subst hc; first
            | (have hn0 := hn3 ‹ok = false› ‹e = 0›; simp only [List.length_drop, true_and, and_true]; omega)
            | (have hn0 := gn3 ‹ok2 = false› ‹e3 = 0›; simp only [List.length_drop, true_and, and_true]; omega))
        | ((repeat (first | rewrite [if_pos (by first | omega | assumption | (simp only [*, or_self, or_true, true_or, or_false, false_or, not_true_eq_false, not_false_eq_true, Bool.false_eq_true, Bool.true_eq_false, and_self, and_true, true_and]; done) | (simp only [*]; omega) | (simp [*]; done) | (simp [*]; omega))] at h4 | rewrite [if_neg (by first | omega | assumption | (simp only [*, or_self, or_true, true_or, or_false, false_or, not_true_eq_false, not_false_eq_true, Bool.false_eq_true, Bool.true_eq_false, and_self, and_true, true_and]; done) | (simp only [*]; omega) | (simp [*]; done) | (simp [*]; omega))] at h4))
           rw [ChR.pre_pre] at h4
           have hl : (o ++ (b.drop (i + n)).take m).length = o.length + m := by rw [List.length_append, List.length_take, List.length_drop]; omega
           exact hA (i + n + m + n2, o ++ (b.drop (i + n)).take m) ⟨by simp only; omega, by simp only; omega, f, by simp only; rw [List.length_drop]; omega, by simp only [hl]; exact h4⟩ (by simp only; omega)))
      | skip
    all_goals
      refine loop_inv hI tab_ok mixed [trimmed__k, trimmed__l, findFirst__k, findFirst__l, hexNumberOf__k, hexNumberOf__l, fieldOf__k, fieldOf__l, lineOf__k, lineOf__l] hX [0, 6, 7, 15] (fun (g : Nat × Nat) => match g with | (j, c) => j ≤ b.length ∧ c ≤ 16 ∧ ∃ f, (b.drop j).length < f ∧ (tailR f c (b.drop j)).pre o = R) (fun (g : Nat × Nat) => match g with | (j, c) => ⟨[(0, .v (.one (.p (.list .byte b)))), (6, .v (.one (.row 0))), (7, .v (.one (.p (.int .i64 j)))), (15, .v (.one (.p (.int .i64 c))))], [.row .byte 5 o], 166⟩) (fun (g : Nat × Nat) => match g with | (j, c) => b.length - j) (i + n, 0) (by kernel_rfl) (by kernel_rfl) ?_ ?_
      · clear key
        subst hI
        simp only [alg_b2i, alg_i2b, alg_add, alg_sub, alg_mul, alg_quo, alg_rem, alg_wrap, alg_imin, alg_imax, alg_ilt, alg_ile, alg_ieq, alg_bnot, alg_beq, alg_ban, alg_seq, alg_len, alg_app, alg_cut, alg_get, alg_set, alg_rep, alg_inr, alg_inb, alg_cutb, alg_same, alg_few, alg_nne, alg_nng, alg_hid, alg_shl, alg_shr, alg_bits, decide_eq_true_eq, decide_eq_false_iff_not, beq_iff_eq, beq_eq_false_iff_ne, Bool.not_eq_true', Bool.not_eq_false', Bool.and_eq_true, Bool.and_true, Bool.true_and, and_true, true_and, ne_eq, Int.toNat_zero, Nat.sub_zero, List.drop_zero, i64_min, i64_max, u8_min, u8_max, ofNat_b2i, b2i_inj, Int.toNat_natCast, Int.ofNat_eq_natCast, UInt8.ofNat_toNat, AOut.ret.injEq, D.v.injEq, D.tup.injEq, V0.one.injEq, C.p.injEq, P.bool.injEq, P.int.injEq, P.str.injEq, Bool.false_eq_true, Bool.true_eq_false, imp_false, Decidable.not_not, not_true_eq_false, not_false_eq_true] at *
        have hnp := hn2 (.inl ‹ok = true›)
        refine ⟨by omega, by decide, f, by rw [List.length_drop]; omega, ?_⟩
        (repeat (first | rewrite [if_pos (by first | omega | assumption | (simp only [*, or_self, or_true, true_or, or_false, false_or, not_true_eq_false, not_false_eq_true, Bool.false_eq_true, Bool.true_eq_false, and_self, and_true, true_and]; done) | (simp only [*]; omega) | (simp [*]; done) | (simp [*]; omega))] at h4 | rewrite [if_neg (by first | omega | assumption | (simp only [*, or_self, or_true, true_or, or_false, false_or, not_true_eq_false, not_false_eq_true, Bool.false_eq_true, Bool.true_eq_false, and_self, and_true, true_and]; done) | (simp only [*]; omega) | (simp [*]; done) | (simp [*]; omega))] at h4))
        exact h4
      exact key
  rintro ⟨j, c⟩ ⟨g1, g2, f2, g3, g4⟩ B hB
  simp only at hB g1 g2 g3 g4
  have hcutj : I.cut b (Int.ofNat j) (I.len b) = b.drop j := hcut j
  clear hA
  refine ev_rule (let y1 := I.cut (α := UInt8) b (Int.ofNat j) (I.len (α := UInt8) b); let y0 := I.add (Nat.cast j) (I.hid (α := Int) (Prod.fst (Prod.snd (lineOf y1)))); let y2 := I.hid (α := (List UInt8)) (Prod.fst (lineOf y1)); let y3 := I.hid (α := Int) (Prod.snd (Prod.snd (Prod.snd (lineOf y1)))); let y4 := I.hid (α := Int) (Prod.snd (parseF y2)); .need (I.cutb (Int.ofNat j) (I.len (α := UInt8) b) (I.len (α := UInt8) b)) (.need (I.hid (α := (Prop)) (LE.le (List.length y1) 1000000)) (.br (I.bnot (I.ieq y3 0)) (.need (I.inr Go.IntKind.i64 y0) (.fin (.ret (.tup [(.one (.row 0)), (.one (.p (.int .i64 y0))), (.one (.p (.bool Bool.false))), (.one (.p (.int .i64 y3)))])) [(.row .byte 5 o)])) (.br (I.bnot (I.hid (α := Bool) (Prod.fst (Prod.snd (Prod.snd (lineOf y1)))))) (.need (I.inr Go.IntKind.i64 y0) (.fin (.ret (.tup [(.one (.row 0)), (.one (.p (.int .i64 y0))), (.one (.p (.bool Bool.false))), (.one (.p (.int .i64 y3)))])) [(.row .byte 5 o)])) (.need (I.inr Go.IntKind.i64 y0) (.br (I.seq y2 (Array.toList (List.toArray ([] : List UInt8)))) (.fin (.ret (.tup [(.one (.row 0)), (.one (.p (.int .i64 y0))), (.one (.p (.bool Bool.true))), (.one (.p (.int .i64 0)))])) [(.row .byte 5 o)]) (.br (I.ieq (Nat.cast c) 16) (.fin (.ret (.tup [(.one (.row 0)), (.one (.p (.int .i64 y0))), (.one (.p (.bool Bool.false))), (.one (.p (.int .i64 8)))])) [(.row .byte 5 o)]) (.need (I.hid (α := (Prop)) (LE.le (List.length y2) 1000000)) (.br (I.bnot (I.ieq y4 0)) (.fin (.ret (.tup [(.one (.row 0)), (.one (.p (.int .i64 y0))), (.one (.p (.bool Bool.false))), (.one (.p (.int .i64 y4)))])) [(.row .byte 5 o)]) (.need (I.inr Go.IntKind.i64 (I.add (Nat.cast c) 1)) (.need (B ⟨[(0, (.v (.one (.p (.list .byte b))))), (6, (.v (.one (.row 0)))), (7, (.v (.one (.p (.int .i64 y0))))), (15, (.v (.one (.p (.int .i64 (I.add (Nat.cast c) 1))))))], [(.row .byte 5 o)], 166⟩) .qed))))))))))) (by kernel_rfl) ?_
  simp only [inst_need, inst_br, inst_both, inst_fin, inst_qed, inst_stop, inst_code]
  simp only [hcutj, hh]
  obtain ⟨q, qn, q1, q2, q3, q4⟩ := lineOf_n (b.drop j)
  obtain ⟨f2, rfl⟩ : ∃ f', f2 = f' + 1 := ⟨f2 - 1, by omega⟩
  rw [tailR] at g4
  have qll := lineOf_len (b.drop j)
  rw [List.length_drop] at g3 q1 qll
  simp only [qn, hadd, Int.toNat_natCast, List.drop_drop] at g4 ⊢
  generalize lineOf (b.drop j) = x at *
  obtain ⟨t', n', ok', e'⟩ := x
  simp only at *
  subst qn
  (repeat' (first | refine And.intro ?_ ?_ | intro _))
  all_goals subst hI
  all_goals (simp only [alg_b2i, alg_i2b, alg_add, alg_sub, alg_mul, alg_quo, alg_rem, alg_wrap, alg_imin, alg_imax, alg_ilt, alg_ile, alg_ieq, alg_bnot, alg_beq, alg_ban, alg_seq, alg_len, alg_app, alg_cut, alg_get, alg_set, alg_rep, alg_inr, alg_inb, alg_cutb, alg_same, alg_few, alg_nne, alg_nng, alg_hid, alg_shl, alg_shr, alg_bits, decide_eq_true_eq, decide_eq_false_iff_not, beq_iff_eq, beq_eq_false_iff_ne, Bool.not_eq_true', Bool.not_eq_false', Bool.and_eq_true, Bool.and_true, Bool.true_and, and_true, true_and, ne_eq, Int.toNat_zero, Nat.sub_zero, List.drop_zero, i64_min, i64_max, u8_min, u8_max, ofNat_b2i, b2i_inj, Int.toNat_natCast, Int.ofNat_eq_natCast, UInt8.ofNat_toNat, AOut.ret.injEq, D.v.injEq, D.tup.injEq, V0.one.injEq, C.p.injEq, P.bool.injEq, P.int.injEq, P.str.injEq, Bool.false_eq_true, Bool.true_eq_false, imp_false, Decidable.not_not, not_true_eq_false, not_false_eq_true, List.cons.injEq, P.list.injEq, HO.row.injEq, heq_eq_eq, reduceCtorEq, false_and, and_false] at *)
  all_goals first
    | done
    | omega
    | (simp only [List.length_take, List.length_drop, List.length_cons, List.length_nil]; omega)
    | ((repeat (first | rewrite [if_pos (by first | omega | assumption | (simp only [*, or_self, or_true, true_or, or_false, false_or, not_true_eq_false, not_false_eq_true, Bool.false_eq_true, Bool.true_eq_false, and_self, and_true, true_and]; done) | (simp only [*]; omega) | (simp [*]; done) | (simp [*]; omega))] at g4 | rewrite [if_neg (by first | omega | assumption | (simp only [*, or_self, or_true, true_or, or_false, false_or, not_true_eq_false, not_false_eq_true, Bool.false_eq_true, Bool.true_eq_false, and_self, and_true, true_and]; done) | (simp only [*]; omega) | (simp [*]; done) | (simp [*]; omega))] at g4)); subst g4; simp only [ChR.pre, outR, usedR, isR, codeR, List.append_nil] at ho hu hs hc; subst ho; subst hu; subst hs; subst hc; first | done | rfl | (simp; done) | (simp; omega) | (simp only [List.length_drop]; omega) | (have hn0 := q3 ‹ok' = false› ‹e' = 0›; simp only [List.length_drop, true_and, and_true]; omega))
    | ((repeat (first | rewrite [if_pos (by first | omega | assumption | (simp only [*, or_self, or_true, true_or, or_false, false_or, not_true_eq_false, not_false_eq_true, Bool.false_eq_true, Bool.true_eq_false, and_self, and_true, true_and]; done) | (simp only [*]; omega) | (simp [*]; done) | (simp [*]; omega))] at g4 | rewrite [if_neg (by first | omega | assumption | (simp only [*, or_self, or_true, true_or, or_false, false_or, not_true_eq_false, not_false_eq_true, Bool.false_eq_true, Bool.true_eq_false, and_self, and_true, true_and]; done) | (simp only [*]; omega) | (simp [*]; done) | (simp [*]; omega))] at g4))
       exact hB (j + q, c + 1) ⟨by simp only; omega, by simp only; omega, f2, by simp only; rw [List.length_drop]; have := q2 (.inl ‹ok' = true›); omega, by simp only; rw [Int.natCast_add]; exact g4⟩ (by simp only; have := q2 (.inl ‹ok' = true›); omega))
    | trace_state
def ckOf__c (I : Alg) (args : List D) (hp : List HO) : Option CT := match args, hp with
  | [.v (.one (.p (.list .byte b)))], [] => (fun (b : Str) => (some (.one ⟨I.hid (b.length ≤ 1000000), (.ret (.tup [(.one (.row 0)), (.one (.p (.int .i64 (I.hid ((usedR b (chunksR b))))))), (.one (.p (.bool (I.hid ((isR (chunksR b))))))), (.one (.p (.int .i64 (I.hid ((codeR (chunksR b)))))))])), [.row .byte 5 (I.hid ((outR (chunksR b))))]⟩) : Option CT)) b
  | _, _ => none
theorem ckOf__g : GoodC Tryd.prog 58 (ckOf__c alg) := by
  intro args hp r h
  unfold ckOf__c at h
  split at h
  · cases h; exact fun hn => ckOf_ _ hn
  · cases h
def ckOf__k : Know Tryd.prog := ⟨58, ckOf__c, ckOf__g⟩
def ckOf__l : Know Tryd.prog := ⟨58, fun I => lendC I (ckOf__c I), lendC_good ckOf__g⟩
end Go.Proofs.YtjapkdcomcgamaaDoor
