/- A body in chunks: how it begins. -/
import Derived.Test.YtjapkdcomcgamaaDoorChkB
set_option linter.all false
namespace Go.Proofs.YtjapkdcomcgamaaDoor
open Go Go.Sep Go.Ab
set_option maxRecDepth 100000

/-- What is so of the machine behind so many bytes. -/
structure ChI (s : Ch) (i : Nat) : Prop where
  b : s.ln.b.length ≤ i
  a0 : 0 ≤ s.all
  a1 : s.all ≤ i
  t0 : 0 ≤ s.tails
  t1 : s.tails ≤ i
  l0 : -(i : Int) ≤ s.left
  l1 : s.left ≤ 16777215
theorem chI_0 : ChI ch0 0 := ⟨by decide, by decide, by decide, by decide, by decide, by decide, by decide⟩
theorem lnF_b (s : Ln) (c : UInt8) : (lnF s c).1.b.length ≤ s.b.length + 1 := by
  unfold lnF
  repeat' split
  all_goals simp
theorem chL_I {s : Ch} {i : Nat} (h : ChI s i) (t : Str) : ChI (chL s t).1 (i + 1) := by
  obtain ⟨h1, h2, h3, h4, h5, h6, h7⟩ := h
  have hz := sizeC_nonneg t
  have hz2 := sizeC_le t
  unfold chL
  repeat' split
  all_goals constructor
  all_goals simp only
  all_goals omega
theorem chF_I {s : Ch} {i : Nat} (h : ChI s i) (c : UInt8) : ChI (chF s c).1 (i + 1) := by
  have hb := lnF_b s.ln c
  have h0 := h
  obtain ⟨h1, h2, h3, h4, h5, h6, h7⟩ := h
  unfold chF
  split
  · exact ⟨by show s.ln.b.length ≤ i + 1; omega, h2, by show s.all ≤ _; omega, h4, by show s.tails ≤ _; omega, by show _ ≤ s.left; omega, h7⟩
  split
  · constructor <;> simp only <;> omega
  split
  · constructor <;> simp only <;> omega
  split
  · constructor <;> simp only <;> omega
  split
  · have hl : ∀ t, (chL { s with ln := (lnF s.ln c).1 } t).1.ln = (lnF s.ln c).1 := fun t => (chL_keep _ _).1
    have key : ∀ t, ChI (chL { s with ln := (lnF s.ln c).1 } t).1 (i + 1) := fun t => by
      have hz := sizeC_nonneg t
      have hz2 := sizeC_le t
      unfold chL
      repeat' split
      all_goals constructor
      all_goals simp only
      all_goals omega
    split
    · obtain ⟨k1, k2, k3, k4, k5, k6, k7⟩ := key (lnF s.ln c).2.1
      exact ⟨k1, k2, k3, k4, k5, k6, k7⟩
    · exact key _
  · constructor <;> simp only <;> omega
theorem chI_need {s : Ch} {i : Nat} (h : ChI s i) (hi : i ≤ 1000000) : s.ln.b.length ≤ 1000000 ∧ (-1000000 ≤ s.left ∧ s.left ≤ 100000000) ∧ (0 ≤ s.all ∧ s.all ≤ 1000000) ∧ 0 ≤ s.tails ∧ s.tails ≤ 1000000 := by
  obtain ⟨h1, h2, h3, h4, h5, h6, h7⟩ := h
  omega

def begB : Str := [49, 13, 10, 120, 13, 10, 48, 13, 10, 13, 10]
theorem begR : chunksR begB = .over [120] [] := by kernel_rfl
theorem begW : ckW [[120]] = begB := by kernel_rfl
theorem chAt_done {b : Str} {o r : Str} {s : Ch} {got : Str} (h : ChAt b (.over o r) b.length s got) : got = o ∧ ∀ c, (chF s c).2.2.2 = 18 := by
  cases h with
  | run h => rw [List.drop_length, chRun] at h; cases h
  | over o' r' h _ _ hp hc hg =>
    cases h
    refine ⟨hg, fun c => ?_⟩
    unfold chF
    rcases hc with hc | hc
    · rw [if_neg (by simp [hc]), if_pos hp]
    · rw [if_pos (by rw [hc]; decide)]; exact hc
  | bad o' r' e h => cases h
set_option maxHeartbeats 8000000 in
theorem ckBegun_  : Spc Tryd.prog 55 [] [] (.ret (.v (.one (.p (.bool true))))) [] := by
  have h00 := chAt_0 begB
  rw [begR] at h00
  have hW := begW
  refine spcG tab_ok mixed Tryd.func55 (by kernel_rfl) { cfgCk with fz := [56], keep := some [0, 1, 2, 3, 4, 5, 6, 7, 10] } [ckNew__k, ckNew__l, ckFeed__k, ckFeed__l, ckWrite__k, ckWrite__l] (by kernel_rfl) ?_
  intro I X hI hX
  refine ev_rule (.need (I.hid (α := (Prop)) True) (.need (I.inr Go.IntKind.u8 49) (.need (I.inr Go.IntKind.u8 13) (.need (I.inr Go.IntKind.u8 10) (.need (I.inr Go.IntKind.u8 120) (.need (I.inr Go.IntKind.u8 13) (.need (I.inr Go.IntKind.u8 10) (.need (I.inr Go.IntKind.u8 48) (.need (I.inr Go.IntKind.u8 13) (.need (I.inr Go.IntKind.u8 10) (.need (I.inr Go.IntKind.u8 13) (.need (I.inr Go.IntKind.u8 10) (.need (I.inb 0 (I.len (α := UInt8) ([(I.i2b 49), (I.i2b 13), (I.i2b 10), (I.i2b 120), (I.i2b 13), (I.i2b 10), (I.i2b 48), (I.i2b 13), (I.i2b 10), (I.i2b 13), (I.i2b 10)] : List UInt8))) (.code 0 [1, 1, 1, 1, 0, 1, 0] ⟨[(4, (.v (.one (.p (.int .i64 0))))), (3, (.v (.one (.p (.int .i64 0))))), (2, (.v (.one (.row 1)))), (1, (.v (.one (.ptr 0 0)))), (0, (.v (.one (.p (.val (.bool .false))))))], [(.pack [(.obj 129 [(.ptr 1 0), (.p (.int .i64 0)), (.p (.int .i64 0)), (.p (.int .i64 0)), (.p (.int .i64 0)), (.p (.int .i64 0))]), (.pack [(.obj 146 [(.row 1), (.p (.bool Bool.false)), (.p (.int .i64 0))]), (.row .byte 5 (I.hid (α := (List UInt8)) ([] : List UInt8)))])]), (.row .byte 5 ([(I.i2b 49), (I.i2b 13), (I.i2b 10), (I.i2b 120), (I.i2b 13), (I.i2b 10), (I.i2b 48), (I.i2b 13), (I.i2b 10), (I.i2b 13), (I.i2b 10)] : List UInt8))], 67⟩)))))))))))))) (by kernel_rfl) ?_
  simp only [inst_need, inst_br, inst_both, inst_fin, inst_qed, inst_stop, inst_code]
  have hnil : (I.hid ([] : Str)) = [] := by rw [hI]; rfl
  have hlit : ([I.i2b 49, I.i2b 13, I.i2b 10, I.i2b 120, I.i2b 13, I.i2b 10, I.i2b 48, I.i2b 13, I.i2b 10, I.i2b 13, I.i2b 10] : Str) = begB := by subst hI; rfl
  simp only [hnil, hlit]
  have hr : ∀ n : Int, 0 ≤ n ∧ n ≤ 255 → I.inr .u8 n := fun n h => by subst hI; exact ⟨by show 0 ≤ n; omega, by show n ≤ 255; omega⟩
  refine ⟨(by rw [hI]; trivial), hr _ (by decide), hr _ (by decide), hr _ (by decide), hr _ (by decide), hr _ (by decide), hr _ (by decide), hr _ (by decide), hr _ (by decide), hr _ (by decide), hr _ (by decide), hr _ (by decide), (by subst hI; exact ⟨by decide, by decide⟩), ?_⟩
  refine loop_inv hI tab_ok mixed [ckNew__k, ckNew__l, ckFeed__k, ckFeed__l, ckWrite__k, ckWrite__l] hX [1, 2, 3, 4] (fun (g : Nat × Ch × Str) => match g with | (i, s, got) => i ≤ 11 ∧ ChAt begB (.over [120] []) i s got ∧ ChI s i ∧ got.length ≤ i) (fun (g : Nat × Ch × Str) => match g with | (i, s, got) => ⟨[(1, .v (.one (.ptr 0 0))), (2, .v (.one (.row 1))), (3, .v (.one (.p (.int .i64 ((got.length : Int)))))), (4, .v (.one (.p (.int .i64 i))))], [.pack [.obj 129 [(.ptr 1 0), (.p (.int .i64 s.pos)), (.p (.int .i64 s.left)), (.p (.int .i64 s.all)), (.p (.int .i64 s.tails)), (.p (.int .i64 s.code))], .pack [.obj 146 [(.row 1), (.p (.bool s.ln.cr)), (.p (.int .i64 s.ln.code))], .row .byte 5 s.ln.b]], .row .byte 5 begB], 67⟩) (fun (g : Nat × Ch × Str) => match g with | (i, s, got) => 11 - i) (0, ch0, []) (by kernel_rfl) (by kernel_rfl) ?_ ?_
  · exact ⟨by decide, h00, chI_0, Nat.le_refl _⟩
  rintro ⟨i, s, got⟩ ⟨h1, h2, h3, h4⟩ A hA
  simp only at hA h1 h2 h3 h4
  have hbl : begB.length = 11 := rfl
  have hnd := chI_need h3 (by omega)
  refine ev_rule (let y0 := I.b2i (I.get (α := UInt8) begB 0 (Nat.cast i)); let y1 := I.add (Nat.cast (List.length got)) (I.len (α := UInt8) (I.hid (α := (List UInt8)) (Prod.fst (Prod.snd (chF (Ch.mk (Ln.mk (Ln.b (Ch.ln s)) (Ln.cr (Ch.ln s)) (Ln.code (Ch.ln s))) (Ch.pos s) (Ch.left s) (Ch.all s) (Ch.tails s) (Ch.code s)) (UInt8.ofNat (Int.toNat y0))))))); let y2 := I.inb (Nat.cast i) (I.len (α := UInt8) begB); let y3 := I.sub (I.len (α := UInt8) begB) 1; .br (I.ilt (Nat.cast i) (I.len (α := UInt8) begB)) (.need y2 (.need y2 (.need (I.hid (α := (Prop)) (And (And (LE.le (0 : Int) y0) (LE.le y0 (255 : Int))) (And (LE.le (List.length (Ln.b (Ch.ln s))) 1000000) (And (And (LE.le (Neg.neg (1000000 : Int)) (Ch.left s)) (LE.le (Ch.left s) (100000000 : Int))) (And (And (LE.le (0 : Int) (Ch.all s)) (LE.le (Ch.all s) (1000000 : Int))) (And (LE.le (0 : Int) (Ch.tails s)) (LE.le (Ch.tails s) (1000000 : Int)))))))) (.br (I.bnot (I.ieq (I.hid (α := Int) (Prod.snd (Prod.snd (Prod.snd (chF (Ch.mk (Ln.mk (Ln.b (Ch.ln s)) (Ln.cr (Ch.ln s)) (Ln.code (Ch.ln s))) (Ch.pos s) (Ch.left s) (Ch.all s) (Ch.tails s) (Ch.code s)) (UInt8.ofNat (Int.toNat y0))))))) 0)) (.fin (.ret (.v (.one (.p (.bool Bool.false))))) []) (.need (I.inr Go.IntKind.i64 y3) (.br (I.bnot (I.beq (I.hid (α := Bool) (Prod.fst (Prod.snd (Prod.snd (chF (Ch.mk (Ln.mk (Ln.b (Ch.ln s)) (Ln.cr (Ch.ln s)) (Ln.code (Ch.ln s))) (Ch.pos s) (Ch.left s) (Ch.all s) (Ch.tails s) (Ch.code s)) (UInt8.ofNat (Int.toNat y0))))))) (I.ieq (Nat.cast i) y3))) (.fin (.ret (.v (.one (.p (.bool Bool.false))))) []) (.need (I.inr Go.IntKind.i64 y1) (.need (I.inr Go.IntKind.i64 (I.add (Nat.cast i) 1)) (.need (A ⟨[(1, (.v (.one (.ptr 0 0)))), (2, (.v (.one (.row 1)))), (3, (.v (.one (.p (.int .i64 y1))))), (4, (.v (.one (.p (.int .i64 (I.add (Nat.cast i) 1))))))], [(.pack [(.obj 129 [(.ptr 1 0), (.p (.int .i64 (I.hid (α := Int) (Ch.pos (Prod.fst (chF (Ch.mk (Ln.mk (Ln.b (Ch.ln s)) (Ln.cr (Ch.ln s)) (Ln.code (Ch.ln s))) (Ch.pos s) (Ch.left s) (Ch.all s) (Ch.tails s) (Ch.code s)) (UInt8.ofNat (Int.toNat y0)))))))), (.p (.int .i64 (I.hid (α := Int) (Ch.left (Prod.fst (chF (Ch.mk (Ln.mk (Ln.b (Ch.ln s)) (Ln.cr (Ch.ln s)) (Ln.code (Ch.ln s))) (Ch.pos s) (Ch.left s) (Ch.all s) (Ch.tails s) (Ch.code s)) (UInt8.ofNat (Int.toNat y0)))))))), (.p (.int .i64 (I.hid (α := Int) (Ch.all (Prod.fst (chF (Ch.mk (Ln.mk (Ln.b (Ch.ln s)) (Ln.cr (Ch.ln s)) (Ln.code (Ch.ln s))) (Ch.pos s) (Ch.left s) (Ch.all s) (Ch.tails s) (Ch.code s)) (UInt8.ofNat (Int.toNat y0)))))))), (.p (.int .i64 (I.hid (α := Int) (Ch.tails (Prod.fst (chF (Ch.mk (Ln.mk (Ln.b (Ch.ln s)) (Ln.cr (Ch.ln s)) (Ln.code (Ch.ln s))) (Ch.pos s) (Ch.left s) (Ch.all s) (Ch.tails s) (Ch.code s)) (UInt8.ofNat (Int.toNat y0)))))))), (.p (.int .i64 (I.hid (α := Int) (Ch.code (Prod.fst (chF (Ch.mk (Ln.mk (Ln.b (Ch.ln s)) (Ln.cr (Ch.ln s)) (Ln.code (Ch.ln s))) (Ch.pos s) (Ch.left s) (Ch.all s) (Ch.tails s) (Ch.code s)) (UInt8.ofNat (Int.toNat y0))))))))]), (.pack [(.obj 146 [(.row 1), (.p (.bool (I.hid (α := Bool) (Ln.cr (Ch.ln (Prod.fst (chF (Ch.mk (Ln.mk (Ln.b (Ch.ln s)) (Ln.cr (Ch.ln s)) (Ln.code (Ch.ln s))) (Ch.pos s) (Ch.left s) (Ch.all s) (Ch.tails s) (Ch.code s)) (UInt8.ofNat (Int.toNat y0))))))))), (.p (.int .i64 (I.hid (α := Int) (Ln.code (Ch.ln (Prod.fst (chF (Ch.mk (Ln.mk (Ln.b (Ch.ln s)) (Ln.cr (Ch.ln s)) (Ln.code (Ch.ln s))) (Ch.pos s) (Ch.left s) (Ch.all s) (Ch.tails s) (Ch.code s)) (UInt8.ofNat (Int.toNat y0)))))))))]), (.row .byte 5 (I.hid (α := (List UInt8)) (Ln.b (Ch.ln (Prod.fst (chF (Ch.mk (Ln.mk (Ln.b (Ch.ln s)) (Ln.cr (Ch.ln s)) (Ln.code (Ch.ln s))) (Ch.pos s) (Ch.left s) (Ch.all s) (Ch.tails s) (Ch.code s)) (UInt8.ofNat (Int.toNat y0))))))))])]), (.row .byte 5 begB)], 67⟩) .qed))))))))) (.need (I.hid (α := (Prop)) (And (And (LE.le (0 : Int) (48 : Int)) (LE.le (48 : Int) (255 : Int))) (And (LE.le (List.length (Ln.b (Ch.ln s))) 1000000) (And (And (LE.le (Neg.neg (1000000 : Int)) (Ch.left s)) (LE.le (Ch.left s) (100000000 : Int))) (And (And (LE.le (0 : Int) (Ch.all s)) (LE.le (Ch.all s) (1000000 : Int))) (And (LE.le (0 : Int) (Ch.tails s)) (LE.le (Ch.tails s) (1000000 : Int)))))))) (.br (I.ieq (Nat.cast (List.length got)) 1) (.br (I.ieq (I.hid (α := Int) (Prod.snd (Prod.snd (Prod.snd (chF (Ch.mk (Ln.mk (Ln.b (Ch.ln s)) (Ln.cr (Ch.ln s)) (Ln.code (Ch.ln s))) (Ch.pos s) (Ch.left s) (Ch.all s) (Ch.tails s) (Ch.code s)) (UInt8.ofNat (Int.toNat (48 : Int)))))))) 18) (.need (I.inr Go.IntKind.u8 120) (.need (I.inb 0 (I.len (α := UInt8) ([(I.i2b 120)] : List UInt8))) (.need (I.hid (α := (Prop)) (And (LE.le (List.length ([([(I.i2b 120)] : List UInt8)] : List (List UInt8))) 1000) (∀ (b : Str), b ∈ [[I.i2b 120]] → List.length b ≤ 10000))) (.fin (.ret (.v (.one (.p (.bool (I.seq (I.hid (α := (List UInt8)) (ckW ([([(I.i2b 120)] : List UInt8)] : List (List UInt8)))) begB)))))) [])))) (.fin (.ret (.v (.one (.p (.bool Bool.false))))) [])) (.fin (.ret (.v (.one (.p (.bool Bool.false))))) [])))) (by kernel_rfl) ?_
  simp only [inst_need, inst_br, inst_both, inst_fin, inst_qed, inst_stop, inst_code]
  subst hI
  simp only [alg_b2i, alg_i2b, alg_add, alg_sub, alg_mul, alg_quo, alg_rem, alg_wrap, alg_imin, alg_imax, alg_ilt, alg_ile, alg_ieq, alg_bnot, alg_beq, alg_ban, alg_seq, alg_len, alg_app, alg_cut, alg_get, alg_set, alg_rep, alg_inr, alg_inb, alg_cutb, alg_same, alg_few, alg_nne, alg_nng, alg_hid, alg_shl, alg_shr, alg_bits, decide_eq_true_eq, decide_eq_false_iff_not, beq_iff_eq, beq_eq_false_iff_ne, Bool.not_eq_true', Bool.not_eq_false', Bool.and_eq_true, Bool.and_true, Bool.true_and, and_true, true_and, ne_eq, Int.toNat_zero, Nat.sub_zero, List.drop_zero, i64_min, i64_max, u8_min, u8_max, ofNat_b2i, b2i_inj, Int.toNat_natCast, Int.ofNat_eq_natCast, UInt8.ofNat_toNat, AOut.ret.injEq, D.v.injEq, D.tup.injEq, V0.one.injEq, C.p.injEq, P.bool.injEq, P.int.injEq, P.str.injEq, Bool.false_eq_true, Bool.true_eq_false, imp_false, Decidable.not_not, not_true_eq_false, not_false_eq_true, List.cons.injEq, P.list.injEq, HO.row.injEq, heq_eq_eq, reduceCtorEq, false_and, and_false]
  have hst := fun h : i < begB.length => chAt_step h2 h
  have hchi := fun c => chF_I h3 c
  have hget : ∀ h : i < begB.length, begB.getD i 0 = begB[i] := fun h => by simp [h]
  have hsx : (⟨⟨s.ln.b, s.ln.cr, s.ln.code⟩, s.pos, s.left, s.all, s.tails, s.code⟩ : Ch) = s := rfl
  have hrl : ([] : Str).length = 0 := rfl
  simp only [hsx, hbl]
  refine ⟨fun h => ?_, fun h => ?_⟩
  · have hi : i < begB.length := by omega
    obtain ⟨g1, g2, g3⟩ := hst hi
    rw [hget hi]
    have e1 : wantR begB (.over [120] []) i = 0 := by simp only [wantR, hbl, hrl]; rw [if_neg (by omega)]
    have e2 : wantB begB (.over [120] []) i = ((i : Int) == 11 - 1) := by simp only [wantB, hbl, hrl]; rw [Bool.eq_iff_iff]; simp
    have hx := hchi begB[i]
    have hd := (chF_data (s := s) (c := begB[i])).1
    have hc := begB[i].toNat_lt
    rw [e1] at g2
    rw [e2] at g3
    generalize begB[i] = c at *
    generalize chF s c = z at *
    obtain ⟨s', d, is', e'⟩ := z
    simp only at *
    have hfin := hA (i + 1, s', got ++ d) ⟨by simp only; omega, g1, hx, by simp only [List.length_append]; omega⟩ (by simp only; omega)
    simp only [List.length_append, Int.natCast_add] at hfin
    subst g2
    subst g3
    exact ⟨by omega, by omega, ⟨by omega, hnd⟩, rfl, fun _ => ⟨by omega, rfl, fun _ => ⟨by omega, by omega, hfin⟩⟩⟩
  · have hi : i = 11 := by omega
    subst hi
    obtain ⟨k1, k2⟩ := chAt_done (b := begB) h2
    subst k1
    have hb120 : UInt8.ofNat (Int.toNat 120) = 120 := rfl
    have hone : (([120] : Str).length : Int) = 1 := rfl
    rw [hb120, hone]
    refine ⟨⟨by omega, hnd⟩, fun _ => ⟨fun _ => ⟨by omega, by decide, ⟨by decide, fun b hb => ?_⟩, hW⟩, k2 _⟩, rfl⟩
    rw [List.mem_singleton.1 hb]; decide
def ckBegun__c (I : Alg) (args : List D) (hp : List HO) : Option CT := match args, hp with
  | [], [] => (fun (_ : Unit) => (some (.one ⟨I.hid (True), (.ret (.v (.one (.p (.bool true))))), []⟩) : Option CT)) ()
  | _, _ => none
theorem ckBegun__g : GoodC Tryd.prog 55 (ckBegun__c alg) := by
  intro args hp r h
  unfold ckBegun__c at h
  split at h
  · cases h; exact fun hn => ckBegun_ 
  · cases h
def ckBegun__k : Know Tryd.prog := ⟨55, ckBegun__c, ckBegun__g⟩
def ckBegun__l : Know Tryd.prog := ⟨55, fun I => lendC I (ckBegun__c I), lendC_good ckBegun__g⟩
end Go.Proofs.YtjapkdcomcgamaaDoor
