/- Uploads: the walks of the document's own. -/
import Derived.Test.YtjapkdcomcgamaaGreatDoorSplB
set_option linter.all false
namespace Go.Proofs.YtjapkdcomcgamaaGreatDoor
open Go Go.Sep Go.Ab
set_option maxRecDepth 100000


theorem hAt_ (l : List Upl) (n id : Int) (hneed : l.length ≤ 1000000) : Spc Tryz.prog 108 [.v (.one (.ptr 0 0)), .v (.one (.p (.int .i64 id)))] [.pack [.obj 49 [(.row 1), (.p (.int .i64 n))], .row .upl 70 l]] (.ret (.v (.one (.p (.int .i64 ((ixU l id))))))) [.pack [.obj 49 [(.row 1), (.p (.int .i64 n))], .row .upl 70 l]] := by
  refine spcG tab_ok mixed Tryz.func108 (by kernel_rfl) { cfgSp with keep := some [0, 1, 4, 5] } [] (by kernel_rfl) ?_
  intro I X hI hX
  refine ev_rule (.code 0 [1, 0, 1, 0] ⟨[(5, (.v (.one (.p (.int .i64 0))))), (4, (.v (.one (.p (.int .i64 0))))), (0, (.v (.one (.ptr 0 0)))), (1, (.v (.one (.p (.int .i64 id)))))], [(.pack [(.obj 49 [(.row 1), (.p (.int .i64 n))]), (.row .upl 70 l)])], 26, none⟩) (by kernel_rfl) ?_
  simp only [instL]
  refine loop_inv hI tab_ok mixed [] hX [0, 1, 5] (fun (i : Nat) => i ≤ l.length ∧ i ≤ atU l id) (fun (i : Nat) => ⟨[(0, .v (.one (.ptr 0 0))), (1, .v (.one (.p (.int .i64 id)))), (5, .v (.one (.p (.int .i64 i))))], [.pack [.obj 49 [(.row 1), (.p (.int .i64 n))], .row .upl 70 l]], 26, none⟩) (fun (i : Nat) => l.length - i) 0 (by kernel_rfl) (by kernel_rfl) ?_ ?_
  · exact ⟨Nat.zero_le _, Nat.zero_le _⟩
  rintro i ⟨h1, h2⟩ A hA
  refine ev_rule (let y0 := I.inb (Nat.cast i) (I.len (α := Go.Ab.Upl) l); .br (I.ilt (Nat.cast i) (I.len (α := Go.Ab.Upl) l)) (.need y0 (.need y0 (.br (I.ieq (Go.Ab.Upl.id (I.get (α := Go.Ab.Upl) l (Go.Ab.Upl.mk (0 : Int) (0 : Int) ([] : List UInt8) ([] : List UInt8) (0 : Int)) (Nat.cast i))) id) (.fin (.ret (.v (.one (.p (.int .i64 (Nat.cast i)))))) [(.pack [(.obj 49 [(.row 1), (.p (.int .i64 n))]), (.row .upl 70 l)])]) (.need (I.inr Go.IntKind.i64 (I.add (Nat.cast i) 1)) (.need (A ⟨[(0, (.v (.one (.ptr 0 0)))), (1, (.v (.one (.p (.int .i64 id))))), (5, (.v (.one (.p (.int .i64 (I.add (Nat.cast i) 1))))))], [(.pack [(.obj 49 [(.row 1), (.p (.int .i64 n))]), (.row .upl 70 l)])], 26, none⟩) .qed))))) (.fin (.ret (.v (.one (.p (.int .i64 (Neg.neg (1 : Int))))))) [(.pack [(.obj 49 [(.row 1), (.p (.int .i64 n))]), (.row .upl 70 l)])])) (by kernel_rfl) ?_
  simp only [instL]
  subst hI
  simp only [nrmA, decide_eq_true_eq, decide_eq_false_iff_not, beq_iff_eq, beq_eq_false_iff_ne, Bool.not_eq_true', Bool.not_eq_false', Bool.and_eq_true, Bool.and_true, Bool.true_and, and_true, true_and, ne_eq, Int.toNat_zero, Nat.sub_zero, List.drop_zero, i64_min, i64_max, u8_min, u8_max, ofNat_b2i, b2i_inj, Int.toNat_natCast, Int.ofNat_eq_natCast, UInt8.ofNat_toNat, AOut.ret.injEq, D.v.injEq, D.tup.injEq, V0.one.injEq, C.p.injEq, P.bool.injEq, P.int.injEq, P.str.injEq, Bool.false_eq_true, Bool.true_eq_false, imp_false, Decidable.not_not, not_true_eq_false, not_false_eq_true, List.cons.injEq, P.list.injEq, HO.row.injEq, heq_eq_eq, reduceCtorEq, false_and, and_false]
  have hx := fun h => atU_drop (l := l) (id := id) (i := i) h h2
  have hle := atU_le l id
  have e0 : (⟨0, 0, [], [], 0⟩ : Upl) = upl0 := rfl
  simp only [e0]
  unfold ixU
  (repeat' (first | refine And.intro ?_ ?_ | intro _)) <;> first | omega | exact True.intro | exact False.elim ‹False› | skip
  all_goals first
    | (have h3 := hx (by omega); rw [if_pos (by assumption)] at h3; rw [if_pos (by omega), h3])
    | (have h3 := hx (by omega); rw [if_neg (by assumption)] at h3; exact hA (i + 1) ⟨by omega, h3⟩ (by omega))
    | (rw [if_neg (by omega)])
def hAt__c (I : Alg) (args : List D) (hp : List HO) : Option CT := match args, hp with
  | [.v (.one (.ptr 0 0)), .v (.one (.p (.int .i64 id)))], [.pack [.obj 49 [(.row 1), (.p (.int .i64 n))], .row .upl 70 l]] => (fun (l : List Upl) (n id : Int) => (some (.one ⟨I.hid (l.length ≤ 1000000), (.ret (.v (.one (.p (.int .i64 (I.hid ((ixU l id)))))))), [.pack [.obj 49 [(.row 1), (.p (.int .i64 n))], .row .upl 70 l]]⟩) : Option CT)) l n id
  | _, _ => none
theorem hAt__g : GoodC Tryz.prog 108 (hAt__c alg) := by
  intro args hp r h
  unfold hAt__c at h
  split at h
  · cases h; exact fun hn => hAt_ _ _ _ hn
  · cases h
def hAt__k : Know Tryz.prog := ⟨108, hAt__c, hAt__g⟩
def hAt__l : Know Tryz.prog := ⟨108, fun I => lendC I (hAt__c I), lendC_good hAt__g⟩

theorem hUsedB_ (l : List Upl) (n : Int) (hneed : usedU l ≤ 1000000 ∧ l.length ≤ 1000000) : Spc Tryz.prog 109 [.v (.one (.ptr 0 0))] [.obj 49 [(.row 1), (.p (.int .i64 n))], .row .upl 70 l] (.ret (.v (.one (.p (.int .i64 ((usedU l))))))) [.obj 49 [(.row 1), (.p (.int .i64 n))], .row .upl 70 l] := by
  obtain ⟨hu, hl⟩ := hneed
  refine spcG tab_ok mixed Tryz.func109 (by kernel_rfl) { flat := true, keep := some [0, 2, 3, 4] } [] (by kernel_rfl) ?_
  intro I X hI hX
  refine ev_rule (.code 0 [1, 1, 0, 1, 0] ⟨[(4, (.v (.one (.p (.int .i64 0))))), (3, (.v (.one (.p (.int .i64 0))))), (2, (.v (.one (.p (.int .i64 0))))), (0, (.v (.one (.ptr 0 0))))], [(.obj 49 [(.row 1), (.p (.int .i64 n))]), (.row .upl 70 l)], 26, none⟩) (by kernel_rfl) ?_
  simp only [instL]
  refine loop_inv hI tab_ok mixed [] hX [0, 3, 4] (fun (g : Nat × Int) => match g with | (i, a) => i ≤ l.length ∧ 0 ≤ a ∧ a + usedU (l.drop i) = usedU l) (fun (g : Nat × Int) => match g with | (i, a) => ⟨[(0, .v (.one (.ptr 0 0))), (3, .v (.one (.p (.int .i64 a)))), (4, .v (.one (.p (.int .i64 i))))], [.obj 49 [(.row 1), (.p (.int .i64 n))], .row .upl 70 l], 26, none⟩) (fun (g : Nat × Int) => match g with | (i, a) => l.length - i) (0, 0) (by kernel_rfl) (by kernel_rfl) ?_ ?_
  · exact ⟨Nat.zero_le _, Int.le_refl _, by simp⟩
  rintro ⟨i, a⟩ ⟨h1, h2, h3⟩ A hA
  simp only at hA
  refine ev_rule (let y0 := I.add a (I.len (α := UInt8) (Go.Ab.Upl.bytes (I.get (α := Go.Ab.Upl) l (Go.Ab.Upl.mk (0 : Int) (0 : Int) ([] : List UInt8) ([] : List UInt8) (0 : Int)) (Nat.cast i)))); let y1 := I.inb (Nat.cast i) (I.len (α := Go.Ab.Upl) l); .br (I.ilt (Nat.cast i) (I.len (α := Go.Ab.Upl) l)) (.need y1 (.need y1 (.need (I.inr Go.IntKind.i64 y0) (.need (I.inr Go.IntKind.i64 (I.add (Nat.cast i) 1)) (.need (A ⟨[(0, (.v (.one (.ptr 0 0)))), (3, (.v (.one (.p (.int .i64 y0))))), (4, (.v (.one (.p (.int .i64 (I.add (Nat.cast i) 1))))))], [(.obj 49 [(.row 1), (.p (.int .i64 n))]), (.row .upl 70 l)], 26, none⟩) .qed))))) (.fin (.ret (.v (.one (.p (.int .i64 a))))) [(.obj 49 [(.row 1), (.p (.int .i64 n))]), (.row .upl 70 l)])) (by kernel_rfl) ?_
  simp only [instL]
  subst hI
  simp only [nrmA, decide_eq_true_eq, decide_eq_false_iff_not, beq_iff_eq, beq_eq_false_iff_ne, Bool.not_eq_true', Bool.not_eq_false', Bool.and_eq_true, Bool.and_true, Bool.true_and, and_true, true_and, ne_eq, Int.toNat_zero, Nat.sub_zero, List.drop_zero, i64_min, i64_max, u8_min, u8_max, ofNat_b2i, b2i_inj, Int.toNat_natCast, Int.ofNat_eq_natCast, UInt8.ofNat_toNat, AOut.ret.injEq, D.v.injEq, D.tup.injEq, V0.one.injEq, C.p.injEq, P.bool.injEq, P.int.injEq, P.str.injEq, Bool.false_eq_true, Bool.true_eq_false, imp_false, Decidable.not_not, not_true_eq_false, not_false_eq_true]
  have hd : i < l.length → usedU (l.drop i) = (l.getD i ⟨0, 0, [], [], 0⟩).bytes.length + usedU (l.drop (i + 1)) := fun h => by
    rw [List.drop_eq_getElem_cons h]; simp [usedU, h]
  have hn := usedU_nonneg (l.drop (i + 1))
  have hn0 : ¬ i < l.length → usedU (l.drop i) = 0 := fun h => by rw [List.drop_of_length_le (by omega)]; rfl
  generalize l.getD i ⟨0, 0, [], [], 0⟩ = x at *
  (repeat' (first | refine And.intro ?_ ?_ | intro _)) <;> first | omega | exact True.intro | exact False.elim ‹False› | skip
  all_goals first
    | (have := hd (by omega); omega)
    | (have := hd (by omega); refine hA (i + 1, _) ⟨by simp only; omega, by simp only; omega, by simp only; omega⟩ (by simp only; omega))
    | (have := hn0 (by omega); simp only [show a = usedU l by omega])
def hUsedB__c (I : Alg) (args : List D) (hp : List HO) : Option CT := match args, hp with
  | [.v (.one (.ptr 0 0))], [.obj 49 [(.row 1), (.p (.int .i64 n))], .row .upl 70 l] => (fun (l : List Upl) (n : Int) => (some (.one ⟨I.hid (usedU l ≤ 1000000 ∧ l.length ≤ 1000000), (.ret (.v (.one (.p (.int .i64 (I.hid ((usedU l)))))))), [.obj 49 [(.row 1), (.p (.int .i64 n))], .row .upl 70 l]⟩) : Option CT)) l n
  | _, _ => none
theorem hUsedB__g : GoodC Tryz.prog 109 (hUsedB__c alg) := by
  intro args hp r h
  unfold hUsedB__c at h
  split at h
  · cases h; exact fun hn => hUsedB_ _ _ hn
  · cases h
def hUsedB__k : Know Tryz.prog := ⟨109, hUsedB__c, hUsedB__g⟩
def hUsedB__l : Know Tryz.prog := ⟨109, fun I => lendC I (hUsedB__c I), lendC_good hUsedB__g⟩
theorem hUsed_ (l : List Upl) (n : Int) (hneed : usedU l ≤ 1000000 ∧ l.length ≤ 1000000) : Spc Tryz.prog 109 [.v (.one (.ptr 0 0))] [.pack [.obj 49 [(.row 1), (.p (.int .i64 n))], .row .upl 70 l]] (.ret (.v (.one (.p (.int .i64 ((usedU l))))))) [.pack [.obj 49 [(.row 1), (.p (.int .i64 n))], .row .upl 70 l]] :=
  Spc.packed (ex := []) (hUsedB_ l n hneed) rfl (by simp) rfl
def hUsed__c (I : Alg) (args : List D) (hp : List HO) : Option CT := match args, hp with
  | [.v (.one (.ptr 0 0))], [.pack [.obj 49 [(.row 1), (.p (.int .i64 n))], .row .upl 70 l]] => (fun (l : List Upl) (n : Int) => (some (.one ⟨I.hid (usedU l ≤ 1000000 ∧ l.length ≤ 1000000), (.ret (.v (.one (.p (.int .i64 (I.hid ((usedU l)))))))), [.pack [.obj 49 [(.row 1), (.p (.int .i64 n))], .row .upl 70 l]]⟩) : Option CT)) l n
  | _, _ => none
theorem hUsed__g : GoodC Tryz.prog 109 (hUsed__c alg) := by
  intro args hp r h
  unfold hUsed__c at h
  split at h
  · cases h; exact fun hn => hUsed_ _ _ hn
  · cases h
def hUsed__k : Know Tryz.prog := ⟨109, hUsed__c, hUsed__g⟩
def hUsed__l : Know Tryz.prog := ⟨109, fun I => lendC I (hUsed__c I), lendC_good hUsed__g⟩

theorem hCreate_ (l : List Upl) (n size : Int) (m : Str) (hneed : SplOk l n ∧ n ≤ 1000000 ∧ m.length ≤ 1000000) : Spc Tryz.prog 111 [.v (.one (.ptr 0 0)), .v (.one (.p (.int .i64 size))), .v (.one (.p (.str m)))] [.pack [.obj 49 [(.row 1), (.p (.int .i64 n))], .row .upl 70 l]] (.ret (.tup [(.one (.p (.int .i64 ((creI l n size m))))), (.one (.p (.int .i64 ((creC l size m)))))])) [.pack [.obj 49 [(.row 1), (.p (.int .i64 ((creN l n size m))))], .row .upl 70 ((creL l n size m))]] := by
  obtain ⟨hs, hn, hm⟩ := hneed
  have hc := hs.cnt
  have h0 := hs.n0
  generalize hi : creI l n size m = ri
  generalize he : creC l size m = re
  generalize hl : creL l n size m = rl
  generalize hN : creN l n size m = rn
  refine spcG tab_ok mixed Tryz.func111 (by kernel_rfl) { cfgSp with keep := some [0, 1, 2, 6, 7] } [seenText__k, seenText__l, trimmed__k, trimmed__l] (by kernel_rfl) ?_
  intro I X hI hX
  refine ev_rule (let y0 := I.few (I.add (I.len (α := Go.Ab.Upl) l) (I.len (α := Go.Ab.Upl) ([(Go.Ab.Upl.mk (I.add n 1) size m ([] : List UInt8) (0 : Int))] : List Go.Ab.Upl))) 100000000; let y1 := I.hid (α := (Prop)) (LE.le (List.length m) 1000000); .br (I.ilt size (Neg.neg (1 : Int))) (.fin (.ret (.tup [(.one (.p (.int .i64 0))), (.one (.p (.int .i64 1)))])) [(.pack [(.obj 49 [(.row 1), (.p (.int .i64 n))]), (.row .upl 70 l)])]) (.br (I.ilt 2000 size) (.fin (.ret (.tup [(.one (.p (.int .i64 0))), (.one (.p (.int .i64 4)))])) [(.pack [(.obj 49 [(.row 1), (.p (.int .i64 n))]), (.row .upl 70 l)])]) (.br (I.ilt 100 (I.len (α := UInt8) m)) (.fin (.ret (.tup [(.one (.p (.int .i64 0))), (.one (.p (.int .i64 4)))])) [(.pack [(.obj 49 [(.row 1), (.p (.int .i64 n))]), (.row .upl 70 l)])]) (.need y1 (.br (I.bnot (I.hid (α := Bool) (seenA m))) (.fin (.ret (.tup [(.one (.p (.int .i64 0))), (.one (.p (.int .i64 3)))])) [(.pack [(.obj 49 [(.row 1), (.p (.int .i64 n))]), (.row .upl 70 l)])]) (.need y1 (.br (I.bnot (I.seq (I.hid (α := (List UInt8)) (Go.Lib.trimS m ([32, 9] : List UInt8))) m)) (.fin (.ret (.tup [(.one (.p (.int .i64 0))), (.one (.p (.int .i64 3)))])) [(.pack [(.obj 49 [(.row 1), (.p (.int .i64 n))]), (.row .upl 70 l)])]) (.br (I.ile 12 (I.len (α := Go.Ab.Upl) l)) (.fin (.ret (.tup [(.one (.p (.int .i64 0))), (.one (.p (.int .i64 8)))])) [(.pack [(.obj 49 [(.row 1), (.p (.int .i64 n))]), (.row .upl 70 l)])]) (.need (I.inr Go.IntKind.i64 (I.add n 1)) (.both (.need y0 (.fin (.ret (.tup [(.one (.p (.int .i64 (I.add n 1)))), (.one (.p (.int .i64 0)))])) [(.pack [(.obj 49 [(.row 1), (.p (.int .i64 (I.add n 1)))]), (.row .upl 70 (I.app (α := Go.Ab.Upl) l ([(Go.Ab.Upl.mk (I.add n 1) size m ([] : List UInt8) (0 : Int))] : List Go.Ab.Upl)))])])) (.both (.need y0 (.fin (.ret (.tup [(.one (.p (.int .i64 (I.add n 1)))), (.one (.p (.int .i64 0)))])) [(.pack [(.obj 49 [(.row 1), (.p (.int .i64 (I.add n 1)))]), (.row .upl 70 (I.app (α := Go.Ab.Upl) l ([(Go.Ab.Upl.mk (I.add n 1) size m ([] : List UInt8) (0 : Int))] : List Go.Ab.Upl)))])])) (.need y0 (.fin (.ret (.tup [(.one (.p (.int .i64 (I.add n 1)))), (.one (.p (.int .i64 0)))])) [(.pack [(.obj 49 [(.row 1), (.p (.int .i64 (I.add n 1)))]), (.row .upl 70 (I.app (α := Go.Ab.Upl) l ([(Go.Ab.Upl.mk (I.add n 1) size m ([] : List UInt8) (0 : Int))] : List Go.Ab.Upl)))])]))))))))))))) (by kernel_rfl) ?_
  simp only [instL]
  subst hI
  simp only [nrmA, decide_eq_true_eq, decide_eq_false_iff_not, beq_iff_eq, beq_eq_false_iff_ne, Bool.not_eq_true', Bool.not_eq_false', Bool.and_eq_true, Bool.and_true, Bool.true_and, and_true, true_and, ne_eq, Int.toNat_zero, Nat.sub_zero, List.drop_zero, i64_min, i64_max, u8_min, u8_max, ofNat_b2i, b2i_inj, Int.toNat_natCast, Int.ofNat_eq_natCast, UInt8.ofNat_toNat, AOut.ret.injEq, D.v.injEq, D.tup.injEq, V0.one.injEq, C.p.injEq, P.bool.injEq, P.int.injEq, P.str.injEq, Bool.false_eq_true, Bool.true_eq_false, imp_false, Decidable.not_not, not_true_eq_false, not_false_eq_true, List.cons.injEq, P.list.injEq, HO.row.injEq, heq_eq_eq, reduceCtorEq, false_and, and_false, HO.pack.injEq, HO.obj.injEq]
  unfold creI at hi
  unfold creL at hl
  unfold creN at hN
  rw [he] at hi hl hN
  unfold creC at he
  simp only [List.length_cons, List.length_nil]
  (repeat' (first | refine And.intro ?_ ?_ | intro _)) <;> first | omega | exact True.intro | exact False.elim ‹False› | skip
  all_goals ((repeat (first | rewrite [if_pos (by first | omega | assumption | (simp only [*, or_self, or_true, true_or, or_false, false_or, not_true_eq_false, not_false_eq_true, Bool.false_eq_true, Bool.true_eq_false, and_self, and_true, true_and]; done) | (simp only [*]; omega) | (simp [*]; done) | (simp [*]; omega))] at he | rewrite [if_neg (by first | omega | assumption | (simp only [*, or_self, or_true, true_or, or_false, false_or, not_true_eq_false, not_false_eq_true, Bool.false_eq_true, Bool.true_eq_false, and_self, and_true, true_and]; done) | (simp only [*]; omega) | (simp [*]; done) | (simp [*]; omega))] at he)); subst he; ((repeat (first | rewrite [if_pos (by first | omega | assumption | (simp only [*, or_self, or_true, true_or, or_false, false_or, not_true_eq_false, not_false_eq_true, Bool.false_eq_true, Bool.true_eq_false, and_self, and_true, true_and]; done) | (simp only [*]; omega) | (simp [*]; done) | (simp [*]; omega))] at hi | rewrite [if_neg (by first | omega | assumption | (simp only [*, or_self, or_true, true_or, or_false, false_or, not_true_eq_false, not_false_eq_true, Bool.false_eq_true, Bool.true_eq_false, and_self, and_true, true_and]; done) | (simp only [*]; omega) | (simp [*]; done) | (simp [*]; omega))] at hi))); ((repeat (first | rewrite [if_pos (by first | omega | assumption | (simp only [*, or_self, or_true, true_or, or_false, false_or, not_true_eq_false, not_false_eq_true, Bool.false_eq_true, Bool.true_eq_false, and_self, and_true, true_and]; done) | (simp only [*]; omega) | (simp [*]; done) | (simp [*]; omega))] at hl | rewrite [if_neg (by first | omega | assumption | (simp only [*, or_self, or_true, true_or, or_false, false_or, not_true_eq_false, not_false_eq_true, Bool.false_eq_true, Bool.true_eq_false, and_self, and_true, true_and]; done) | (simp only [*]; omega) | (simp [*]; done) | (simp [*]; omega))] at hl))); ((repeat (first | rewrite [if_pos (by first | omega | assumption | (simp only [*, or_self, or_true, true_or, or_false, false_or, not_true_eq_false, not_false_eq_true, Bool.false_eq_true, Bool.true_eq_false, and_self, and_true, true_and]; done) | (simp only [*]; omega) | (simp [*]; done) | (simp [*]; omega))] at hN | rewrite [if_neg (by first | omega | assumption | (simp only [*, or_self, or_true, true_or, or_false, false_or, not_true_eq_false, not_false_eq_true, Bool.false_eq_true, Bool.true_eq_false, and_self, and_true, true_and]; done) | (simp only [*]; omega) | (simp [*]; done) | (simp [*]; omega))] at hN))); subst hi; subst hl; subst hN; first | rfl | omega)
def hCreate__c (I : Alg) (args : List D) (hp : List HO) : Option CT := match args, hp with
  | [.v (.one (.ptr 0 0)), .v (.one (.p (.int .i64 size))), .v (.one (.p (.str m)))], [.pack [.obj 49 [(.row 1), (.p (.int .i64 n))], .row .upl 70 l]] => (fun (l : List Upl) (n size : Int) (m : Str) => (some (.one ⟨I.hid (SplOk l n ∧ n ≤ 1000000 ∧ m.length ≤ 1000000), (.ret (.tup [(.one (.p (.int .i64 (I.hid ((creI l n size m)))))), (.one (.p (.int .i64 (I.hid ((creC l size m))))))])), [.pack [.obj 49 [(.row 1), (.p (.int .i64 (I.hid ((creN l n size m)))))], .row .upl 70 (I.hid ((creL l n size m)))]]⟩) : Option CT)) l n size m
  | _, _ => none
theorem hCreate__g : GoodC Tryz.prog 111 (hCreate__c alg) := by
  intro args hp r h
  unfold hCreate__c at h
  split at h
  · cases h; exact fun hn => hCreate_ _ _ _ _ hn
  · cases h
def hCreate__k : Know Tryz.prog := ⟨111, hCreate__c, hCreate__g⟩
def hCreate__l : Know Tryz.prog := ⟨111, fun I => lendC I (hCreate__c I), lendC_good hCreate__g⟩

theorem hAppend_ (l : List Upl) (n id off : Int) (b : Str) (hneed : SplOk l n ∧ b.length ≤ 1000000) : Spc Tryz.prog 77 [.v (.one (.ptr 0 0)), .v (.one (.p (.int .i64 id))), .v (.one (.p (.int .i64 off))), .v (.one (.p (.list .byte b)))] [.pack [.obj 49 [(.row 1), (.p (.int .i64 n))], .row .upl 70 l]] (.ret (.v (.one (.p (.int .i64 ((appC l id off b))))))) [.pack [.obj 49 [(.row 1), (.p (.int .i64 n))], .row .upl 70 ((appL l id off b))]] := by
  obtain ⟨hs, hb⟩ := hneed
  have hf := spl_few hs
  have hle := atU_le l id
  generalize he : appC l id off b = re
  generalize hl : appL l id off b = rl
  refine spcG tab_ok mixed Tryz.func77 (by kernel_rfl) { cfgSp with bare := [109], keep := some [0, 1, 2, 3, 8, 9, 10, 11, 12] } [hAt__k, hAt__l, hUsedB__k, hUsedB__l, hUsed__k, hUsed__l] (by kernel_rfl) ?_
  intro I X hI hX
  refine ev_rule (let y0 := I.get (α := Go.Ab.Upl) l (Go.Ab.Upl.mk (0 : Int) (0 : Int) ([] : List UInt8) ([] : List UInt8) (0 : Int)) (I.hid (α := Int) (ixU l id)); let y1 := I.inb (I.hid (α := Int) (ixU l id)) (I.len (α := Go.Ab.Upl) l); let y6 := I.len (α := UInt8) (Go.Ab.Upl.bytes y0); let y2 := I.add y6 (I.len (α := UInt8) b); let y3 := I.set (α := Go.Ab.Upl) l (I.hid (α := Int) (ixU l id)) (Go.Ab.Upl.mk (Go.Ab.Upl.id y0) (Go.Ab.Upl.size y0) (Go.Ab.Upl.note y0) (I.app (α := UInt8) (Go.Ab.Upl.bytes y0) b) (Go.Ab.Upl.sent y0)); let y4 := I.add (I.hid (α := Int) (usedU l)) (I.len (α := UInt8) b); let y5 := I.hid (α := (Prop)) (And (LE.le (usedU l) (1000000 : Int)) (LE.le (List.length l) 1000000)); .need (I.hid (α := (Prop)) (LE.le (List.length l) 1000000)) (.br (I.ilt (I.hid (α := Int) (ixU l id)) 0) (.fin (.ret (.v (.one (.p (.int .i64 10))))) [(.pack [(.obj 49 [(.row 1), (.p (.int .i64 n))]), (.row .upl 70 l)])]) (.need y1 (.need y1 (.need y1 (.br (I.bnot (I.ieq (Go.Ab.Upl.sent y0) 0)) (.fin (.ret (.v (.one (.p (.int .i64 19))))) [(.pack [(.obj 49 [(.row 1), (.p (.int .i64 n))]), (.row .upl 70 l)])]) (.br (I.bnot (I.ieq off y6)) (.fin (.ret (.v (.one (.p (.int .i64 17))))) [(.pack [(.obj 49 [(.row 1), (.p (.int .i64 n))]), (.row .upl 70 l)])]) (.need (I.inr Go.IntKind.i64 y2) (.br (I.ilt 2000 y2) (.fin (.ret (.v (.one (.p (.int .i64 4))))) [(.pack [(.obj 49 [(.row 1), (.p (.int .i64 n))]), (.row .upl 70 l)])]) (.need y1 (.br (I.ile 0 (Go.Ab.Upl.size y0)) (.need (I.inr Go.IntKind.i64 y2) (.need y1 (.br (I.ilt (Go.Ab.Upl.size y0) y2) (.fin (.ret (.v (.one (.p (.int .i64 4))))) [(.pack [(.obj 49 [(.row 1), (.p (.int .i64 n))]), (.row .upl 70 l)])]) (.need y5 (.need (I.inr Go.IntKind.i64 y4) (.br (I.ilt 6000 y4) (.fin (.ret (.v (.one (.p (.int .i64 16))))) [(.pack [(.obj 49 [(.row 1), (.p (.int .i64 n))]), (.row .upl 70 l)])]) (.need y1 (.need (I.few y6 140737488355328) (.need (I.few y2 140737488355328) (.need y1 (.fin (.ret (.v (.one (.p (.int .i64 0))))) [(.pack [(.obj 49 [(.row 1), (.p (.int .i64 n))]), (.row .upl 70 y3)])]))))))))))) (.need y5 (.need (I.inr Go.IntKind.i64 y4) (.br (I.ilt 6000 y4) (.fin (.ret (.v (.one (.p (.int .i64 16))))) [(.pack [(.obj 49 [(.row 1), (.p (.int .i64 n))]), (.row .upl 70 l)])]) (.need y1 (.need (I.few y6 140737488355328) (.need (I.few y2 140737488355328) (.need y1 (.fin (.ret (.v (.one (.p (.int .i64 0))))) [(.pack [(.obj 49 [(.row 1), (.p (.int .i64 n))]), (.row .upl 70 y3)])]))))))))))))))))))) (by kernel_rfl) ?_
  simp only [instL]
  subst hI
  simp only [nrmA, decide_eq_true_eq, decide_eq_false_iff_not, beq_iff_eq, beq_eq_false_iff_ne, Bool.not_eq_true', Bool.not_eq_false', Bool.and_eq_true, Bool.and_true, Bool.true_and, and_true, true_and, ne_eq, Int.toNat_zero, Nat.sub_zero, List.drop_zero, i64_min, i64_max, u8_min, u8_max, ofNat_b2i, b2i_inj, Int.toNat_natCast, Int.ofNat_eq_natCast, UInt8.ofNat_toNat, AOut.ret.injEq, D.v.injEq, D.tup.injEq, V0.one.injEq, C.p.injEq, P.bool.injEq, P.int.injEq, P.str.injEq, Bool.false_eq_true, Bool.true_eq_false, imp_false, Decidable.not_not, not_true_eq_false, not_false_eq_true, List.cons.injEq, P.list.injEq, HO.row.injEq, heq_eq_eq, reduceCtorEq, false_and, and_false, HO.pack.injEq, HO.obj.injEq]
  unfold appL at hl
  rw [he] at hl
  unfold appC at he
  unfold uplAt upl0 at he hl
  have hx : atU l id < l.length → _ := fun h => hs.each _ (uplAt_mem h)
  unfold uplAt upl0 at hx
  have hu0 := usedU_nonneg l
  by_cases hk : atU l id < l.length
  · rw [ixU_pos hk, Int.toNat_natCast]
    have hx := hx hk
    generalize l.getD (atU l id) ⟨0, 0, [], [], 0⟩ = x at *
    have hb1 := hx.bl
    have hb2 := hx.s1
    have hb3 := hx.s2
    (try simp only [List.nil_append, List.length_append, List.length_nil])
    (repeat' (first | refine And.intro ?_ ?_ | intro _)) <;> first | omega | exact True.intro | exact False.elim ‹False› | skip
    all_goals first
      | exact hf.1
      | exact hf.2
      | ((repeat (first | rewrite [if_pos (by first | omega | assumption | (simp only [*, or_self, or_true, true_or, or_false, false_or, not_true_eq_false, not_false_eq_true, Bool.false_eq_true, Bool.true_eq_false, and_self, and_true, true_and]; done) | (simp only [*]; omega) | (simp [*]; done) | (simp [*]; omega))] at he | rewrite [if_neg (by first | omega | assumption | (simp only [*, or_self, or_true, true_or, or_false, false_or, not_true_eq_false, not_false_eq_true, Bool.false_eq_true, Bool.true_eq_false, and_self, and_true, true_and]; done) | (simp only [*]; omega) | (simp [*]; done) | (simp [*]; omega))] at he)); subst he; ((repeat (first | rewrite [if_pos (by first | omega | assumption | (simp only [*, or_self, or_true, true_or, or_false, false_or, not_true_eq_false, not_false_eq_true, Bool.false_eq_true, Bool.true_eq_false, and_self, and_true, true_and]; done) | (simp only [*]; omega) | (simp [*]; done) | (simp [*]; omega))] at hl | rewrite [if_neg (by first | omega | assumption | (simp only [*, or_self, or_true, true_or, or_false, false_or, not_true_eq_false, not_false_eq_true, Bool.false_eq_true, Bool.true_eq_false, and_self, and_true, true_and]; done) | (simp only [*]; omega) | (simp [*]; done) | (simp [*]; omega))] at hl))); subst hl; first | rfl | omega)
  · rw [ixU_neg hk]
    (repeat' (first | refine And.intro ?_ ?_ | intro _)) <;> first | omega | exact True.intro | exact False.elim ‹False› | skip
    all_goals first
      | exact hf.1
      | exact hf.2
      | ((repeat (first | rewrite [if_pos (by first | omega | assumption | (simp only [*, or_self, or_true, true_or, or_false, false_or, not_true_eq_false, not_false_eq_true, Bool.false_eq_true, Bool.true_eq_false, and_self, and_true, true_and]; done) | (simp only [*]; omega) | (simp [*]; done) | (simp [*]; omega))] at he | rewrite [if_neg (by first | omega | assumption | (simp only [*, or_self, or_true, true_or, or_false, false_or, not_true_eq_false, not_false_eq_true, Bool.false_eq_true, Bool.true_eq_false, and_self, and_true, true_and]; done) | (simp only [*]; omega) | (simp [*]; done) | (simp [*]; omega))] at he)); subst he; ((repeat (first | rewrite [if_pos (by first | omega | assumption | (simp only [*, or_self, or_true, true_or, or_false, false_or, not_true_eq_false, not_false_eq_true, Bool.false_eq_true, Bool.true_eq_false, and_self, and_true, true_and]; done) | (simp only [*]; omega) | (simp [*]; done) | (simp [*]; omega))] at hl | rewrite [if_neg (by first | omega | assumption | (simp only [*, or_self, or_true, true_or, or_false, false_or, not_true_eq_false, not_false_eq_true, Bool.false_eq_true, Bool.true_eq_false, and_self, and_true, true_and]; done) | (simp only [*]; omega) | (simp [*]; done) | (simp [*]; omega))] at hl))); subst hl; first | rfl | omega)
def hAppend__c (I : Alg) (args : List D) (hp : List HO) : Option CT := match args, hp with
  | [.v (.one (.ptr 0 0)), .v (.one (.p (.int .i64 id))), .v (.one (.p (.int .i64 off))), .v (.one (.p (.list .byte b)))], [.pack [.obj 49 [(.row 1), (.p (.int .i64 n))], .row .upl 70 l]] => (fun (l : List Upl) (n id off : Int) (b : Str) => (some (.one ⟨I.hid (SplOk l n ∧ b.length ≤ 1000000), (.ret (.v (.one (.p (.int .i64 (I.hid ((appC l id off b)))))))), [.pack [.obj 49 [(.row 1), (.p (.int .i64 n))], .row .upl 70 (I.hid ((appL l id off b)))]]⟩) : Option CT)) l n id off b
  | _, _ => none
theorem hAppend__g : GoodC Tryz.prog 77 (hAppend__c alg) := by
  intro args hp r h
  unfold hAppend__c at h
  split at h
  · cases h; exact fun hn => hAppend_ _ _ _ _ _ hn
  · cases h
def hAppend__k : Know Tryz.prog := ⟨77, hAppend__c, hAppend__g⟩
def hAppend__l : Know Tryz.prog := ⟨77, fun I => lendC I (hAppend__c I), lendC_good hAppend__g⟩

theorem hDeclare_ (l : List Upl) (n id size : Int) (hneed : SplOk l n) : Spc Tryz.prog 112 [.v (.one (.ptr 0 0)), .v (.one (.p (.int .i64 id))), .v (.one (.p (.int .i64 size)))] [.pack [.obj 49 [(.row 1), (.p (.int .i64 n))], .row .upl 70 l]] (.ret (.v (.one (.p (.int .i64 ((decC l id size))))))) [.pack [.obj 49 [(.row 1), (.p (.int .i64 n))], .row .upl 70 ((decL l id size))]] := by
  have hs := hneed
  have hf := spl_few hs
  have hle := atU_le l id
  generalize he : decC l id size = re
  generalize hl : decL l id size = rl
  refine spcG tab_ok mixed Tryz.func112 (by kernel_rfl) { cfgSp with keep := some [0, 1, 2, 6, 7] } [hAt__k, hAt__l] (by kernel_rfl) ?_
  intro I X hI hX
  refine ev_rule (let y0 := I.get (α := Go.Ab.Upl) l (Go.Ab.Upl.mk (0 : Int) (0 : Int) ([] : List UInt8) ([] : List UInt8) (0 : Int)) (I.hid (α := Int) (ixU l id)); let y1 := I.inb (I.hid (α := Int) (ixU l id)) (I.len (α := Go.Ab.Upl) l); .need (I.hid (α := (Prop)) (LE.le (List.length l) 1000000)) (.br (I.ilt (I.hid (α := Int) (ixU l id)) 0) (.fin (.ret (.v (.one (.p (.int .i64 10))))) [(.pack [(.obj 49 [(.row 1), (.p (.int .i64 n))]), (.row .upl 70 l)])]) (.need y1 (.need y1 (.br (I.ile 0 (Go.Ab.Upl.size y0)) (.fin (.ret (.v (.one (.p (.int .i64 18))))) [(.pack [(.obj 49 [(.row 1), (.p (.int .i64 n))]), (.row .upl 70 l)])]) (.br (I.ilt size 0) (.fin (.ret (.v (.one (.p (.int .i64 1))))) [(.pack [(.obj 49 [(.row 1), (.p (.int .i64 n))]), (.row .upl 70 l)])]) (.br (I.ilt 2000 size) (.fin (.ret (.v (.one (.p (.int .i64 4))))) [(.pack [(.obj 49 [(.row 1), (.p (.int .i64 n))]), (.row .upl 70 l)])]) (.need y1 (.need y1 (.br (I.ilt size (I.len (α := UInt8) (Go.Ab.Upl.bytes y0))) (.fin (.ret (.v (.one (.p (.int .i64 4))))) [(.pack [(.obj 49 [(.row 1), (.p (.int .i64 n))]), (.row .upl 70 l)])]) (.need y1 (.need y1 (.fin (.ret (.v (.one (.p (.int .i64 0))))) [(.pack [(.obj 49 [(.row 1), (.p (.int .i64 n))]), (.row .upl 70 (I.set (α := Go.Ab.Upl) l (I.hid (α := Int) (ixU l id)) (Go.Ab.Upl.mk (Go.Ab.Upl.id y0) size (Go.Ab.Upl.note y0) (Go.Ab.Upl.bytes y0) (Go.Ab.Upl.sent y0))))])]))))))))))))) (by kernel_rfl) ?_
  simp only [instL]
  subst hI
  simp only [nrmA, decide_eq_true_eq, decide_eq_false_iff_not, beq_iff_eq, beq_eq_false_iff_ne, Bool.not_eq_true', Bool.not_eq_false', Bool.and_eq_true, Bool.and_true, Bool.true_and, and_true, true_and, ne_eq, Int.toNat_zero, Nat.sub_zero, List.drop_zero, i64_min, i64_max, u8_min, u8_max, ofNat_b2i, b2i_inj, Int.toNat_natCast, Int.ofNat_eq_natCast, UInt8.ofNat_toNat, AOut.ret.injEq, D.v.injEq, D.tup.injEq, V0.one.injEq, C.p.injEq, P.bool.injEq, P.int.injEq, P.str.injEq, Bool.false_eq_true, Bool.true_eq_false, imp_false, Decidable.not_not, not_true_eq_false, not_false_eq_true, List.cons.injEq, P.list.injEq, HO.row.injEq, heq_eq_eq, reduceCtorEq, false_and, and_false, HO.pack.injEq, HO.obj.injEq]
  unfold decL at hl
  rw [he] at hl
  unfold decC at he
  unfold uplAt upl0 at he hl
  by_cases hk : atU l id < l.length
  · rw [ixU_pos hk, Int.toNat_natCast]
    generalize l.getD (atU l id) ⟨0, 0, [], [], 0⟩ = x at *
    (repeat' (first | refine And.intro ?_ ?_ | intro _)) <;> first | omega | exact True.intro | exact False.elim ‹False› | skip
    all_goals first
      | exact hf.1
      | ((repeat (first | rewrite [if_pos (by first | omega | assumption | (simp only [*, or_self, or_true, true_or, or_false, false_or, not_true_eq_false, not_false_eq_true, Bool.false_eq_true, Bool.true_eq_false, and_self, and_true, true_and]; done) | (simp only [*]; omega) | (simp [*]; done) | (simp [*]; omega))] at he | rewrite [if_neg (by first | omega | assumption | (simp only [*, or_self, or_true, true_or, or_false, false_or, not_true_eq_false, not_false_eq_true, Bool.false_eq_true, Bool.true_eq_false, and_self, and_true, true_and]; done) | (simp only [*]; omega) | (simp [*]; done) | (simp [*]; omega))] at he)); subst he; ((repeat (first | rewrite [if_pos (by first | omega | assumption | (simp only [*, or_self, or_true, true_or, or_false, false_or, not_true_eq_false, not_false_eq_true, Bool.false_eq_true, Bool.true_eq_false, and_self, and_true, true_and]; done) | (simp only [*]; omega) | (simp [*]; done) | (simp [*]; omega))] at hl | rewrite [if_neg (by first | omega | assumption | (simp only [*, or_self, or_true, true_or, or_false, false_or, not_true_eq_false, not_false_eq_true, Bool.false_eq_true, Bool.true_eq_false, and_self, and_true, true_and]; done) | (simp only [*]; omega) | (simp [*]; done) | (simp [*]; omega))] at hl))); subst hl; first | rfl | omega)
  · rw [ixU_neg hk]
    (repeat' (first | refine And.intro ?_ ?_ | intro _)) <;> first | omega | exact True.intro | exact False.elim ‹False› | skip
    all_goals first
      | exact hf.1
      | ((repeat (first | rewrite [if_pos (by first | omega | assumption | (simp only [*, or_self, or_true, true_or, or_false, false_or, not_true_eq_false, not_false_eq_true, Bool.false_eq_true, Bool.true_eq_false, and_self, and_true, true_and]; done) | (simp only [*]; omega) | (simp [*]; done) | (simp [*]; omega))] at he | rewrite [if_neg (by first | omega | assumption | (simp only [*, or_self, or_true, true_or, or_false, false_or, not_true_eq_false, not_false_eq_true, Bool.false_eq_true, Bool.true_eq_false, and_self, and_true, true_and]; done) | (simp only [*]; omega) | (simp [*]; done) | (simp [*]; omega))] at he)); subst he; ((repeat (first | rewrite [if_pos (by first | omega | assumption | (simp only [*, or_self, or_true, true_or, or_false, false_or, not_true_eq_false, not_false_eq_true, Bool.false_eq_true, Bool.true_eq_false, and_self, and_true, true_and]; done) | (simp only [*]; omega) | (simp [*]; done) | (simp [*]; omega))] at hl | rewrite [if_neg (by first | omega | assumption | (simp only [*, or_self, or_true, true_or, or_false, false_or, not_true_eq_false, not_false_eq_true, Bool.false_eq_true, Bool.true_eq_false, and_self, and_true, true_and]; done) | (simp only [*]; omega) | (simp [*]; done) | (simp [*]; omega))] at hl))); subst hl; first | rfl | omega)
def hDeclare__c (I : Alg) (args : List D) (hp : List HO) : Option CT := match args, hp with
  | [.v (.one (.ptr 0 0)), .v (.one (.p (.int .i64 id))), .v (.one (.p (.int .i64 size)))], [.pack [.obj 49 [(.row 1), (.p (.int .i64 n))], .row .upl 70 l]] => (fun (l : List Upl) (n id size : Int) => (some (.one ⟨I.hid (SplOk l n), (.ret (.v (.one (.p (.int .i64 (I.hid ((decC l id size)))))))), [.pack [.obj 49 [(.row 1), (.p (.int .i64 n))], .row .upl 70 (I.hid ((decL l id size)))]]⟩) : Option CT)) l n id size
  | _, _ => none
theorem hDeclare__g : GoodC Tryz.prog 112 (hDeclare__c alg) := by
  intro args hp r h
  unfold hDeclare__c at h
  split at h
  · cases h; exact fun hn => hDeclare_ _ _ _ _ hn
  · cases h
def hDeclare__k : Know Tryz.prog := ⟨112, hDeclare__c, hDeclare__g⟩
def hDeclare__l : Know Tryz.prog := ⟨112, fun I => lendC I (hDeclare__c I), lendC_good hDeclare__g⟩

theorem hBegin_ (l : List Upl) (n id : Int) (hneed : SplOk l n) : Spc Tryz.prog 114 [.v (.one (.ptr 0 0)), .v (.one (.p (.int .i64 id)))] [.pack [.obj 49 [(.row 1), (.p (.int .i64 n))], .row .upl 70 l]] (.ret (.v (.one (.p (.int .i64 ((begC l id))))))) [.pack [.obj 49 [(.row 1), (.p (.int .i64 n))], .row .upl 70 ((begL l id))]] := by
  have hs := hneed
  have hf := spl_few hs
  have hle := atU_le l id
  generalize he : begC l id = re
  generalize hl : begL l id = rl
  refine spcG tab_ok mixed Tryz.func114 (by kernel_rfl) { cfgSp with keep := some [0, 1, 4, 5] } [hAt__k, hAt__l] (by kernel_rfl) ?_
  intro I X hI hX
  refine ev_rule (let y0 := I.get (α := Go.Ab.Upl) l (Go.Ab.Upl.mk (0 : Int) (0 : Int) ([] : List UInt8) ([] : List UInt8) (0 : Int)) (I.hid (α := Int) (ixU l id)); let y1 := I.inb (I.hid (α := Int) (ixU l id)) (I.len (α := Go.Ab.Upl) l); .need (I.hid (α := (Prop)) (LE.le (List.length l) 1000000)) (.br (I.ilt (I.hid (α := Int) (ixU l id)) 0) (.fin (.ret (.v (.one (.p (.int .i64 10))))) [(.pack [(.obj 49 [(.row 1), (.p (.int .i64 n))]), (.row .upl 70 l)])]) (.need y1 (.need y1 (.br (I.bnot (I.ieq (Go.Ab.Upl.sent y0) 0)) (.fin (.ret (.v (.one (.p (.int .i64 19))))) [(.pack [(.obj 49 [(.row 1), (.p (.int .i64 n))]), (.row .upl 70 l)])]) (.need y1 (.need y1 (.need y1 (.need y1 (.br (I.bnot (I.ieq (Go.Ab.Upl.size y0) (I.len (α := UInt8) (Go.Ab.Upl.bytes y0)))) (.fin (.ret (.v (.one (.p (.int .i64 14))))) [(.pack [(.obj 49 [(.row 1), (.p (.int .i64 n))]), (.row .upl 70 l)])]) (.need y1 (.need y1 (.fin (.ret (.v (.one (.p (.int .i64 0))))) [(.pack [(.obj 49 [(.row 1), (.p (.int .i64 n))]), (.row .upl 70 (I.set (α := Go.Ab.Upl) l (I.hid (α := Int) (ixU l id)) (Go.Ab.Upl.mk (Go.Ab.Upl.id y0) (Go.Ab.Upl.size y0) (Go.Ab.Upl.note y0) (Go.Ab.Upl.bytes y0) (1 : Int))))])]))))))))))))) (by kernel_rfl) ?_
  simp only [instL]
  subst hI
  simp only [nrmA, decide_eq_true_eq, decide_eq_false_iff_not, beq_iff_eq, beq_eq_false_iff_ne, Bool.not_eq_true', Bool.not_eq_false', Bool.and_eq_true, Bool.and_true, Bool.true_and, and_true, true_and, ne_eq, Int.toNat_zero, Nat.sub_zero, List.drop_zero, i64_min, i64_max, u8_min, u8_max, ofNat_b2i, b2i_inj, Int.toNat_natCast, Int.ofNat_eq_natCast, UInt8.ofNat_toNat, AOut.ret.injEq, D.v.injEq, D.tup.injEq, V0.one.injEq, C.p.injEq, P.bool.injEq, P.int.injEq, P.str.injEq, Bool.false_eq_true, Bool.true_eq_false, imp_false, Decidable.not_not, not_true_eq_false, not_false_eq_true, List.cons.injEq, P.list.injEq, HO.row.injEq, heq_eq_eq, reduceCtorEq, false_and, and_false, HO.pack.injEq, HO.obj.injEq]
  unfold begL at hl
  rw [he] at hl
  unfold begC at he
  unfold uplAt upl0 at he hl
  by_cases hk : atU l id < l.length
  · rw [ixU_pos hk, Int.toNat_natCast]
    generalize l.getD (atU l id) ⟨0, 0, [], [], 0⟩ = x at *
    (repeat' (first | refine And.intro ?_ ?_ | intro _)) <;> first | omega | exact True.intro | exact False.elim ‹False› | skip
    all_goals first
      | exact hf.1
      | ((repeat (first | rewrite [if_pos (by first | omega | assumption | (simp only [*, or_self, or_true, true_or, or_false, false_or, not_true_eq_false, not_false_eq_true, Bool.false_eq_true, Bool.true_eq_false, and_self, and_true, true_and]; done) | (simp only [*]; omega) | (simp [*]; done) | (simp [*]; omega))] at he | rewrite [if_neg (by first | omega | assumption | (simp only [*, or_self, or_true, true_or, or_false, false_or, not_true_eq_false, not_false_eq_true, Bool.false_eq_true, Bool.true_eq_false, and_self, and_true, true_and]; done) | (simp only [*]; omega) | (simp [*]; done) | (simp [*]; omega))] at he)); subst he; ((repeat (first | rewrite [if_pos (by first | omega | assumption | (simp only [*, or_self, or_true, true_or, or_false, false_or, not_true_eq_false, not_false_eq_true, Bool.false_eq_true, Bool.true_eq_false, and_self, and_true, true_and]; done) | (simp only [*]; omega) | (simp [*]; done) | (simp [*]; omega))] at hl | rewrite [if_neg (by first | omega | assumption | (simp only [*, or_self, or_true, true_or, or_false, false_or, not_true_eq_false, not_false_eq_true, Bool.false_eq_true, Bool.true_eq_false, and_self, and_true, true_and]; done) | (simp only [*]; omega) | (simp [*]; done) | (simp [*]; omega))] at hl))); subst hl; first | rfl | omega)
  · rw [ixU_neg hk]
    (repeat' (first | refine And.intro ?_ ?_ | intro _)) <;> first | omega | exact True.intro | exact False.elim ‹False› | skip
    all_goals first
      | exact hf.1
      | ((repeat (first | rewrite [if_pos (by first | omega | assumption | (simp only [*, or_self, or_true, true_or, or_false, false_or, not_true_eq_false, not_false_eq_true, Bool.false_eq_true, Bool.true_eq_false, and_self, and_true, true_and]; done) | (simp only [*]; omega) | (simp [*]; done) | (simp [*]; omega))] at he | rewrite [if_neg (by first | omega | assumption | (simp only [*, or_self, or_true, true_or, or_false, false_or, not_true_eq_false, not_false_eq_true, Bool.false_eq_true, Bool.true_eq_false, and_self, and_true, true_and]; done) | (simp only [*]; omega) | (simp [*]; done) | (simp [*]; omega))] at he)); subst he; ((repeat (first | rewrite [if_pos (by first | omega | assumption | (simp only [*, or_self, or_true, true_or, or_false, false_or, not_true_eq_false, not_false_eq_true, Bool.false_eq_true, Bool.true_eq_false, and_self, and_true, true_and]; done) | (simp only [*]; omega) | (simp [*]; done) | (simp [*]; omega))] at hl | rewrite [if_neg (by first | omega | assumption | (simp only [*, or_self, or_true, true_or, or_false, false_or, not_true_eq_false, not_false_eq_true, Bool.false_eq_true, Bool.true_eq_false, and_self, and_true, true_and]; done) | (simp only [*]; omega) | (simp [*]; done) | (simp [*]; omega))] at hl))); subst hl; first | rfl | omega)
def hBegin__c (I : Alg) (args : List D) (hp : List HO) : Option CT := match args, hp with
  | [.v (.one (.ptr 0 0)), .v (.one (.p (.int .i64 id)))], [.pack [.obj 49 [(.row 1), (.p (.int .i64 n))], .row .upl 70 l]] => (fun (l : List Upl) (n id : Int) => (some (.one ⟨I.hid (SplOk l n), (.ret (.v (.one (.p (.int .i64 (I.hid ((begC l id)))))))), [.pack [.obj 49 [(.row 1), (.p (.int .i64 n))], .row .upl 70 (I.hid ((begL l id)))]]⟩) : Option CT)) l n id
  | _, _ => none
theorem hBegin__g : GoodC Tryz.prog 114 (hBegin__c alg) := by
  intro args hp r h
  unfold hBegin__c at h
  split at h
  · cases h; exact fun hn => hBegin_ _ _ _ hn
  · cases h
def hBegin__k : Know Tryz.prog := ⟨114, hBegin__c, hBegin__g⟩
def hBegin__l : Know Tryz.prog := ⟨114, fun I => lendC I (hBegin__c I), lendC_good hBegin__g⟩

theorem hEnd_ (l : List Upl) (n id : Int) (hneed : SplOk l n) : Spc Tryz.prog 115 [.v (.one (.ptr 0 0)), .v (.one (.p (.int .i64 id)))] [.pack [.obj 49 [(.row 1), (.p (.int .i64 n))], .row .upl 70 l]] (.ret (.v (.one (.p (.int .i64 ((endC l id))))))) [.pack [.obj 49 [(.row 1), (.p (.int .i64 n))], .row .upl 70 ((endL l id))]] := by
  have hs := hneed
  have hf := spl_few hs
  have hle := atU_le l id
  generalize he : endC l id = re
  generalize hl : endL l id = rl
  refine spcG tab_ok mixed Tryz.func115 (by kernel_rfl) { cfgSp with keep := some [0, 1, 4, 5] } [hAt__k, hAt__l] (by kernel_rfl) ?_
  intro I X hI hX
  refine ev_rule (let y0 := I.get (α := Go.Ab.Upl) l (Go.Ab.Upl.mk (0 : Int) (0 : Int) ([] : List UInt8) ([] : List UInt8) (0 : Int)) (I.hid (α := Int) (ixU l id)); let y1 := I.inb (I.hid (α := Int) (ixU l id)) (I.len (α := Go.Ab.Upl) l); .need (I.hid (α := (Prop)) (LE.le (List.length l) 1000000)) (.br (I.ilt (I.hid (α := Int) (ixU l id)) 0) (.fin (.ret (.v (.one (.p (.int .i64 10))))) [(.pack [(.obj 49 [(.row 1), (.p (.int .i64 n))]), (.row .upl 70 l)])]) (.need y1 (.need y1 (.br (I.bnot (I.ieq (Go.Ab.Upl.sent y0) 1)) (.fin (.ret (.v (.one (.p (.int .i64 19))))) [(.pack [(.obj 49 [(.row 1), (.p (.int .i64 n))]), (.row .upl 70 l)])]) (.need y1 (.need y1 (.fin (.ret (.v (.one (.p (.int .i64 0))))) [(.pack [(.obj 49 [(.row 1), (.p (.int .i64 n))]), (.row .upl 70 (I.set (α := Go.Ab.Upl) l (I.hid (α := Int) (ixU l id)) (Go.Ab.Upl.mk (Go.Ab.Upl.id y0) (Go.Ab.Upl.size y0) (Go.Ab.Upl.note y0) (Go.Ab.Upl.bytes y0) (2 : Int))))])])))))))) (by kernel_rfl) ?_
  simp only [instL]
  subst hI
  simp only [nrmA, decide_eq_true_eq, decide_eq_false_iff_not, beq_iff_eq, beq_eq_false_iff_ne, Bool.not_eq_true', Bool.not_eq_false', Bool.and_eq_true, Bool.and_true, Bool.true_and, and_true, true_and, ne_eq, Int.toNat_zero, Nat.sub_zero, List.drop_zero, i64_min, i64_max, u8_min, u8_max, ofNat_b2i, b2i_inj, Int.toNat_natCast, Int.ofNat_eq_natCast, UInt8.ofNat_toNat, AOut.ret.injEq, D.v.injEq, D.tup.injEq, V0.one.injEq, C.p.injEq, P.bool.injEq, P.int.injEq, P.str.injEq, Bool.false_eq_true, Bool.true_eq_false, imp_false, Decidable.not_not, not_true_eq_false, not_false_eq_true, List.cons.injEq, P.list.injEq, HO.row.injEq, heq_eq_eq, reduceCtorEq, false_and, and_false, HO.pack.injEq, HO.obj.injEq]
  unfold endL at hl
  rw [he] at hl
  unfold endC at he
  unfold uplAt upl0 at he hl
  by_cases hk : atU l id < l.length
  · rw [ixU_pos hk, Int.toNat_natCast]
    generalize l.getD (atU l id) ⟨0, 0, [], [], 0⟩ = x at *
    (repeat' (first | refine And.intro ?_ ?_ | intro _)) <;> first | omega | exact True.intro | exact False.elim ‹False› | skip
    all_goals first
      | exact hf.1
      | ((repeat (first | rewrite [if_pos (by first | omega | assumption | (simp only [*, or_self, or_true, true_or, or_false, false_or, not_true_eq_false, not_false_eq_true, Bool.false_eq_true, Bool.true_eq_false, and_self, and_true, true_and]; done) | (simp only [*]; omega) | (simp [*]; done) | (simp [*]; omega))] at he | rewrite [if_neg (by first | omega | assumption | (simp only [*, or_self, or_true, true_or, or_false, false_or, not_true_eq_false, not_false_eq_true, Bool.false_eq_true, Bool.true_eq_false, and_self, and_true, true_and]; done) | (simp only [*]; omega) | (simp [*]; done) | (simp [*]; omega))] at he)); subst he; ((repeat (first | rewrite [if_pos (by first | omega | assumption | (simp only [*, or_self, or_true, true_or, or_false, false_or, not_true_eq_false, not_false_eq_true, Bool.false_eq_true, Bool.true_eq_false, and_self, and_true, true_and]; done) | (simp only [*]; omega) | (simp [*]; done) | (simp [*]; omega))] at hl | rewrite [if_neg (by first | omega | assumption | (simp only [*, or_self, or_true, true_or, or_false, false_or, not_true_eq_false, not_false_eq_true, Bool.false_eq_true, Bool.true_eq_false, and_self, and_true, true_and]; done) | (simp only [*]; omega) | (simp [*]; done) | (simp [*]; omega))] at hl))); subst hl; first | rfl | omega)
  · rw [ixU_neg hk]
    (repeat' (first | refine And.intro ?_ ?_ | intro _)) <;> first | omega | exact True.intro | exact False.elim ‹False› | skip
    all_goals first
      | exact hf.1
      | ((repeat (first | rewrite [if_pos (by first | omega | assumption | (simp only [*, or_self, or_true, true_or, or_false, false_or, not_true_eq_false, not_false_eq_true, Bool.false_eq_true, Bool.true_eq_false, and_self, and_true, true_and]; done) | (simp only [*]; omega) | (simp [*]; done) | (simp [*]; omega))] at he | rewrite [if_neg (by first | omega | assumption | (simp only [*, or_self, or_true, true_or, or_false, false_or, not_true_eq_false, not_false_eq_true, Bool.false_eq_true, Bool.true_eq_false, and_self, and_true, true_and]; done) | (simp only [*]; omega) | (simp [*]; done) | (simp [*]; omega))] at he)); subst he; ((repeat (first | rewrite [if_pos (by first | omega | assumption | (simp only [*, or_self, or_true, true_or, or_false, false_or, not_true_eq_false, not_false_eq_true, Bool.false_eq_true, Bool.true_eq_false, and_self, and_true, true_and]; done) | (simp only [*]; omega) | (simp [*]; done) | (simp [*]; omega))] at hl | rewrite [if_neg (by first | omega | assumption | (simp only [*, or_self, or_true, true_or, or_false, false_or, not_true_eq_false, not_false_eq_true, Bool.false_eq_true, Bool.true_eq_false, and_self, and_true, true_and]; done) | (simp only [*]; omega) | (simp [*]; done) | (simp [*]; omega))] at hl))); subst hl; first | rfl | omega)
def hEnd__c (I : Alg) (args : List D) (hp : List HO) : Option CT := match args, hp with
  | [.v (.one (.ptr 0 0)), .v (.one (.p (.int .i64 id)))], [.pack [.obj 49 [(.row 1), (.p (.int .i64 n))], .row .upl 70 l]] => (fun (l : List Upl) (n id : Int) => (some (.one ⟨I.hid (SplOk l n), (.ret (.v (.one (.p (.int .i64 (I.hid ((endC l id)))))))), [.pack [.obj 49 [(.row 1), (.p (.int .i64 n))], .row .upl 70 (I.hid ((endL l id)))]]⟩) : Option CT)) l n id
  | _, _ => none
theorem hEnd__g : GoodC Tryz.prog 115 (hEnd__c alg) := by
  intro args hp r h
  unfold hEnd__c at h
  split at h
  · cases h; exact fun hn => hEnd_ _ _ _ hn
  · cases h
def hEnd__k : Know Tryz.prog := ⟨115, hEnd__c, hEnd__g⟩
def hEnd__l : Know Tryz.prog := ⟨115, fun I => lendC I (hEnd__c I), lendC_good hEnd__g⟩

theorem hDrop_ (l : List Upl) (n id : Int) (hneed : SplOk l n) : Spc Tryz.prog 113 [.v (.one (.ptr 0 0)), .v (.one (.p (.int .i64 id)))] [.pack [.obj 49 [(.row 1), (.p (.int .i64 n))], .row .upl 70 l]] (.ret (.v (.one (.p (.int .i64 ((droC l id))))))) [.pack [.obj 49 [(.row 1), (.p (.int .i64 n))], .row .upl 70 ((droL l id))]] := by
  have hs := hneed
  have hf := spl_few hs
  have hle := atU_le l id
  have hcn := hs.cnt
  generalize he : droC l id = re
  generalize hl : droL l id = rl
  refine spcG tab_ok mixed Tryz.func113 (by kernel_rfl) { cfgSp with keep := some [0, 1, 4, 5, 6] } [hAt__k, hAt__l] (by kernel_rfl) ?_
  intro I X hI hX
  refine ev_rule (let y1 := I.cut (α := Go.Ab.Upl) l 0 (I.hid (α := Int) (ixU l id)); let y2 := I.add (I.hid (α := Int) (ixU l id)) 1; let y4 := I.cut (α := Go.Ab.Upl) l y2 (I.len (α := Go.Ab.Upl) l); let y0 := I.few (I.add (I.len (α := Go.Ab.Upl) y1) (I.len (α := Go.Ab.Upl) y4)) 100000000; let y3 := I.cutb y2 (I.len (α := Go.Ab.Upl) l) (I.len (α := Go.Ab.Upl) l); let y5 := I.few (I.len (α := Go.Ab.Upl) y1) 100000000; let y6 := I.cutb 0 (I.hid (α := Int) (ixU l id)) (I.len (α := Go.Ab.Upl) l); .need (I.hid (α := (Prop)) (LE.le (List.length l) 1000000)) (.br (I.ilt (I.hid (α := Int) (ixU l id)) 0) (.fin (.ret (.v (.one (.p (.int .i64 10))))) [(.pack [(.obj 49 [(.row 1), (.p (.int .i64 n))]), (.row .upl 70 l)])]) (.need (I.inr Go.IntKind.i64 y2) (.both (.need y6 (.both (.need y5 (.need y3 (.need y0 (.fin (.ret (.v (.one (.p (.int .i64 0))))) [(.pack [(.obj 49 [(.row 1), (.p (.int .i64 n))]), (.row .upl 70 (I.app (α := Go.Ab.Upl) y1 y4))])])))) (.need y3 (.need y5 (.need y0 (.fin (.ret (.v (.one (.p (.int .i64 0))))) [(.pack [(.obj 49 [(.row 1), (.p (.int .i64 n))]), (.row .upl 70 (I.app (α := Go.Ab.Upl) y1 y4))])])))))) (.need y3 (.need y6 (.need y5 (.need y0 (.fin (.ret (.v (.one (.p (.int .i64 0))))) [(.pack [(.obj 49 [(.row 1), (.p (.int .i64 n))]), (.row .upl 70 (I.app (α := Go.Ab.Upl) y1 y4))])]))))))))) (by kernel_rfl) ?_
  simp only [instL]
  subst hI
  simp only [nrmA, decide_eq_true_eq, decide_eq_false_iff_not, beq_iff_eq, beq_eq_false_iff_ne, Bool.not_eq_true', Bool.not_eq_false', Bool.and_eq_true, Bool.and_true, Bool.true_and, and_true, true_and, ne_eq, Int.toNat_zero, Nat.sub_zero, List.drop_zero, i64_min, i64_max, u8_min, u8_max, ofNat_b2i, b2i_inj, Int.toNat_natCast, Int.ofNat_eq_natCast, UInt8.ofNat_toNat, AOut.ret.injEq, D.v.injEq, D.tup.injEq, V0.one.injEq, C.p.injEq, P.bool.injEq, P.int.injEq, P.str.injEq, Bool.false_eq_true, Bool.true_eq_false, imp_false, Decidable.not_not, not_true_eq_false, not_false_eq_true, List.cons.injEq, P.list.injEq, HO.row.injEq, heq_eq_eq, reduceCtorEq, false_and, and_false, HO.pack.injEq, HO.obj.injEq]
  unfold droC at he
  by_cases hk : atU l id < l.length
  · rw [ixU_pos hk]
    have e1 : ((atU l id : Int) + 1).toNat = atU l id + 1 := by omega
    have e2 : (l.drop (atU l id + 1)).take (l.length - (atU l id + 1)) = l.drop (atU l id + 1) := List.take_of_length_le (by rw [List.length_drop]; exact Nat.le_refl _)
    have e3 : l.take (atU l id) ++ l.drop (atU l id + 1) = rl := by rw [← hl]; unfold droL; exact (List.eraseIdx_eq_take_drop_succ l _).symm
    rw [e1, e2, Int.toNat_natCast]
    simp only [List.length_take, List.length_drop]
    (repeat' (first | refine And.intro ?_ ?_ | intro _)) <;> first | omega | exact True.intro | exact False.elim ‹False› | skip
    all_goals first
      | exact hf.1
      | exact e3
      | ((repeat (first | rewrite [if_pos (by first | omega | assumption | (simp only [*, or_self, or_true, true_or, or_false, false_or, not_true_eq_false, not_false_eq_true, Bool.false_eq_true, Bool.true_eq_false, and_self, and_true, true_and]; done) | (simp only [*]; omega) | (simp [*]; done) | (simp [*]; omega))] at he | rewrite [if_neg (by first | omega | assumption | (simp only [*, or_self, or_true, true_or, or_false, false_or, not_true_eq_false, not_false_eq_true, Bool.false_eq_true, Bool.true_eq_false, and_self, and_true, true_and]; done) | (simp only [*]; omega) | (simp [*]; done) | (simp [*]; omega))] at he)); subst he; rfl)
  · rw [ixU_neg hk]
    (repeat' (first | refine And.intro ?_ ?_ | intro _)) <;> first | omega | exact True.intro | exact False.elim ‹False› | skip
    all_goals first
      | exact hf.1
      | ((repeat (first | rewrite [if_pos (by first | omega | assumption | (simp only [*, or_self, or_true, true_or, or_false, false_or, not_true_eq_false, not_false_eq_true, Bool.false_eq_true, Bool.true_eq_false, and_self, and_true, true_and]; done) | (simp only [*]; omega) | (simp [*]; done) | (simp [*]; omega))] at he | rewrite [if_neg (by first | omega | assumption | (simp only [*, or_self, or_true, true_or, or_false, false_or, not_true_eq_false, not_false_eq_true, Bool.false_eq_true, Bool.true_eq_false, and_self, and_true, true_and]; done) | (simp only [*]; omega) | (simp [*]; done) | (simp [*]; omega))] at he)); subst he; rfl)
      | (rw [← hl]; unfold droL; rw [List.eraseIdx_of_length_le (by omega)])
def hDrop__c (I : Alg) (args : List D) (hp : List HO) : Option CT := match args, hp with
  | [.v (.one (.ptr 0 0)), .v (.one (.p (.int .i64 id)))], [.pack [.obj 49 [(.row 1), (.p (.int .i64 n))], .row .upl 70 l]] => (fun (l : List Upl) (n id : Int) => (some (.one ⟨I.hid (SplOk l n), (.ret (.v (.one (.p (.int .i64 (I.hid ((droC l id)))))))), [.pack [.obj 49 [(.row 1), (.p (.int .i64 n))], .row .upl 70 (I.hid ((droL l id)))]]⟩) : Option CT)) l n id
  | _, _ => none
theorem hDrop__g : GoodC Tryz.prog 113 (hDrop__c alg) := by
  intro args hp r h
  unfold hDrop__c at h
  split at h
  · cases h; exact fun hn => hDrop_ _ _ _ hn
  · cases h
def hDrop__k : Know Tryz.prog := ⟨113, hDrop__c, hDrop__g⟩
def hDrop__l : Know Tryz.prog := ⟨113, fun I => lendC I (hDrop__c I), lendC_good hDrop__g⟩

theorem copyR_ (l : List Upl) (hneed : l.length ≤ 1000000 ∧ ∀ u ∈ l, u.bytes.length ≤ 1000000) : Spc Tryz.prog 107 [.v (.one (.row 0))] [.row .upl 70 l] (.ret (.v (.one (.row 1)))) [.row .upl 70 l, .row .upl 70 l] := by
  obtain ⟨hl, hb⟩ := hneed
  refine spcG tab_ok mixed Tryz.func107 (by kernel_rfl) { nr := [3], keep := some [0, 2, 3, 4, 5, 6] } [] (by kernel_rfl) ?_
  intro I X hI hX
  refine ev_rule (.code 0 [1, 1, 0, 1, 0] ⟨[(4, (.v (.one (.p (.int .i64 0))))), (3, (.v (.one (.row 1)))), (2, (.v (.one .nilS))), (0, (.v (.one (.row 0))))], [(.row .upl 70 l), (.row .upl 70 ([] : List Go.Ab.Upl))], 30, none⟩) (by kernel_rfl) ?_
  simp only [instL]
  refine loop_inv hI tab_ok mixed [] hX [0, 3, 4] (fun (g : Nat × List Upl) => match g with | (i, o) => i ≤ l.length ∧ o = l.take i) (fun (g : Nat × List Upl) => match g with | (i, o) => ⟨[(0, .v (.one (.row 0))), (3, .v (.one (.row 1))), (4, .v (.one (.p (.int .i64 i))))], [.row .upl 70 l, .row .upl 70 o], 30, none⟩) (fun (g : Nat × List Upl) => match g with | (i, o) => l.length - i) (0, []) (by kernel_rfl) (by kernel_rfl) ?_ ?_
  · exact ⟨Nat.zero_le _, rfl⟩
  rintro ⟨i, o⟩ ⟨h1, h2⟩ A hA
  simp only at hA
  refine ev_rule (let y0 := I.get (α := Go.Ab.Upl) l (Go.Ab.Upl.mk (0 : Int) (0 : Int) ([] : List UInt8) ([] : List UInt8) (0 : Int)) (Nat.cast i); let y1 := I.inb (Nat.cast i) (I.len (α := Go.Ab.Upl) l); .br (I.ilt (Nat.cast i) (I.len (α := Go.Ab.Upl) l)) (.need y1 (.need y1 (.need y1 (.need y1 (.need (I.few (I.len (α := UInt8) (Go.Ab.Upl.bytes y0)) 140737488355328) (.need (I.few (I.add (I.len (α := Go.Ab.Upl) o) (I.len (α := Go.Ab.Upl) ([(Go.Ab.Upl.mk (Go.Ab.Upl.id y0) (Go.Ab.Upl.size y0) (Go.Ab.Upl.note y0) (Go.Ab.Upl.bytes y0) (Go.Ab.Upl.sent y0))] : List Go.Ab.Upl))) 100000000) (.need (I.inr Go.IntKind.i64 (I.add (Nat.cast i) 1)) (.need (A ⟨[(0, (.v (.one (.row 0)))), (3, (.v (.one (.row 1)))), (4, (.v (.one (.p (.int .i64 (I.add (Nat.cast i) 1))))))], [(.row .upl 70 l), (.row .upl 70 (I.app (α := Go.Ab.Upl) o ([(Go.Ab.Upl.mk (Go.Ab.Upl.id y0) (Go.Ab.Upl.size y0) (Go.Ab.Upl.note y0) (Go.Ab.Upl.bytes y0) (Go.Ab.Upl.sent y0))] : List Go.Ab.Upl)))], 30, none⟩) .qed)))))))) (.fin (.ret (.v (.one (.row 1)))) [(.row .upl 70 l), (.row .upl 70 o)])) (by kernel_rfl) ?_
  simp only [instL]
  subst hI
  simp only [nrmA, decide_eq_true_eq, decide_eq_false_iff_not, beq_iff_eq, beq_eq_false_iff_ne, Bool.not_eq_true', Bool.not_eq_false', Bool.and_eq_true, Bool.and_true, Bool.true_and, and_true, true_and, ne_eq, Int.toNat_zero, Nat.sub_zero, List.drop_zero, i64_min, i64_max, u8_min, u8_max, ofNat_b2i, b2i_inj, Int.toNat_natCast, Int.ofNat_eq_natCast, UInt8.ofNat_toNat, AOut.ret.injEq, D.v.injEq, D.tup.injEq, V0.one.injEq, C.p.injEq, P.bool.injEq, P.int.injEq, P.str.injEq, Bool.false_eq_true, Bool.true_eq_false, imp_false, Decidable.not_not, not_true_eq_false, not_false_eq_true, List.cons.injEq, P.list.injEq, HO.row.injEq, heq_eq_eq, reduceCtorEq, false_and, and_false]
  have hy : i < l.length → l.take (i + 1) = l.take i ++ [l.getD i ⟨0, 0, [], [], 0⟩] := fun h => by rw [List.take_succ_eq_append_getElem h]; simp [h]
  have hm : i < l.length → l.getD i ⟨0, 0, [], [], 0⟩ ∈ l := fun h => by rw [show l.getD i ⟨0, 0, [], [], 0⟩ = l[i] by simp [h]]; exact List.getElem_mem h
  have hw : ¬ i < l.length → o = l := fun h => by rw [h2, List.take_of_length_le (by omega)]
  have hol : o.length ≤ i := by rw [h2, List.length_take]; omega
  refine ⟨fun c => ?_, fun c => hw (by omega)⟩
  have hy := hy (by omega)
  have hm := hb _ (hm (by omega))
  generalize l.getD i ⟨0, 0, [], [], 0⟩ = x at *
  simp only [List.length_cons, List.length_nil]
  (repeat' (first | refine And.intro ?_ ?_ | intro _)) <;> first | omega | exact True.intro | exact False.elim ‹False› | skip
  all_goals first
    | exact hA (i + 1, _) ⟨by simp only; omega, by simp only; rw [hy, h2]⟩ (by simp only; omega)
def copyR__c (I : Alg) (args : List D) (hp : List HO) : Option CT := match args, hp with
  | [.v (.one (.row 0))], [.row .upl 70 l] => (fun (l : List Upl) => (some (.one ⟨I.hid (l.length ≤ 1000000 ∧ ∀ u ∈ l, u.bytes.length ≤ 1000000), (.ret (.v (.one (.row 1)))), [.row .upl 70 l, .row .upl 70 l]⟩) : Option CT)) l
  | _, _ => none
theorem copyR__g : GoodC Tryz.prog 107 (copyR__c alg) := by
  intro args hp r h
  unfold copyR__c at h
  split at h
  · cases h; exact fun hn => copyR_ _ hn
  · cases h
def copyR__k : Know Tryz.prog := ⟨107, copyR__c, copyR__g⟩
def copyR__l : Know Tryz.prog := ⟨107, fun I => lendC I (copyR__c I), lendC_good copyR__g⟩

theorem hCopy_ (l : List Upl) (n : Int) (hneed : SplOk l n) : Spc Tryz.prog 76 [.v (.one (.ptr 0 0))] [.pack [.obj 49 [(.row 1), (.p (.int .i64 n))], .row .upl 70 l]] (.ret (.v (.one (.ptr 1 0)))) [.pack [.obj 49 [(.row 1), (.p (.int .i64 n))], .row .upl 70 l], .pack [.obj 49 [(.row 1), (.p (.int .i64 n))], .row .upl 70 l]] := by
  have hf := spl_few hneed
  refine spcG tab_ok mixed Tryz.func76 (by kernel_rfl) { cfgSp with keep := some [0, 2] } [copyR__k, copyR__l] (by kernel_rfl) ?_
  intro I X hI hX
  refine ev_rule (let y0 := I.hid (α := (Prop)) (And (LE.le (List.length l) 1000000) (∀ (u : Upl), u ∈ l → List.length u.bytes ≤ 1000000)); .both (.both (.need y0 (.fin (.ret (.v (.one (.ptr 1 0)))) [(.pack [(.obj 49 [(.row 1), (.p (.int .i64 n))]), (.row .upl 70 l)]), (.pack [(.obj 49 [(.row 1), (.p (.int .i64 n))]), (.row .upl 70 l)])])) (.need y0 (.fin (.ret (.v (.one (.ptr 1 0)))) [(.pack [(.obj 49 [(.row 1), (.p (.int .i64 n))]), (.row .upl 70 l)]), (.pack [(.obj 49 [(.row 1), (.p (.int .i64 n))]), (.row .upl 70 l)])]))) (.need y0 (.fin (.ret (.v (.one (.ptr 1 0)))) [(.pack [(.obj 49 [(.row 1), (.p (.int .i64 n))]), (.row .upl 70 l)]), (.pack [(.obj 49 [(.row 1), (.p (.int .i64 n))]), (.row .upl 70 l)])]))) (by kernel_rfl) ?_
  simp only [instL]
  subst hI
  simp only [nrmA, decide_eq_true_eq, decide_eq_false_iff_not, beq_iff_eq, beq_eq_false_iff_ne, Bool.not_eq_true', Bool.not_eq_false', Bool.and_eq_true, Bool.and_true, Bool.true_and, and_true, true_and, ne_eq, Int.toNat_zero, Nat.sub_zero, List.drop_zero, i64_min, i64_max, u8_min, u8_max, ofNat_b2i, b2i_inj, Int.toNat_natCast, Int.ofNat_eq_natCast, UInt8.ofNat_toNat, AOut.ret.injEq, D.v.injEq, D.tup.injEq, V0.one.injEq, C.p.injEq, P.bool.injEq, P.int.injEq, P.str.injEq, Bool.false_eq_true, Bool.true_eq_false, imp_false, Decidable.not_not, not_true_eq_false, not_false_eq_true, List.cons.injEq, P.list.injEq, HO.row.injEq, heq_eq_eq, reduceCtorEq, false_and, and_false, HO.pack.injEq, HO.obj.injEq]
  have hb : l.length ≤ 1000000 ∧ ∀ u ∈ l, u.bytes.length ≤ 1000000 := ⟨hf.1, fun u hu => Nat.le_trans (hneed.each u hu).bl (by decide)⟩
  exact ⟨⟨hb, hb⟩, hb⟩
def hCopy__c (I : Alg) (args : List D) (hp : List HO) : Option CT := match args, hp with
  | [.v (.one (.ptr 0 0))], [.pack [.obj 49 [(.row 1), (.p (.int .i64 n))], .row .upl 70 l]] => (fun (l : List Upl) (n : Int) => (some (.one ⟨I.hid (SplOk l n), (.ret (.v (.one (.ptr 1 0)))), [.pack [.obj 49 [(.row 1), (.p (.int .i64 n))], .row .upl 70 l], .pack [.obj 49 [(.row 1), (.p (.int .i64 n))], .row .upl 70 l]]⟩) : Option CT)) l n
  | _, _ => none
theorem hCopy__g : GoodC Tryz.prog 76 (hCopy__c alg) := by
  intro args hp r h
  unfold hCopy__c at h
  split at h
  · cases h; exact fun hn => hCopy_ _ _ hn
  · cases h
def hCopy__k : Know Tryz.prog := ⟨76, hCopy__c, hCopy__g⟩
def hCopy__l : Know Tryz.prog := ⟨76, fun I => lendC I (hCopy__c I), lendC_good hCopy__g⟩

end Go.Proofs.YtjapkdcomcgamaaGreatDoor
