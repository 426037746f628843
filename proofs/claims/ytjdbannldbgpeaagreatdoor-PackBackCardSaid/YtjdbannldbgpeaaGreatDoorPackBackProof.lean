/- PackBack is proved: PackBack. Conditions: those of the given row, none beside. -/
import Derived.Test.YtjdbannldbgpeaaGreatDoorRows
import Derived.Test.YtjdbannldbgpeaaGreatDoorMg
import Derived.Test.YtjdbannldbgpeaaGreatDoorCards
import Derived.Test.YtjdbannldbgpeaaGreatDoorTie
import Derived.WalkKit
import Derived.ProofKit
import Derived.OpenShut
import Derived.ShutString
import Derived.ChangeOld
import Derived.Below
import Derived.SizedLaws
import Derived.LaidMore
import Derived.Lay
import Derived.Stop.Joined
import Derived.SevenTiedAt
namespace Go.Proofs.YtjdbannldbgpeaaGreatDoor.packBack
open Go.ChangeShapes Go.WideShapes Go.ChangeAt Go.RowKit Go.Sep
open Go.ChangeMaps (open_string shut_string)
set_option linter.unusedVariables false

theorem own : ownKnob Tryz.prog.godebug = none := by kernel_rfl
theorem laidOut : laidOutB Tryz.prog = true := by kernel_rfl

set_option maxRecDepth 100000 in
theorem lifted (os : Os) (started : os.Started) (H : Type) (enc : TypeId × Value → H) :
    ReturnsInHanded {} Tryz.checked os 3 .any (fun w args => (Rows.packBackSpec.pre enc Tryz.prog Tryz.f3 [] false w args ∧ laidMetH Tryz.prog Rows.packBackRow.laid w) ∧ sizedMet enc Tryz.prog Tryz.f3 (OpenSpec.ofChange Rows.packBackSpec) false w args)
      (Rows.packBackSpec.post enc Tryz.prog Tryz.f3 false true false false) := by
  refine Go.Ab.retShaped (C := Tryz.checked) (X := fun w _ => laidMetH Tryz.prog Rows.packBackRow.laid w) (fun _ _ _ hh h => h.of_heap hh) own started (by kernel_rfl) Tryz.func3
    (ChangeSpec.witness_shaped (enc := enc) (C := Tryz.checked) (os := os) (X := fun w _ => laidMetH Tryz.prog Rows.packBackRow.laid w) false (World.laidAll Tryz.prog os Rows.packBackRow.laid) #[.string .empty, .slice none 0 0, .slice none 0 0] 8 (World.laidAll_os _ _ _)
      (World.shaped_of_ZipB (by kernel_rfl) (by kernel_rfl)) (by kernel_rfl) (by kernel_rfl) (by kernel_rfl)
      (by rw [MakeChecks.laidMetH_plain _ _ _ (by kernel_rfl)]; exact laidMet_laidAll _ (by kernel_rfl) (by kernel_rfl))) ?_
  intro W base args ds gs before hval0 hW _ hsz0 hL hshp _
  have hval : ∀ (j : Nat) t v, Tryz.f3.params[j]? = some t → args[j]? = some v → Value.okWide Tryz.prog W .any base t v := hval0
  have hW' := hW
  obtain ⟨p, q, hA0, hV, rfl, hfz, hnd⟩ := hW
  have hA : DataW.TrodAll enc Tryz.prog W 0 (fun _ => true) true Tryz.f3.params.toList args.toList ds p := hA0
  have hsz : (DataW.weightsEach Tryz.prog (Tryz.f3.params.toList ++ Rows.packBackSpec.plain.varTypes Tryz.prog) (ds ++ gs)).all (· ≤ reachBytes) = true := hsz0
  have hF : Go.Ab.Holds W := fun w hw => Go.Ab.cell_re hw (Go.Proofs.cell_of_shapedOpen_int (t := 3) (zero := #[.int .i64 0]) hshp (of_decide_eq_true (by kernel_rfl)) (by kernel_rfl) rfl (by kernel_rfl) (by kernel_rfl) (by kernel_rfl))
  rw [Tryz.params3] at hA hval hsz
  obtain ⟨v0, vs0, d0, ds0, p0, q0, hargs, rfl, rfl, h0, r0⟩ := trodAll_cons hA
  obtain ⟨v1, vs1, d1, ds1, p1, q1, rfl, rfl, rfl, h1, r1⟩ := trodAll_cons r0
  obtain ⟨v2, vs2, d2, ds2, p2, q2, rfl, rfl, rfl, h2, r2⟩ := trodAll_cons r1
  obtain ⟨rfl, rfl, rfl⟩ := trodAll_nil r2
  obtain rfl : args = #[v0, v1, v2] := by cases args; simp_all
  obtain ⟨rfl, rfl⟩ := trodVars_none hV
  have k0 := h0
  have lt0 : ∀ x ∈ p0, x.block < W.heap.size := by obtain ⟨m, hm⟩ := k0; exact DataW.trod_lt m _ _ _ hm
  obtain ⟨s0, rfl⟩ := okWide_string Tryz.underlying9 (hval 0 9 v0 rfl rfl)
  obtain ⟨_, m0, x0, rfl, w0⟩ := Go.Ab.z_one (hF := hF) rfl h0 (Go.Ab.small_nth hsz (j := 0) (t := 9) (d := d0) rfl rfl) (Go.Ab.op_str Tryz.underlying9)
  have k1 := h1
  have lt1 : ∀ x ∈ p1, x.block < W.heap.size := by obtain ⟨m, hm⟩ := k1; exact DataW.trod_lt m _ _ _ hm
  obtain ⟨a1, len1, cap1, rfl⟩ := okWide_slice Tryz.underlying22 (hval 1 22 v1 rfl rfl)
  obtain ⟨_, m1, x1, rfl, w1⟩ := Go.Ab.z_one (hF := hF) rfl h1 (Go.Ab.small_nth hsz (j := 1) (t := 22) (d := d1) rfl rfl) (Go.Ab.op_list (u := .prw) Tryz.underlying22 (by kernel_rfl) (by kernel_rfl) ((Go.Ab.op_struct Tryz.underlying43 (by kernel_rfl) (Go.Ab.zbL.cons (Go.Ab.op_str Tryz.underlying9) (Go.Ab.zbL.cons (Go.Ab.op_str Tryz.underlying9) (Go.Ab.zbL.cons (Go.Ab.op_str Tryz.underlying9) (Go.Ab.zbL.cons (Go.Ab.op_list (u := .byte) Tryz.underlying26 (by kernel_rfl) (by kernel_rfl) (Go.Ab.op_byte Tryz.underlying5)) Go.Ab.zbL.nil))))).mono Go.Ab.q_prw))
  have k2 := h2
  have lt2 : ∀ x ∈ p2, x.block < W.heap.size := by obtain ⟨m, hm⟩ := k2; exact DataW.trod_lt m _ _ _ hm
  obtain ⟨a2, len2, cap2, rfl⟩ := okWide_slice Tryz.underlying23 (hval 2 23 v2 rfl rfl)
  obtain ⟨_, m2, x2, rfl, w2⟩ := Go.Ab.z_one (hF := hF) rfl h2 (Go.Ab.small_nth hsz (j := 2) (t := 23) (d := d2) rfl rfl) (Go.Ab.op_list (u := .int) Tryz.underlying23 (by kernel_rfl) (by kernel_rfl) (Go.Ab.op_int Tryz.underlying3))
  clear hA0 hval0 hsz0
  refine (Go.Ab.Spc.law (hF := hF) (vs := [(.string s0), (.slice a1 len1 cap1), (.slice a2 len2 cap2)]) (pkBack_ _ _ _ ⟨w0, fun f hf => ⟨⟨(w1.2 f hf).1, (w1.2 f hf).2.1⟩, (w1.2 f hf).2.2.1, (w1.2 f hf).2.2.2⟩⟩) ⟨m0.1, m1.1, m2.1, trivial⟩).mono fun e W' ⟨he, bel⟩ => ?_
  subst he
  exact ⟨_, rfl, _, _, _, [], _, [], hW', trodAll_mk1 (shut_bool Tryz.underlying4 _), (trodAll_cons_mk (Below.trod laidOut (by kernel_rfl) (of_decide_eq_true (by kernel_rfl)) k0 bel lt0) (trodAll_cons_mk (Below.trod laidOut (by kernel_rfl) (of_decide_eq_true (by kernel_rfl)) k1 bel lt1) (trodAll_cons_mk (Below.trod laidOut (by kernel_rfl) (of_decide_eq_true (by kernel_rfl)) k2 bel lt2) trodAll_mk0))), rfl, bel.frame _, fun h => by cases h⟩

theorem join0 : Tryz.prog.inPlace 3 = Rows.packBackRow.inPlace := by kernel_rfl
theorem join1 : Tryz.prog.unfollowed 3 = Rows.packBackRow.unfollowed := by kernel_rfl
theorem join2 : Tryz.prog.recurses 3 = Rows.packBackRow.recurses := by kernel_rfl
theorem join3 : Tryz.prog.varsNamed 3 = Rows.packBackRow.named := by kernel_rfl
theorem joined : joinedFacts Tryz.prog 3 Tryz.f3 Rows.packBackSpec Rows.packBackRow = true := by
  unfold joinedFacts
  rw [join0, join1, join2, join3]
  kernel_rfl
theorem wrapper : Func.isWrapper Tryz.prog Tryz.f3 Rows.packBackRow.wrapper Rows.packBackRow.mainSum := by
  unfold Func.isWrapper
  first | (rw [if_pos (by decide +kernel)]; kernel_rfl) | (rw [if_neg (by decide +kernel)]; exact ⟨rfl, rfl⟩)
theorem over : Rows.packBackRow.holds Tryz.pinned (OpenSpec.ofChange Rows.packBackSpec) :=
  OpenClaim.holds_of_wide 3 Tryz.f3 rfl rfl rfl rfl rfl rfl rfl ⟨rfl, rfl, rfl, rfl, rfl⟩ rfl rfl rfl rfl rfl (by kernel_rfl) Tryz.func3 joined
    (of_decide_eq_true (by kernel_rfl)) wrapper
    (fun os started H enc _ => lifted os started H enc)

theorem proved : Rows.PackBackCardSaid :=
  Claim7.holds_tied_plain_at .later [] _ true _ true over (fun _ h => by cases h) (by kernel_rfl) (fun _ h => by cases h) packBack_row_tie rfl ⟨rfl, rfl⟩ (by kernel_rfl) rfl
    (fun f fn hf hfn => by
      obtain rfl : f = 3 := Option.some.inj ((show Tryz.prog.funcNamed Rows.packBackRow.func = some 3 by kernel_rfl).symm.trans hf) |>.symm
      obtain rfl : fn = Tryz.f3 := (Option.some.inj (Tryz.func3.symm.trans hfn)).symm
      exact ⟨by kernel_rfl, fun j t ht => by
        rw [Tryz.params3] at ht
        have hm : t ∈ [9, 22, 23] := by simpa using Array.mem_of_getElem? ht
        have hall : ([9, 22, 23].all fun u => !Tryz.prog.wantsStandIn u) = true := by kernel_rfl
        exact (show Tryz.prog.wantsStandIn t = false by simpa using List.all_eq_true.1 hall t hm)⟩)
    (by kernel_rfl)
#print axioms proved
end Go.Proofs.YtjdbannldbgpeaaGreatDoor.packBack
