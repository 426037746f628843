/- RequestBack is proved: RequestBack. Conditions: those of the given row, none beside. -/
import Derived.Test.YtmibhbdfigpkmaaGreatDoorRows
import Derived.Test.YtmibhbdfigpkmaaGreatDoorMe
import Derived.Test.YtmibhbdfigpkmaaGreatDoorCards
import Derived.Test.YtmibhbdfigpkmaaGreatDoorTie
import Derived.WalkKit
import Derived.ProofKit
import Derived.OpenShut
import Derived.ShutString
import Derived.ChangeOld
import Derived.Below
import Derived.SizedLaws
import Derived.LaidMore
import Derived.Lay
import Derived.Stop.Joined
import Derived.SevenTiedAt
namespace Go.Proofs.YtmibhbdfigpkmaaGreatDoor.requestBack
open Go.ChangeShapes Go.WideShapes Go.ChangeAt Go.RowKit Go.Sep
open Go.ChangeMaps (open_string shut_string)
set_option linter.unusedVariables false

theorem own : ownKnob Tryz.prog.godebug = none := by kernel_rfl
theorem laidOut : laidOutB Tryz.prog = true := by kernel_rfl

set_option maxRecDepth 100000 in
theorem lifted (os : Os) (started : os.Started) (H : Type) (enc : TypeId × Value → H) :
    ReturnsInHanded {} Tryz.checked os 5 .any (fun w args => (Rows.requestBackSpec.pre enc Tryz.prog Tryz.f5 [] false w args ∧ laidMetH Tryz.prog Rows.requestBackRow.laid w) ∧ sizedMet enc Tryz.prog Tryz.f5 (OpenSpec.ofChange Rows.requestBackSpec) false w args)
      (Rows.requestBackSpec.post enc Tryz.prog Tryz.f5 false true false false) := by
  refine Go.Ab.retShaped (C := Tryz.checked) (X := fun w _ => laidMetH Tryz.prog Rows.requestBackRow.laid w) (fun _ _ _ hh h => h.of_heap hh) own started (by kernel_rfl) Tryz.func5
    (ChangeSpec.witness_shaped (enc := enc) (C := Tryz.checked) (os := os) (X := fun w _ => laidMetH Tryz.prog Rows.requestBackRow.laid w) false (World.laidAll Tryz.prog os Rows.requestBackRow.laid) #[.agg #[.string .empty, .string .empty, .int .i64 0, .slice none 0 0, .int .i64 0], .agg #[.string .empty, .string .empty, .int .i64 0, .slice none 0 0, .int .i64 0], .slice none 0 0, .slice none 0 0, .slice none 0 0] 8 (World.laidAll_os _ _ _)
      (World.shaped_of_ZipB (by kernel_rfl) (by kernel_rfl)) (by kernel_rfl) (by kernel_rfl) (by kernel_rfl)
      (by rw [MakeChecks.laidMetH_plain _ _ _ (by kernel_rfl)]; exact laidMet_laidAll _ (by kernel_rfl) (by kernel_rfl))) ?_
  intro W base args ds gs before hval0 hW _ hsz0 hL hshp _
  have hval : ∀ (j : Nat) t v, Tryz.f5.params[j]? = some t → args[j]? = some v → Value.okWide Tryz.prog W .any base t v := hval0
  have hW' := hW
  obtain ⟨p, q, hA0, hV, rfl, hfz, hnd⟩ := hW
  have hA : DataW.TrodAll enc Tryz.prog W 0 (fun _ => true) true Tryz.f5.params.toList args.toList ds p := hA0
  have hsz : (DataW.weightsEach Tryz.prog (Tryz.f5.params.toList ++ Rows.requestBackSpec.plain.varTypes Tryz.prog) (ds ++ gs)).all (· ≤ reachBytes) = true := hsz0
  have hF : Go.Ab.Holds W := fun w hw => ⟨Go.Ab.tabIs_of hw (Go.Ab.pow10_of 1 135 125 (by kernel_rfl) (by kernel_rfl) (by kernel_rfl) (by kernel_rfl) (by kernel_rfl) (by kernel_rfl) (by kernel_rfl) (Go.Ab.laid_tail (Go.Ab.laid_tail (by rw [MakeChecks.laidMetH_plain _ _ _ (by kernel_rfl)] at hL; exact hL)))), Go.Ab.cell_re hw (Go.Proofs.cell_of_shapedOpen_int (t := 3) (zero := #[.int .i64 0]) hshp (of_decide_eq_true (by kernel_rfl)) (by kernel_rfl) rfl (by kernel_rfl) (by kernel_rfl) (by kernel_rfl))⟩
  rw [Tryz.params5] at hA hval hsz
  obtain ⟨v0, vs0, d0, ds0, p0, q0, hargs, rfl, rfl, h0, r0⟩ := trodAll_cons hA
  obtain ⟨v1, vs1, d1, ds1, p1, q1, rfl, rfl, rfl, h1, r1⟩ := trodAll_cons r0
  obtain ⟨v2, vs2, d2, ds2, p2, q2, rfl, rfl, rfl, h2, r2⟩ := trodAll_cons r1
  obtain ⟨v3, vs3, d3, ds3, p3, q3, rfl, rfl, rfl, h3, r3⟩ := trodAll_cons r2
  obtain ⟨v4, vs4, d4, ds4, p4, q4, rfl, rfl, rfl, h4, r4⟩ := trodAll_cons r3
  obtain ⟨rfl, rfl, rfl⟩ := trodAll_nil r4
  obtain rfl : args = #[v0, v1, v2, v3, v4] := by cases args; simp_all
  obtain ⟨rfl, rfl⟩ := trodVars_none hV
  have k0 := h0
  have lt0 : ∀ x ∈ p0, x.block < W.heap.size := by obtain ⟨m, hm⟩ := k0; exact DataW.trod_lt m _ _ _ hm
  obtain ⟨a0, rfl, sz0⟩ := okWide_struct Tryz.underlying25 (hval 0 25 v0 rfl rfl)
  obtain ⟨_, m0, x0, rfl, w0⟩ := Go.Ab.z_agg (hF := hF) h0 (Go.Ab.small_nth hsz (j := 0) (t := 25) (d := d0) rfl rfl) ((Go.Ab.op_struct Tryz.underlying25 (by kernel_rfl) (Go.Ab.zaB.cons (Go.Ab.op_str Tryz.underlying9) (Go.Ab.zaB.cons (Go.Ab.op_str Tryz.underlying9) (Go.Ab.zaB.cons (Go.Ab.op_int Tryz.underlying3) (Go.Ab.zaB.cons (Go.Ab.op_list (u := .fld) Tryz.underlying23 (by kernel_rfl) (by kernel_rfl) ((Go.Ab.op_struct Tryz.underlying51 (by kernel_rfl) (Go.Ab.zaB.cons (Go.Ab.op_str Tryz.underlying9) (Go.Ab.zaB.cons (Go.Ab.op_str Tryz.underlying9) Go.Ab.zaB.nil))).mono Go.Ab.q_fld)) (Go.Ab.zaB.cons (Go.Ab.op_int Tryz.underlying3) Go.Ab.zaB.nil)))))).mono Go.Ab.q_hd)
  have k1 := h1
  have lt1 : ∀ x ∈ p1, x.block < W.heap.size := by obtain ⟨m, hm⟩ := k1; exact DataW.trod_lt m _ _ _ hm
  obtain ⟨a1, rfl, sz1⟩ := okWide_struct Tryz.underlying25 (hval 1 25 v1 rfl rfl)
  obtain ⟨_, m1, x1, rfl, w1⟩ := Go.Ab.z_agg (hF := hF) h1 (Go.Ab.small_nth hsz (j := 1) (t := 25) (d := d1) rfl rfl) ((Go.Ab.op_struct Tryz.underlying25 (by kernel_rfl) (Go.Ab.zaB.cons (Go.Ab.op_str Tryz.underlying9) (Go.Ab.zaB.cons (Go.Ab.op_str Tryz.underlying9) (Go.Ab.zaB.cons (Go.Ab.op_int Tryz.underlying3) (Go.Ab.zaB.cons (Go.Ab.op_list (u := .fld) Tryz.underlying23 (by kernel_rfl) (by kernel_rfl) ((Go.Ab.op_struct Tryz.underlying51 (by kernel_rfl) (Go.Ab.zaB.cons (Go.Ab.op_str Tryz.underlying9) (Go.Ab.zaB.cons (Go.Ab.op_str Tryz.underlying9) Go.Ab.zaB.nil))).mono Go.Ab.q_fld)) (Go.Ab.zaB.cons (Go.Ab.op_int Tryz.underlying3) Go.Ab.zaB.nil)))))).mono Go.Ab.q_hd)
  have k2 := h2
  have lt2 : ∀ x ∈ p2, x.block < W.heap.size := by obtain ⟨m, hm⟩ := k2; exact DataW.trod_lt m _ _ _ hm
  obtain ⟨a2, len2, cap2, rfl⟩ := okWide_slice Tryz.underlying22 (hval 2 22 v2 rfl rfl)
  obtain ⟨_, m2, x2, rfl, w2⟩ := Go.Ab.z_one (hF := hF) rfl h2 (Go.Ab.small_nth hsz (j := 2) (t := 22) (d := d2) rfl rfl) (Go.Ab.op_list (u := .byte) Tryz.underlying22 (by kernel_rfl) (by kernel_rfl) (Go.Ab.op_byte Tryz.underlying5))
  have k3 := h3
  have lt3 : ∀ x ∈ p3, x.block < W.heap.size := by obtain ⟨m, hm⟩ := k3; exact DataW.trod_lt m _ _ _ hm
  obtain ⟨a3, len3, cap3, rfl⟩ := okWide_slice Tryz.underlying22 (hval 3 22 v3 rfl rfl)
  obtain ⟨_, m3, x3, rfl, w3⟩ := Go.Ab.z_one (hF := hF) rfl h3 (Go.Ab.small_nth hsz (j := 3) (t := 22) (d := d3) rfl rfl) (Go.Ab.op_list (u := .byte) Tryz.underlying22 (by kernel_rfl) (by kernel_rfl) (Go.Ab.op_byte Tryz.underlying5))
  have k4 := h4
  have lt4 : ∀ x ∈ p4, x.block < W.heap.size := by obtain ⟨m, hm⟩ := k4; exact DataW.trod_lt m _ _ _ hm
  obtain ⟨a4, len4, cap4, rfl⟩ := okWide_slice Tryz.underlying44 (hval 4 44 v4 rfl rfl)
  obtain ⟨_, m4, x4, rfl, w4⟩ := Go.Ab.z_one (hF := hF) rfl h4 (Go.Ab.small_nth hsz (j := 4) (t := 44) (d := d4) rfl rfl) (Go.Ab.op_list (u := .int) Tryz.underlying44 (by kernel_rfl) (by kernel_rfl) (Go.Ab.op_int Tryz.underlying3))
  clear hA0 hval0 hsz0
  refine (Go.Ab.Spc.law (hF := hF) (vs := [(.agg a0), (.agg a1), (.slice a2 len2 cap2), (.slice a3 len3 cap3), (.slice a4 len4 cap4)]) (rqBack_ _ _ _ _ _ _ _ _ _ _ _ _ _ ⟨⟨⟨w0.1, w0.2.1⟩, w1.1, w1.2.1⟩, ⟨w0.2.2.2.1.2, w1.2.2.2.1.2⟩, w2.1, w3.1⟩) ⟨Go.Ab.md_agg m0, Go.Ab.md_agg m1, m2.1, m3.1, m4.1, trivial⟩).mono fun e W' ⟨he, bel⟩ => ?_
  subst he
  exact ⟨_, rfl, _, _, _, [], _, [], hW', trodAll_mk1 (shut_bool Tryz.underlying4 _), (trodAll_cons_mk (Below.trod laidOut (by kernel_rfl) (of_decide_eq_true (by kernel_rfl)) k0 bel lt0) (trodAll_cons_mk (Below.trod laidOut (by kernel_rfl) (of_decide_eq_true (by kernel_rfl)) k1 bel lt1) (trodAll_cons_mk (Below.trod laidOut (by kernel_rfl) (of_decide_eq_true (by kernel_rfl)) k2 bel lt2) (trodAll_cons_mk (Below.trod laidOut (by kernel_rfl) (of_decide_eq_true (by kernel_rfl)) k3 bel lt3) (trodAll_cons_mk (Below.trod laidOut (by kernel_rfl) (of_decide_eq_true (by kernel_rfl)) k4 bel lt4) trodAll_mk0))))), rfl, bel.frame _, fun h => by cases h⟩

theorem over : Rows.requestBackRow.holds Tryz.pinned (OpenSpec.ofChange Rows.requestBackSpec) :=
  OpenClaim.holds_of_wide 5 Tryz.f5 rfl rfl rfl rfl rfl rfl rfl ⟨rfl, rfl, rfl, rfl, rfl⟩ rfl rfl rfl rfl rfl (by kernel_rfl) Tryz.func5 (by kernel_rfl)
    (of_decide_eq_true (by kernel_rfl)) (by unfold Func.isWrapper; first | (rw [if_pos (by decide +kernel)]; kernel_rfl) | (rw [if_neg (by decide +kernel)]; exact ⟨rfl, rfl⟩))
    (fun os started H enc _ => lifted os started H enc)

theorem proved : Rows.RequestBackCardSaid :=
  Claim7.holds_tied_plain_at .later [] _ true _ false over (fun _ h => by cases h) (by kernel_rfl) (fun _ h => by cases h) requestBack_row_tie rfl ⟨rfl, rfl⟩ (by kernel_rfl) rfl
    (fun f fn hf hfn => by
      obtain rfl : f = 5 := Option.some.inj ((show Tryz.prog.funcNamed Rows.requestBackRow.func = some 5 by kernel_rfl).symm.trans hf) |>.symm
      obtain rfl : fn = Tryz.f5 := (Option.some.inj (Tryz.func5.symm.trans hfn)).symm
      exact ⟨by kernel_rfl, fun j t ht => by
        rw [Tryz.params5] at ht
        have hm : t ∈ [25, 25, 22, 22, 44] := by simpa using Array.mem_of_getElem? ht
        have hall : ([25, 25, 22, 22, 44].all fun u => !Tryz.prog.wantsStandIn u) = true := by kernel_rfl
        exact (show Tryz.prog.wantsStandIn t = false by simpa using List.all_eq_true.1 hall t hm)⟩)
    (by kernel_rfl)
#print axioms proved
end Go.Proofs.YtmibhbdfigpkmaaGreatDoor.requestBack
