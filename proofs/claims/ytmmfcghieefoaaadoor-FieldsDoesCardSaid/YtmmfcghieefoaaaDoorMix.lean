/- Regions that draw their order, with more than one operation that turns the world. -/
import Derived.Test.YtmmfcghieefoaaaDoorHeap
import Derived.Test.YtmmfcghieefoaaaDoorStill
import Derived.OrdersHeld
import Derived.Deep.QuietTactic
import Derived.BigQuiet
set_option linter.all false
namespace Go.Sep
open Go

/-- Operations that yield a value and never call. -/
def calm (ρ : Operand → Value) : Op → Bool
  | .nilCheck x => match ρ x with | .pointer (some _) => true | _ => false
  | .move _ | .assign _ | .pick .. | .load .. | .binOp .. | .unOp .. | .convert .. | .slice .. | .fieldAddr .. | .field .. | .indexAddr .. | .index .. | .extract .. | .build .. | .makeInterface .. => true
  | .call c => match c.callee with | .builtin .len | .builtin .cap | .builtin .min | .builtin .max => true | _ => false
  | _ => false

theorem value_only {P : Program} {w w' : World} {s : Sem Value} {n : Next} (h : (do pure (.value (← s)) : Sem Next).run P w = .ok n w') : ∃ u, n = .value u := by
  simp only [Sem.run_bind] at h
  cases hs : s.run P w with
  | ok u w1 => rw [hs] at h; simp only [Result.andThen_ok, Sem.run_pure] at h; cases h; exact ⟨u, rfl⟩
  | halt x w1 => rw [hs] at h; cases h

theorem calm_value {P : Program} {w w' : World} {ρ : Operand → Value} {o : Oper} {n : Next} (hc : calm ρ o.op = true) (h : (execOp ρ o).run P w = .ok n w') : ∃ u, n = .value u := by
  unfold execOp at h
  cases ho : o.op <;> rw [ho] at hc h <;> simp only [calm, Bool.false_eq_true] at hc
  case move x => cases h; exact ⟨_, rfl⟩
  case assign x => cases h; exact ⟨_, rfl⟩
  case call c =>
    cases hcal : c.callee <;> simp only [hcal, Bool.false_eq_true] at hc
    case builtin b =>
      simp only [resolve, hcal, Sem.run_bind, Sem.run_pure, Result.andThen_ok, invoke] at h
      cases b <;> simp only [Bool.false_eq_true] at hc <;> exact value_only h
  case nilCheck x =>
    cases hx : ρ x <;> simp only [hx, Bool.false_eq_true] at hc
    case pointer p =>
      cases p <;> simp only [Bool.false_eq_true] at hc
      simp only [hx] at h
      cases h
      exact ⟨_, rfl⟩
  case pick c x y =>
    simp only [Sem.run_bind] at h
    cases hb : (asBool (ρ c)).run P w with
    | ok u w1 => rw [hb] at h; simp only [Result.andThen_ok, Sem.run_pure] at h; cases h; exact ⟨_, rfl⟩
    | halt x w1 => rw [hb] at h; cases h
  all_goals exact value_only h

section
variable {P : Program} {ops : Array Oper} {Q : Exit → Act → World → Prop} {S : World → Prop}

/-- A calm operation, taken first. -/
theorem anyH_take {i : Nat} {o : Oper} {fuel : Nat} {listed : Array Bool} {a : Act} {w : World} (hi : ops[i]? = some o)
    (hs : Region.noSelect ops = true) (hf : Region.free .any ops listed i = true) (hr : (Region.ready .any ops listed).contains i = true)
    (hQ : ∀ v c a w, Q (.panic c) (a.put o.dst v) w → Q (.panic c) a w) (hS : S w) (hc : calm a.eval o.op = true) (hw : Region.wanted o (yielded ops a.tmps) = true)
    (h : ∀ K : Act → Prop, (∀ a', wpAnyH P .any ops Q S fuel (listed.setIfInBounds i true) a' w → K a') → o.quiet P a S K) : wpAnyH P .any ops Q S (fuel + 1) listed a w := by
  obtain ⟨v, hv, hk⟩ := h (fun a' => wpAnyH P .any ops Q S fuel (listed.setIfInBounds i true) a' w) (fun _ h => h)
  refine wpAnyH_take hi hs hf hr (hQ v) (.inl ⟨hw, fun w1 h1 => ?_⟩) hS hk
  have h2 := hv w1 h1
  unfold Oper.quietAt at h2
  cases hr : (execOp a.eval o).run P w1 with
  | ok n w2 =>
    obtain ⟨u, rfl⟩ := calm_value hc hr
    rw [hr] at h2
    obtain ⟨rfl, rfl⟩ := h2
    rfl
  | halt x w2 => rw [hr] at h2; exact h2.elim

/-- One that its guard passes over. -/
theorem anyH_pass {i : Nat} {o : Oper} {fuel : Nat} {listed : Array Bool} {a : Act} {w : World} (hi : ops[i]? = some o)
    (hs : Region.noSelect ops = true) (hf : Region.free .any ops listed i = true) (hr : (Region.ready .any ops listed).contains i = true)
    (hQ : ∀ v c a w, Q (.panic c) (a.put o.dst v) w → Q (.panic c) a w) (hS : S w) (hw : Region.wanted o (yielded ops a.tmps) = false)
    (h : wpAnyH P .any ops Q S fuel (listed.setIfInBounds i true) (a.put o.dst undef) w) : wpAnyH P .any ops Q S (fuel + 1) listed a w :=
  wpAnyH_take hi hs hf hr (hQ undef) (.inr ⟨hw, rfl⟩) hS h

/-- The exits of one loud operation. -/
def loudQ (P : Program) (ops : Array Oper) (Q : Exit → Act → World → Prop) (S : World → Prop) (fuel : Nat) (listed : Array Bool) : Exit → Act → World → Prop
  | .normal, a, w => S w ∧ wpAnyH P .any ops Q S fuel listed a w
  | .outgrown, _, _ => False
  | e, a, w => Q e a w

theorem loud_op {i : Nat} {o : Oper} {fuel : Nat} {listed : Array Bool} {a : Act} {w : World} (hi : ops[i]? = some o)
    (h : wpList P ops (loudQ P ops Q S fuel listed) [o] a w) : wpOp P ops Q i (fun a' w' => S w' ∧ wpAnyH P .any ops Q S fuel listed a' w') a w := by
  unfold wpOp
  simp only [hi]
  unfold wpList at h
  split
  · rename_i hw
    rw [if_pos hw] at h
    rcases h with h | ⟨_, _, _, h⟩
    · refine .inl ?_
      unfold Oper.wp at *
      generalize (execOp a.eval o).run P w = r at *
      cases r with
      | ok n w' =>
        cases n <;> simp only [Oper.upon] at h ⊢
        case value u => exact h
        case skip => exact h
        case defer d => exact h
        case enter f args =>
          refine Calls.mono h fun e w'' he => ?_
          cases e with
          | returned u => exact he
          | panicked c => exact he
          | outgrown => obtain ⟨_, _, h⟩ := he; exact h.elim
        case row row args => exact Rows.mono h fun u w'' he => he
      | halt x w' =>
        cases x <;> simp only [Oper.upon] at h ⊢
        case panic u => exact h
    · exact h.elim
  · rename_i hw
    rw [if_neg hw] at h
    exact h

/-- One loud operation may come up. -/
theorem anyH_loud {i : Nat} {o : Oper} {fuel : Nat} {listed : Array Bool} {a : Act} {w : World} (hr : Region.ready .any ops listed = [i]) (hi : ops[i]? = some o)
    (h : wpList P ops (loudQ P ops Q S fuel (listed.setIfInBounds i true)) [o] a w) : wpAnyH P .any ops Q S (fuel + 1) listed a w :=
  wpAnyH_all hr (by simp) fun j hj => by
    simp only [List.mem_singleton] at hj
    subst hj
    exact loud_op hi h
/-- Two may. -/
theorem anyH_loud2 {i j : Nat} {o p : Oper} {fuel : Nat} {listed : Array Bool} {a : Act} {w : World} (hr : Region.ready .any ops listed = [i, j]) (hi : ops[i]? = some o) (hj : ops[j]? = some p)
    (h1 : wpList P ops (loudQ P ops Q S fuel (listed.setIfInBounds i true)) [o] a w) (h2 : wpList P ops (loudQ P ops Q S fuel (listed.setIfInBounds j true)) [p] a w) : wpAnyH P .any ops Q S (fuel + 1) listed a w :=
  wpAnyH_all hr (by simp) fun k hk => by
    simp only [List.mem_cons, List.not_mem_nil, or_false] at hk
    rcases hk with rfl | rfl
    · exact loud_op hi h1
    · exact loud_op hj h2
theorem loud_end {fuel : Nat} {listed : Array Bool} {a : Act} {w : World} (hS : S w) (h : wpAnyH P .any ops Q S fuel listed a w) : wpList P ops (loudQ P ops Q S fuel listed) [] a w := ⟨hS, h⟩

/-- The beginning. -/
theorem region_mix {id : Nat} {a : Act} {w : World} {l : List Oper} {L : List Chunk} (S : World → Prop) (hm : P.follows .mixedOrders = true) (H : At w L)
    (h : ∀ w1, At w1 L → wpAnyH P .any l.toArray Q S l.length (Array.replicate l.length false) a w1) : (Code.region id l.toArray true).wp P Q a w :=
  wp_region_held hm (by simpa using h _ H.drew)

/-- What reads, in every world that meets S. -/
theorem quiet_sem {o : Oper} {a : Act} {K : Act → Prop} {v : Value} (hr : ∀ w, S w → (execOp a.eval o).run P w = .ok (.value v) w) (h : K (a.put o.dst v)) : o.quiet P a S K :=
  ⟨v, fun w hw => by unfold Oper.quietAt; rw [hr w hw]; exact ⟨rfl, rfl⟩, h⟩
end
end Go.Sep
