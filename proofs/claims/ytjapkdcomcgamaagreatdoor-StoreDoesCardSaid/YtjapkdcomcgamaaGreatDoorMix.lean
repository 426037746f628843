/- Regions that draw their order, with more than one operation that turns the world. -/
import Derived.Test.YtjapkdcomcgamaaGreatDoorHeap
import Derived.Test.YtjapkdcomcgamaaGreatDoorStill
import Derived.OrdersHeld
import Derived.Deep.QuietTactic
import Derived.BigQuiet
set_option linter.all false
namespace Go.Sep
open Go

/-- Operations that yield a value and never call. -/
def calm (ρ : Operand → Value) : Op → Bool
  | .nilCheck x => match ρ x with | .pointer (some _) => true | _ => false
  | .move _ | .assign _ | .pick .. | .load .. | .binOp .. | .unOp .. | .convert .. | .slice .. | .fieldAddr .. | .field .. | .indexAddr .. | .index .. | .extract .. | .build .. | .makeInterface .. => true
  | .call c => match c.callee with | .builtin .len | .builtin .cap | .builtin .min | .builtin .max => true | _ => false
  | _ => false

theorem value_only {P : Program} {w w' : World} {s : Sem Value} {n : Next} (h : (do pure (.value (← s)) : Sem Next).run P w = .ok n w') : ∃ u, n = .value u := by
  simp only [Sem.run_bind] at h
  cases hs : s.run P w with
  | ok u w1 => rw [hs] at h; simp only [Result.andThen_ok, Sem.run_pure] at h; cases h; exact ⟨u, rfl⟩
  | halt x w1 => rw [hs] at h; cases h

theorem calm_value {P : Program} {w w' : World} {ρ : Operand → Value} {o : Oper} {n : Next} (hc : calm ρ o.op = true) (h : (execOp ρ o).run P w = .ok n w') : ∃ u, n = .value u := by
  unfold execOp at h
  cases ho : o.op <;> rw [ho] at hc h <;> simp only [calm, Bool.false_eq_true] at hc
  case move x => cases h; exact ⟨_, rfl⟩
  case assign x => cases h; exact ⟨_, rfl⟩
  case call c =>
    cases hcal : c.callee <;> simp only [hcal, Bool.false_eq_true] at hc
    case builtin b =>
      simp only [resolve, hcal, Sem.run_bind, Sem.run_pure, Result.andThen_ok, invoke] at h
      cases b <;> simp only [Bool.false_eq_true] at hc <;> exact value_only h
  case nilCheck x =>
    cases hx : ρ x <;> simp only [hx, Bool.false_eq_true] at hc
    case pointer p =>
      cases p <;> simp only [Bool.false_eq_true] at hc
      simp only [hx] at h
      cases h
      exact ⟨_, rfl⟩
  case pick c x y =>
    simp only [Sem.run_bind] at h
    cases hb : (asBool (ρ c)).run P w with
    | ok u w1 => rw [hb] at h; simp only [Result.andThen_ok, Sem.run_pure] at h; cases h; exact ⟨_, rfl⟩
    | halt x w1 => rw [hb] at h; cases h
  all_goals exact value_only h

section
variable {P : Program} {ops : Array Oper} {Q : Exit → Act → World → Prop} {S : World → Prop}

/-- A calm operation, taken first. -/
theorem anyH_take {i : Nat} {o : Oper} {fuel : Nat} {listed : Array Bool} {a : Act} {w : World} (hi : ops[i]? = some o)
    (hs : Region.noSelect ops = true) (hf : Region.free .any ops listed i = true) (hr : (Region.ready .any ops listed).contains i = true)
    (hQ : ∀ v c a w, Q (.panic c) (a.put o.dst v) w → Q (.panic c) a w) (hS : S w) (hc : calm a.eval o.op = true) (hw : Region.wanted o (yielded ops a.tmps) = true)
    (h : ∀ K : Act → Prop, (∀ a', wpAnyH P .any ops Q S fuel (listed.setIfInBounds i true) a' w → K a') → o.quiet P a S K) : wpAnyH P .any ops Q S (fuel + 1) listed a w := by
  obtain ⟨v, hv, hk⟩ := h (fun a' => wpAnyH P .any ops Q S fuel (listed.setIfInBounds i true) a' w) (fun _ h => h)
  refine wpAnyH_take hi hs hf hr (hQ v) (.inl ⟨hw, fun w1 h1 => ?_⟩) hS hk
  have h2 := hv w1 h1
  unfold Oper.quietAt at h2
  cases hr : (execOp a.eval o).run P w1 with
  | ok n w2 =>
    obtain ⟨u, rfl⟩ := calm_value hc hr
    rw [hr] at h2
    obtain ⟨rfl, rfl⟩ := h2
    rfl
  | halt x w2 => rw [hr] at h2; exact h2.elim

/-- One that its guard passes over. -/
theorem anyH_pass {i : Nat} {o : Oper} {fuel : Nat} {listed : Array Bool} {a : Act} {w : World} (hi : ops[i]? = some o)
    (hs : Region.noSelect ops = true) (hf : Region.free .any ops listed i = true) (hr : (Region.ready .any ops listed).contains i = true)
    (hQ : ∀ v c a w, Q (.panic c) (a.put o.dst v) w → Q (.panic c) a w) (hS : S w) (hw : Region.wanted o (yielded ops a.tmps) = false)
    (h : wpAnyH P .any ops Q S fuel (listed.setIfInBounds i true) (a.put o.dst undef) w) : wpAnyH P .any ops Q S (fuel + 1) listed a w :=
  wpAnyH_take hi hs hf hr (hQ undef) (.inr ⟨hw, rfl⟩) hS h

/-- The exits of one loud operation. -/
def loudQ (P : Program) (ops : Array Oper) (Q : Exit → Act → World → Prop) (S : World → Prop) (fuel : Nat) (listed : Array Bool) : Exit → Act → World → Prop
  | .normal, a, w => S w ∧ wpAnyH P .any ops Q S fuel listed a w
  | .outgrown, _, _ => False
  | e, a, w => Q e a w

theorem loud_op {i : Nat} {o : Oper} {fuel : Nat} {listed : Array Bool} {a : Act} {w : World} (hi : ops[i]? = some o)
    (h : wpList P ops (loudQ P ops Q S fuel listed) [o] a w) : wpOp P ops Q i (fun a' w' => S w' ∧ wpAnyH P .any ops Q S fuel listed a' w') a w := by
  unfold wpOp
  simp only [hi]
  unfold wpList at h
  split
  · rename_i hw
    rw [if_pos hw] at h
    rcases h with h | ⟨_, _, _, h⟩
    · refine .inl ?_
      unfold Oper.wp at *
      generalize (execOp a.eval o).run P w = r at *
      cases r with
      | ok n w' =>
        cases n <;> simp only [Oper.upon] at h ⊢
        case value u => exact h
        case skip => exact h
        case defer d => exact h
        case enter f args =>
          refine Calls.mono h fun e w'' he => ?_
          cases e with
          | returned u => exact he
          | panicked c => exact he
          | outgrown => obtain ⟨_, _, h⟩ := he; exact h.elim
        case row row args => exact Rows.mono h fun u w'' he => he
      | halt x w' =>
        cases x <;> simp only [Oper.upon] at h ⊢
        case panic u => exact h
    · exact h.elim
  · rename_i hw
    rw [if_neg hw] at h
    exact h

/-- One loud operation may come up. -/
theorem anyH_loud {i : Nat} {o : Oper} {fuel : Nat} {listed : Array Bool} {a : Act} {w : World} (hr : Region.ready .any ops listed = [i]) (hi : ops[i]? = some o)
    (h : wpList P ops (loudQ P ops Q S fuel (listed.setIfInBounds i true)) [o] a w) : wpAnyH P .any ops Q S (fuel + 1) listed a w :=
  wpAnyH_all hr (by simp) fun j hj => by
    simp only [List.mem_singleton] at hj
    subst hj
    exact loud_op hi h
/-- Two may. -/
theorem anyH_loud2 {i j : Nat} {o p : Oper} {fuel : Nat} {listed : Array Bool} {a : Act} {w : World} (hr : Region.ready .any ops listed = [i, j]) (hi : ops[i]? = some o) (hj : ops[j]? = some p)
    (h1 : wpList P ops (loudQ P ops Q S fuel (listed.setIfInBounds i true)) [o] a w) (h2 : wpList P ops (loudQ P ops Q S fuel (listed.setIfInBounds j true)) [p] a w) : wpAnyH P .any ops Q S (fuel + 1) listed a w :=
  wpAnyH_all hr (by simp) fun k hk => by
    simp only [List.mem_cons, List.not_mem_nil, or_false] at hk
    rcases hk with rfl | rfl
    · exact loud_op hi h1
    · exact loud_op hj h2
theorem loud_end {fuel : Nat} {listed : Array Bool} {a : Act} {w : World} (hS : S w) (h : wpAnyH P .any ops Q S fuel listed a w) : wpList P ops (loudQ P ops Q S fuel listed) [] a w := ⟨hS, h⟩

/-- The beginning. -/
theorem region_mix {id : Nat} {a : Act} {w : World} {l : List Oper} {L : List Chunk} (S : World → Prop) (hm : P.follows .mixedOrders = true) (H : At w L)
    (h : ∀ w1, At w1 L → wpAnyH P .any l.toArray Q S l.length (Array.replicate l.length false) a w1) : (Code.region id l.toArray true).wp P Q a w :=
  wp_region_held hm (by simpa using h _ H.drew)

/-- What reads, in every world that meets S. -/
theorem quiet_sem {o : Oper} {a : Act} {K : Act → Prop} {v : Value} (hr : ∀ w, S w → (execOp a.eval o).run P w = .ok (.value v) w) (h : K (a.put o.dst v)) : o.quiet P a S K :=
  ⟨v, fun w hw => by unfold Oper.quietAt; rw [hr w hw]; exact ⟨rfl, rfl⟩, h⟩
end

/-! ### Regions in parts: up to one operation that waits for all ahead of it -/
def aftOf (ops : List Oper) (j : Nat) : List Nat :=
  match ops[j]? with
  | none => []
  | some o => o.after.toList.filterMap fun e => match Region.binds .any e with | true => some e.on | false => none
def memNat (i : Nat) : List Nat → Bool
  | [] => false
  | j :: r => match Nat.beq j i with | true => true | false => memNat i r
theorem memNat_mem {i : Nat} : ∀ {l : List Nat}, memNat i l = true → i ∈ l
  | [], h => by cases h
  | j :: r, h => by
    unfold memNat at h
    split at h
    · rename_i hb
      rw [Nat.eq_of_beq_eq_true hb]; exact List.mem_cons_self ..
    · exact List.mem_cons_of_mem _ (memNat_mem h)
/-- All that is waited for. -/
def predsGo (ops : List Oper) : Nat → List Nat → List Nat → List Nat
  | 0, _, acc => acc
  | _ + 1, [], acc => acc
  | f + 1, j :: r, acc => match memNat j acc with | true => predsGo ops f r acc | false => predsGo ops f (aftOf ops j ++ r) (j :: acc)
def predsOf (ops : List Oper) (b : Nat) : List Nat := predsGo ops 4000 (aftOf ops b) []
def Clo (ops : List Oper) (listed : Array Bool) : Prop := listed.size = ops.length ∧ ∀ j, listed.getD j false = true → ∀ i ∈ aftOf ops j, listed.getD i false = true
theorem clo_none (ops : List Oper) : Clo ops (Array.replicate ops.length false) := by
  refine ⟨by simp, fun j h => ?_⟩
  simp [Array.getD] at h
theorem ready_after {ops : List Oper} {listed : Array Bool} {i : Nat} (hr : i ∈ Region.ready .any ops.toArray listed) : ∀ j ∈ aftOf ops i, listed.getD j false = true := by
  intro j hj
  obtain ⟨_, o, ho, hall⟩ := mem_ready.1 hr
  unfold aftOf at hj
  rw [show ops[i]? = some o by simpa using ho] at hj
  simp only [List.mem_filterMap, Array.mem_toList_iff] at hj
  obtain ⟨e, he, hb⟩ := hj
  split at hb
  · rename_i hbi; cases hb; exact hall e he hbi
  · cases hb
theorem clo_set {ops : List Oper} {listed : Array Bool} {i : Nat} (h : Clo ops listed) (hr : i ∈ Region.ready .any ops.toArray listed) : Clo ops (listed.setIfInBounds i true) := by
  refine ⟨by simp [h.1], fun j hj k hk => getD_set_true ?_⟩
  by_cases hij : i = j
  · subst hij; exact ready_after hr k hk
  · exact h.2 j (by rwa [getD_set_ne false hij] at hj) k hk
theorem predsGo_listed {ops : List Oper} {listed : Array Bool} (h : Clo ops listed) : ∀ (f : Nat) (todo acc : List Nat), (∀ j ∈ todo, listed.getD j false = true) → (∀ j ∈ acc, listed.getD j false = true) → ∀ i ∈ predsGo ops f todo acc, listed.getD i false = true
  | 0, _, _, _, h2, i, hi => h2 i hi
  | _ + 1, [], _, _, h2, i, hi => h2 i hi
  | f + 1, j :: r, acc, h1, h2, i, hi => by
    unfold predsGo at hi
    split at hi
    · exact predsGo_listed h f r acc (fun k hk => h1 k (List.mem_cons_of_mem _ hk)) h2 i hi
    · refine predsGo_listed h f (aftOf ops j ++ r) (j :: acc) (fun k hk => ?_) (fun k hk => ?_) i hi
      · rcases List.mem_append.1 hk with hk | hk
        · exact h.2 j (h1 j (List.mem_cons_self ..)) k hk
        · exact h1 k (List.mem_cons_of_mem _ hk)
      · rcases List.mem_cons.1 hk with rfl | hk
        · exact h1 _ (List.mem_cons_self ..)
        · exact h2 k hk
/-- What comes ahead of b. -/
def Before (ops : List Oper) (b i : Nat) : Prop := b ≠ i ∧ ∀ listed, Clo ops listed → (b ∈ Region.ready .any ops.toArray listed ∨ listed.getD b false = true) → listed.getD i false = true
theorem before_end {ops : List Oper} {b i : Nat} (hb : ops.length ≤ b) (hi : i < ops.length) : Before ops b i := by
  refine ⟨by omega, fun listed hc h => ?_⟩
  rcases h with h | h
  · obtain ⟨_, o, ho, _⟩ := mem_ready.1 h
    have := (Array.getElem?_eq_some_iff.1 ho).1
    simp at this; omega
  · have h1 := hc.1
    rw [Array.getD_eq_getD_getElem?, Array.getElem?_eq_none (by omega)] at h
    cases h
theorem before_preds {ops : List Oper} {b i : Nat} (hne : b ≠ i) (h : i ∈ predsOf ops b) : Before ops b i :=
  ⟨hne, fun listed hc hb => predsGo_listed hc _ _ _ (by rcases hb with hb | hb; exact ready_after hb; exact hc.2 b hb) (fun _ h => by cases h) i h⟩

section
variable {P : Program} {ops : List Oper} {Q : Exit → Act → World → Prop} {S : World → Prop}
/-- Whatever order is picked, S holds as long as b has not come up. -/
def wpAnyB (P : Program) (ops : List Oper) (Q : Exit → Act → World → Prop) (S : World → Prop) (b : Nat) : Nat → Array Bool → Act → World → Prop
  | 0, listed, a, w => wpAny P .any ops.toArray Q 0 listed a w
  | fuel + 1, listed, a, w =>
    (listed.getD b false = true → wpAny P .any ops.toArray Q (fuel + 1) listed a w) ∧
    (listed.getD b false = false → (Region.ready .any ops.toArray listed = [] → Q .normal a w) ∧
      ∀ i ∈ Region.ready .any ops.toArray listed, wpOp P ops.toArray Q i (fun a' w' => S w' ∧ wpAnyB P ops Q S b fuel (listed.setIfInBounds i true) a' w') a w)
theorem wpAny_of_B {b : Nat} : ∀ (fuel : Nat) (listed : Array Bool) (a : Act) (w : World), wpAnyB P ops Q S b fuel listed a w → wpAny P .any ops.toArray Q fuel listed a w
  | 0, _, _, _, h => h
  | fuel + 1, listed, _, _, h => by
    cases hb : listed.getD b false with
    | true => exact h.1 hb
    | false => exact ⟨(h.2 hb).1, fun i hi => wpOp_mono (fun a' w' h' => wpAny_of_B fuel _ a' w' h'.2) ((h.2 hb).2 i hi)⟩
theorem anyB_first {b i : Nat} {oi : Oper} {v : Value} (hi : ops.toArray[i]? = some oi) (hsel : ∀ (j : Nat) (o : Oper) cs b, ops.toArray[j]? = some o → o.op ≠ .select cs b)
    (hQ : ∀ c a w, Q (.panic c) (a.put oi.dst v) w → Q (.panic c) a w) (hb : Before ops b i) :
    ∀ (fuel : Nat) (listed : Array Bool) (a : Act) (w : World), Clo ops listed →
      (∀ j oj, ops.toArray[j]? = some oj → j ≠ i → listed.getD j true = false → (∀ e ∈ oj.after, Region.binds .any e = true → e.on ≠ i) → oi.apart ops.toArray oj = true) →
      i ∈ Region.ready .any ops.toArray listed → YieldsIf P ops.toArray S oi v a → S w →
      wpAnyB P ops Q S b fuel (listed.setIfInBounds i true) (a.put oi.dst v) w → wpAnyB P ops Q S b (fuel + 1) listed a w := by
  have hun : ∀ {listed : Array Bool}, i ∈ Region.ready .any ops.toArray listed → Clo ops listed → listed.getD i false = false := fun {listed} hr hc => by
    have h0 := (mem_ready.1 hr).1
    rw [Array.getD_eq_getD_getElem?] at h0 ⊢
    cases h : listed[i]? with
    | none => rfl
    | some x => rw [h] at h0; simpa using h0
  intro fuel
  induction fuel with
  | zero =>
    intro listed a w hc _ hr hy hS H
    refine ⟨fun h => ?_, fun _ => ⟨fun h => (by rw [h] at hr; cases hr), fun j hj => ?_⟩⟩
    · have := hb.2 listed hc (.inr h); rw [hun hr hc] at this; cases this
    by_cases hji : j = i
    · subst hji; exact hy.wpOp hi hS ⟨hS, H⟩
    · have := ready_mono hj hji
      rw [H.1] at this
      cases this
  | succ fuel ih =>
    intro listed a w hc hfree hr hy hS H
    refine ⟨fun h => ?_, fun hbl => ⟨fun h => (by rw [h] at hr; cases hr), fun j hj => ?_⟩⟩
    · have := hb.2 listed hc (.inr h); rw [hun hr hc] at this; cases this
    by_cases hji : j = i
    · subst hji; exact hy.wpOp hi hS ⟨hS, H⟩
    · have hbl' : (listed.setIfInBounds i true).getD b false = false := by rw [getD_set_ne false (Ne.symm hb.1)]; exact hbl
      have h1 := (H.2 hbl').2 j (ready_mono hj hji)
      obtain ⟨hjun, oj, hoj, hall⟩ := mem_ready.1 hj
      have hnot : ∀ e ∈ oj.after, Region.binds .any e = true → e.on ≠ i := fun e he hb heq => by
        have h1 := hall e he hb
        rw [heq, hun hr hc] at h1
        cases h1
      have h2 := wpOp_putIf hoj (hfree j oj hoj hji hjun hnot) (fun cs b => hsel i oi cs b hi) (fun cs b => hsel j oj cs b hoj) hQ hy h1
      have hfree' : ∀ k ok, ops.toArray[k]? = some ok → k ≠ i → (listed.setIfInBounds j true).getD k true = false →
          (∀ e ∈ ok.after, Region.binds .any e = true → e.on ≠ i) → oi.apart ops.toArray ok = true := fun k ok hk hki hun hno => by
        refine hfree k ok hk hki ?_ hno
        by_cases hjk : j = k
        · subst hjk; exact hjun
        · rw [getD_set_ne true hjk] at hun; exact hun
      refine wpOp_mono (fun a' w' h3 => ⟨h3.2.1, ih (listed.setIfInBounds j true) a' w' (clo_set hc hj) hfree' (ready_mono hr (Ne.symm hji)) h3.1 h3.2.1 ?_⟩) h2
      rw [Array.setIfInBounds_comm _ _ hji]
      exact h3.2.2
theorem anyB_take {b i : Nat} {oi : Oper} {v : Value} {fuel : Nat} {listed : Array Bool} {a : Act} {w : World} (hi : ops.toArray[i]? = some oi) (hb : Before ops b i) (hc : Clo ops listed)
    (hs : Region.noSelect ops.toArray = true) (hf : Region.free .any ops.toArray listed i = true) (hr : i ∈ Region.ready .any ops.toArray listed)
    (hQ : ∀ c a w, Q (.panic c) (a.put oi.dst v) w → Q (.panic c) a w) (hy : YieldsIf P ops.toArray S oi v a) (hS : S w)
    (h : wpAnyB P ops Q S b fuel (listed.setIfInBounds i true) (a.put oi.dst v) w) : wpAnyB P ops Q S b (fuel + 1) listed a w :=
  anyB_first hi (Region.noSelect_spec hs) hQ hb fuel listed a w hc (Region.free_spec hi hf) hr hy hS h
end
end Go.Sep
