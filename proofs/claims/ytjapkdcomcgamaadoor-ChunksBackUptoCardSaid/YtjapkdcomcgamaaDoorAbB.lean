/- An abstract machine for the walks (part 2): states, and what they stand for. -/
import Derived.Test.YtjapkdcomcgamaaDoorAbA
set_option linter.all false
namespace Go.Ab
open Go Go.Sep
variable [Facts]

def MCs (S : Frz) (bs : List Value) : List C → List Value → Prop
  | [], [] => True
  | c :: cs, v :: vs => MC S bs c v ∧ MCs S bs cs vs
  | _, _ => False

def MV (S : Frz) (bs : List Value) : V0 → Value → Prop
  | .one c, v => MC S bs c v
  | .agg cs, v => ∃ vs : List Value, MCs S bs cs vs ∧ v = .agg vs.toArray
def MVs (S : Frz) (bs : List Value) : List V0 → List Value → Prop
  | [], [] => True
  | c :: cs, v :: vs => MV S bs c v ∧ MVs S bs cs vs
  | _, _ => False
def MD (S : Frz) (bs : List Value) : D → Value → Prop
  | .v x, v => MV S bs x v
  | .tup l, v => ∃ vs : List Value, MVs S bs l vs ∧ v = .tuple vs.toArray
  | .bad, _ => True

theorem MPs.length {S : Frz} : ∀ {ps : List P} {vs : List Value}, MPs S ps vs → vs.length = ps.length
  | [], [], _ => rfl
  | _ :: _, _ :: _, h => congrArg (· + 1) (MPs.length h.2)
theorem MCs.length {S : Frz} {bs : List Value} : ∀ {cs : List C} {vs : List Value}, MCs S bs cs vs → vs.length = cs.length
  | [], [], _ => rfl
  | _ :: _, _ :: _, h => congrArg (· + 1) (MCs.length h.2)
theorem MCs.get {S : Frz} {bs : List Value} : ∀ {cs : List C} {vs : List Value}, MCs S bs cs vs → ∀ {j : Nat} {c : C}, cs[j]? = some c → ∃ v, vs[j]? = some v ∧ MC S bs c v
  | [], [], _, j, c, h => by simp at h
  | c :: cs, v :: vs, h, 0, c', e => by simp at e; subst e; exact ⟨v, rfl, h.1⟩
  | c :: cs, v :: vs, h, j + 1, c', e => by
    obtain ⟨u, h1, h2⟩ := MCs.get h.2 (j := j) (c := c') (by simpa using e)
    exact ⟨u, by simpa using h1, h2⟩
theorem MPs.get {S : Frz} : ∀ {cs : List P} {vs : List Value}, MPs S cs vs → ∀ {j : Nat} {c : P}, cs[j]? = some c → ∃ v, vs[j]? = some v ∧ MP S c v
  | [], [], _, j, c, h => by simp at h
  | c :: cs, v :: vs, h, 0, c', e => by simp at e; subst e; exact ⟨v, rfl, h.1⟩
  | c :: cs, v :: vs, h, j + 1, c', e => by
    obtain ⟨u, h1, h2⟩ := MPs.get h.2 (j := j) (c := c') (by simpa using e)
    exact ⟨u, by simpa using h1, h2⟩
theorem MCs.of_get {S : Frz} {bs : List Value} : ∀ {cs : List C} {vs : List Value}, vs.length = cs.length → (∀ (j : Nat) (c : C) (v : Value), cs[j]? = some c → vs[j]? = some v → MC S bs c v) → MCs S bs cs vs
  | [], [], _, _ => trivial
  | c :: cs, v :: vs, hl, h => ⟨h 0 c v rfl rfl, MCs.of_get (by simpa using hl) fun j c' v' h1 h2 => h (j + 1) c' v' (by simpa using h1) (by simpa using h2)⟩
theorem MPs.of_get {S : Frz} : ∀ {cs : List P} {vs : List Value}, vs.length = cs.length → (∀ (j : Nat) (c : P) (v : Value), cs[j]? = some c → vs[j]? = some v → MP S c v) → MPs S cs vs
  | [], [], _, _ => trivial
  | c :: cs, v :: vs, hl, h => ⟨h 0 c v rfl rfl, MPs.of_get (by simpa using hl) fun j c' v' h1 h2 => h (j + 1) c' v' (by simpa using h1) (by simpa using h2)⟩
theorem MPs.mono {S S' : Frz} (hle : S.le S') : ∀ {cs : List P} {vs : List Value}, MPs S cs vs → MPs S' cs vs
  | [], [], _ => trivial
  | _ :: _, _ :: _, h => ⟨h.1.mono hle, MPs.mono hle h.2⟩
theorem MPs.mcs {S : Frz} {bs : List Value} : ∀ {cs : List P} {vs : List Value}, MPs S cs vs → MCs S bs (cs.map C.p) vs
  | [], [], _ => trivial
  | _ :: _, _ :: _, h => ⟨h.1, MPs.mcs h.2⟩
theorem MCs.slice {S : Frz} {bs : List Value} {cs : List C} {vs : List Value} (h : MCs S bs cs vs) (o n : Nat) : MCs S bs ((cs.drop o).take n) ((vs.drop o).take n) := by
  have hl := h.length
  refine MCs.of_get (by simp [hl]) fun j c v hc hv => ?_
  rw [List.getElem?_take] at hc hv
  split at hc
  · rename_i hj
    rw [if_pos hj] at hv
    rw [List.getElem?_drop] at hc hv
    obtain ⟨u, hu, hm⟩ := h.get hc
    rw [hu] at hv; cases hv; exact hm
  · cases hc
theorem MCs.set {S : Frz} {bs : List Value} {cs : List C} {vs : List Value} (h : MCs S bs cs vs) (o : Nat) {c : C} {v : Value} (hc : MC S bs c v) : MCs S bs (cs.set o c) (vs.set o v) := by
  have hl := h.length
  refine MCs.of_get (by simp [hl]) fun j c' v' h1 h2 => ?_
  rw [List.getElem?_set] at h1 h2
  by_cases hj : o = j
  · subst hj
    simp only [if_true] at h1 h2
    split at h1
    · rename_i hlt
      rw [if_pos (by omega)] at h2
      cases h1; cases h2; exact hc
    · cases h1
  · rw [if_neg hj] at h1 h2
    obtain ⟨u, hu, hm⟩ := h.get h1
    rw [hu] at h2; cases h2; exact hm

/-- More bases, more frozen memory: what stood for something stands for it still. -/
def Ext (bs bs' : List Value) : Prop := ∀ (k : Nat) (v : Value), bs[k]? = some v → bs'[k]? = some v
theorem Ext.refl (bs : List Value) : Ext bs bs := fun _ _ h => h
theorem Ext.trans {a b c : List Value} (h : Ext a b) (k : Ext b c) : Ext a c := fun i v hv => k i v (h i v hv)
theorem Ext.append (a b : List Value) : Ext a (a ++ b) := fun k v h => by
  have := (List.getElem?_eq_some_iff.1 h).1
  rw [List.getElem?_append_left this]; exact h

theorem MCap.mono {S S' : Frz} (hle : S.le S') {bs bs' : List Value} (he : Ext bs bs') {c : Cap} {v : Value} (h : MCap S bs c v) : MCap S' bs' c v := by
  cases c with
  | p x => exact MP.mono hle h
  | ptr k off => obtain ⟨b, h1, h2⟩ := h; exact ⟨b, he _ _ h1, h2⟩
theorem MCaps.mono {S S' : Frz} (hle : S.le S') {bs bs' : List Value} (he : Ext bs bs') : ∀ {cs : List Cap} {vs : List Value}, MCaps S bs cs vs → MCaps S' bs' cs vs
  | [], [], _ => trivial
  | _ :: _, _ :: _, h => ⟨h.1.mono hle he, MCaps.mono hle he h.2⟩
theorem MC.mono {S S' : Frz} (hle : S.le S') {bs bs' : List Value} (he : Ext bs bs') : ∀ {c : C} {v : Value}, MC S bs c v → MC S' bs' c v := by
  intro c v h
  cases c with
  | p x => exact MP.mono hle h
  | ptr k off => obtain ⟨b, h1, h2⟩ := h; exact ⟨b, he _ _ h1, h2⟩
  | ept u k i off => obtain ⟨ao, n, cap, h1, h2⟩ := h; exact ⟨ao, n, cap, he _ _ h1, h2⟩
  | fpt u l i off => obtain ⟨ao, cap, vs, h0, h1, h2, h3⟩ := h; exact ⟨ao, cap, vs, h0, h1.mono hle, fun i x j p v a b c => (h2 i x j p v a b c).mono hle, h3⟩
  | row k => exact ⟨he _ _ h.1, h.2⟩
  | sub u k lo hi => obtain ⟨ao, n, cap, h1, h2⟩ := h; exact ⟨ao, n, cap, he _ _ h1, h2⟩
  | nilS => exact h
  | fn f caps => obtain ⟨vs, h1, h2⟩ := h; exact ⟨vs, h1.mono hle he, h2⟩
  | ifc T agg cs =>
    cases agg with
    | false =>
      cases cs with
      | nil => exact h.elim
      | cons p ps =>
        cases ps with
        | nil => obtain ⟨x, h1, h2⟩ := h; exact ⟨x, h1.mono hle, h2⟩
        | cons q qs => exact h.elim
    | true => obtain ⟨vs, h1, h2⟩ := h; exact ⟨vs, h1.mono hle, h2⟩
  | any => exact h
theorem MCs.mono {S S' : Frz} (hle : S.le S') {bs bs' : List Value} (he : Ext bs bs') : ∀ {cs : List C} {vs : List Value}, MCs S bs cs vs → MCs S' bs' cs vs
  | [], [], _ => trivial
  | _ :: _, _ :: _, h => ⟨h.1.mono hle he, MCs.mono hle he h.2⟩
theorem MV.mono {S S' : Frz} (hle : S.le S') {bs bs' : List Value} (he : Ext bs bs') {c : V0} {v : Value} (h : MV S bs c v) : MV S' bs' c v := by
  cases c with
  | one c => exact MC.mono hle he h
  | agg cs => obtain ⟨vs, h1, h2⟩ := h; exact ⟨vs, h1.mono hle he, h2⟩
theorem MVs.mono {S S' : Frz} (hle : S.le S') {bs bs' : List Value} (he : Ext bs bs') : ∀ {cs : List V0} {vs : List Value}, MVs S bs cs vs → MVs S' bs' cs vs
  | [], [], _ => trivial
  | _ :: _, _ :: _, h => ⟨h.1.mono hle he, MVs.mono hle he h.2⟩
theorem MD.mono {S S' : Frz} (hle : S.le S') {bs bs' : List Value} (he : Ext bs bs') {d : D} {v : Value} (h : MD S bs d v) : MD S' bs' d v := by
  cases d with
  | v x => exact MV.mono hle he h
  | tup l => obtain ⟨vs, h1, h2⟩ := h; exact ⟨vs, h1.mono hle he, h2⟩
  | bad => trivial

theorem MC.one {S : Frz} {bs : List Value} {c : C} {v : Value} (h : MC S bs c v) : v.oneCell' = true := by
  cases c with
  | p x => exact MP.one h
  | ptr k off => obtain ⟨b, _, rfl⟩ := h; rfl
  | ept u k i off => obtain ⟨ao, n, cap, _, _, rfl⟩ := h; rfl
  | fpt u l i off => obtain ⟨ao, cap, vs, _, _, _, _, rfl⟩ := h; rfl
  | row k => obtain ⟨_, ao, n, cap, rfl⟩ := h; rfl
  | sub u k lo hi => obtain ⟨ao, n, cap, _, _, _, _, _, rfl, _⟩ := h; rfl
  | nilS => cases h; rfl
  | fn f caps => obtain ⟨vs, _, rfl⟩ := h; rfl
  | ifc T agg cs =>
    cases agg with
    | false =>
      cases cs with
      | nil => exact h.elim
      | cons p ps =>
        cases ps with
        | nil => obtain ⟨x, _, rfl⟩ := h; rfl
        | cons q qs => exact h.elim
    | true => obtain ⟨vs, _, rfl⟩ := h; rfl
  | any => exact h
theorem MCs.one {S : Frz} {bs : List Value} {cs : List C} {vs : List Value} (h : MCs S bs cs vs) : ∀ v ∈ vs, v.oneCell' = true := by
  intro v hv
  obtain ⟨j, hj⟩ := List.getElem?_of_mem hv
  have hl := h.length
  have hlt := (List.getElem?_eq_some_iff.1 hj).1
  obtain ⟨u, hu, hm⟩ := h.get (j := j) (List.getElem?_eq_getElem (by omega))
  rw [hu] at hj; cases hj; exact hm.one

/-- What an object of the abstract heap stands for. -/
inductive Rel (S : Frz) : List Value → HO → CO → Prop
  | obj {bs : List Value} {b T : Nat} {cs : List C} {vs : List Value} (h : MCs S bs cs vs) : Rel S bs (.obj T cs) (.obj b T vs)
  | row {bs : List Value} {u : U} {E : Nat} {l : List u.den} {ao : Option Addr} {cap : Nat} {vs : List Value} (hlen : vs.length = l.length * u.size)
      (hx : ∀ (i : Nat) (x : u.den) (j : Nat) (p : P) (v : Value), l[i]? = some x → (enc alg u x)[j]? = some p → vs[i * u.size + j]? = some v → MP S p v) : Rel S bs (.row u E l) (.row E u.size ao l.length cap vs)
  | pack {bs : List Value} {hs : List HO} {K : List CO} (hl : hs.length = K.length) (h : ∀ (i : Nat) (o : HO) (c : CO), hs[i]? = some o → K[i]? = some c → Rel S (K.map CO.base) o c) : Rel S bs (.pack hs) (.pack K)
  | gone {bs : List Value} {c : CO} : Rel S bs .gone c

theorem Rel.mono {S S' : Frz} (hle : S.le S') {bs : List Value} {o : HO} {c : CO} (h : Rel S bs o c) : ∀ {bs' : List Value}, Ext bs bs' → Rel S' bs' o c := by
  induction h with
  | obj h => intro bs' he; exact .obj (h.mono hle he)
  | row hlen hx => intro bs' _; exact .row hlen fun i x j p v a b c => (hx i x j p v a b c).mono hle
  | pack hl h ih => intro bs' _; exact .pack hl fun i o c a b => ih i o c a b (Ext.refl _)
  | gone => intro bs' _; exact .gone

def HR (S : Frz) (bs : List Value) (hp : List HO) (K : List CO) : Prop := hp.length = K.length ∧ ∀ (i : Nat) (o : HO) (c : CO), hp[i]? = some o → K[i]? = some c → Rel S bs o c
theorem HR.mono {S S' : Frz} (hle : S.le S') {bs bs' : List Value} (he : Ext bs bs') {hp : List HO} {K : List CO} (h : HR S bs hp K) : HR S' bs' hp K :=
  ⟨h.1, fun i o c a b => (h.2 i o c a b).mono hle he⟩
theorem HR.get {S : Frz} {bs : List Value} {hp : List HO} {K : List CO} (h : HR S bs hp K) {k : Nat} {o : HO} (ho : hp[k]? = some o) : ∃ c, K[k]? = some c ∧ Rel S bs o c := by
  have hlt := (List.getElem?_eq_some_iff.1 ho).1
  have : k < K.length := by rw [← h.1]; exact hlt
  exact ⟨K[k], List.getElem?_eq_getElem this, h.2 k o _ ho (List.getElem?_eq_getElem this)⟩

/-- The abstract state: slots, objects, how many slots. -/
structure St where
  env : List (Nat × D)
  hp : List HO
  n : Nat

def look : List (Nat × D) → Nat → Option D
  | [], _ => none
  | (k, d) :: r, t => match Nat.beq k t with | true => some d | false => look r t
theorem look_cons (k : Nat) (d : D) (r : List (Nat × D)) (t : Nat) : look ((k, d) :: r) t = if k = t then some d else look r t := by
  simp only [look]
  split
  · rename_i h; rw [if_pos (Nat.eq_of_beq_eq_true h)]
  · rename_i h; rw [if_neg (Nat.ne_of_beq_eq_false h)]

structure Env (S : Frz) (bs : List Value) (st : St) (a : Act) : Prop where
  size : a.tmps.size = st.n
  defers : a.defers = []
  slots : ∀ t d, look st.env t = some d → MD S bs d (a.tmps.getD t undef)

theorem Env.mono {S S' : Frz} (hle : S.le S') {bs bs' : List Value} (he : Ext bs bs') {st : St} {a : Act} (h : Env S bs st a) : Env S' bs' st a :=
  ⟨h.size, h.defers, fun t d hd => (h.slots t d hd).mono hle he⟩

/-- What is fixed while a function runs: the memory that was frozen when it began, the bases of its arguments' objects, the chunks that it never touches. -/
structure Ctx where
  S0 : Frz
  bs0 : List Value
  fr : List Chunk

/-- What a state stands for. -/
def Heap (X : Ctx) (hp : List HO) (S : Frz) (K : List CO) (w : World) : Prop :=
  X.S0.le S ∧ Ext X.bs0 (K.map CO.base) ∧ HR S (K.map CO.base) hp K ∧ At w (frzC S :: (CO.chunkL K ++ X.fr))
def Conc (X : Ctx) (st : St) (a : Act) (w : World) : Prop :=
  ∃ S K, Heap X st.hp S K w ∧ Env S (K.map CO.base) st a
end Go.Ab
