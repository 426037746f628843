/- An abstract machine for the walks (part 7): slots, objects, freezing. -/
import Derived.Test.YtjapkdcomcgamaaGreatDoorAbF
set_option linter.all false
namespace Go.Ab
open Go Go.Sep
variable [Facts]

/-! ### slots -/
def del (t : Nat) : List (Nat × D) → List (Nat × D)
  | [] => []
  | (k, d) :: r => match Nat.beq k t with | true => del t r | false => (k, d) :: del t r
def St.put (st : St) (dst : Option Nat) (d : D) : St :=
  match dst with
  | none => st
  | some t => match Nat.blt t st.n with
    | true => { st with env := (t, d) :: del t st.env }
    | false => st

theorem look_del {t s : Nat} (h : t ≠ s) : ∀ (env : List (Nat × D)), look (del t env) s = look env s
  | [] => rfl
  | (k, d) :: r => by
    simp only [del]
    split
    · rename_i hk
      have := Nat.eq_of_beq_eq_true hk
      subst this
      simp only [look_cons, h, if_false]
      exact look_del h r
    · simp only [look_cons]
      split
      · rfl
      · exact look_del h r

theorem Env.put {S : Frz} {bs : List Value} {st : St} {a : Act} (h : Env S bs st a) (dst : Option Nat) {d : D} {v : Value} (hm : MD S bs d v) : Env S bs (st.put dst d) (a.put dst v) := by
  cases dst with
  | none => exact h
  | some t =>
    simp only [St.put]
    split
    · rename_i hb
      have hb : t < st.n := by simpa using hb
      refine ⟨by simpa [Act.put] using h.size, h.defers, fun s d' hs => ?_⟩
      simp only [look_cons] at hs
      by_cases hts : t = s
      · subst hts
        simp only [if_true, Option.some.injEq] at hs
        subst hs
        have : t < a.tmps.size := by rw [h.size]; exact hb
        have e : (a.put (some t) v).tmps.getD t undef = v := by simp [Act.put, this]
        rw [e]; exact hm
      · simp only [hts, if_false] at hs
        rw [look_del hts] at hs
        have := h.slots s d' hs
        have e : (a.put (some t) v).tmps.getD s undef = a.tmps.getD s undef := by
          simp [Act.put, hts]
        rw [e]; exact this
    · rename_i hb
      have hb : ¬ t < st.n := fun hlt => by rw [show Nat.blt t st.n = true by simpa using hlt] at hb; cases hb
      have e : a.put (some t) v = a := by
        cases a
        simp only [Act.put, Act.mk.injEq, and_true]
        have := h.size
        simp only at this
        exact Array.setIfInBounds_eq_of_size_le (by omega)
      rw [e]; exact h

/-! ### objects, as chunks -/
theorem chunkL_append (K L : List CO) : CO.chunkL (K ++ L) = CO.chunkL K ++ CO.chunkL L := by simp [CO.chunkL_eq]

theorem set_split {α : Type} : ∀ {l : List α} {k : Nat} {c : α}, l[k]? = some c → ∃ p r, l = p ++ c :: r ∧ p.length = k ∧ ∀ d, l.set k d = p ++ d :: r
  | [], k, c, h => by simp at h
  | x :: l, 0, c, h => by simp at h; subst h; exact ⟨[], l, rfl, rfl, fun d => rfl⟩
  | x :: l, k + 1, c, h => by
    obtain ⟨p, r, h1, h2, h3⟩ := set_split (l := l) (k := k) (c := c) (by simpa using h)
    exact ⟨x :: p, r, by rw [h1]; rfl, by simp [h2], fun d => by simp [h3]⟩

theorem perm_front (a : Chunk) (p r : List Chunk) (c : Chunk) (fr : List Chunk) : (a :: ((p ++ c :: r) ++ fr)).Perm (c :: a :: ((p ++ r) ++ fr)) := by
  have h1 : ((p ++ c :: r) ++ fr).Perm (c :: ((p ++ r) ++ fr)) := by
    simp only [List.append_assoc, List.cons_append]
    exact List.perm_middle
  exact (h1.cons a).trans (.swap _ _ _)

/-- One object turns. -/
theorem At.turn {w w' : World} {S : Frz} {K : List CO} {fr : List Chunk} (H : At w (frzC S :: (CO.chunkL K ++ fr))) {k : Nat} {c : CO} (hc : K[k]? = some c) (c' : CO)
    (h : ∀ L, At w (c.chunk :: frzC S :: L) → At w' (c'.chunk :: frzC S :: L)) : At w' (frzC S :: (CO.chunkL (K.set k c') ++ fr)) := by
  obtain ⟨p, r, h1, _, h3⟩ := set_split hc
  rw [h3, chunkL_append]
  rw [h1, chunkL_append] at H
  exact (h _ (H.perm (perm_front _ _ _ _ _))).perm (perm_front _ _ _ _ _).symm
/-- One object more. -/
theorem At.more {w : World} {S : Frz} {K : List CO} {fr : List Chunk} {c : CO} (H : At w (c.chunk :: frzC S :: (CO.chunkL K ++ fr))) : At w (frzC S :: (CO.chunkL (K ++ [c]) ++ fr)) := by
  rw [chunkL_append]
  refine H.perm (List.Perm.symm ?_)
  have := perm_front (frzC S) (CO.chunkL K) [] c.chunk fr
  simpa [CO.chunkL] using this
theorem At.void {w : World} {l : List Chunk} (H : At w l) : At w (pureC True :: l) := At.pure.2 ⟨trivial, H⟩

theorem bases_set {K : List CO} {k : Nat} {c c' : CO} (hc : K[k]? = some c) (hb : c'.base = c.base) : (K.set k c').map CO.base = K.map CO.base := by
  obtain ⟨p, r, h1, _, h3⟩ := set_split hc
  rw [h3, h1]; simp [hb]

theorem HR.set {S : Frz} {bs : List Value} {hp : List HO} {K : List CO} (h : HR S bs hp K) (k : Nat) {o : HO} {c : CO} (hr : Rel S bs o c) : HR S bs (hp.set k o) (K.set k c) := by
  refine ⟨by simp [h.1], fun i o' c' h1 h2 => ?_⟩
  rw [List.getElem?_set] at h1 h2
  by_cases hk : k = i
  · subst hk
    simp only [if_true] at h1 h2
    split at h1
    · split at h2
      · cases h1; cases h2; exact hr
      · cases h2
    · cases h1
  · rw [if_neg hk] at h1 h2; exact h.2 i o' c' h1 h2
theorem HR.push {S : Frz} {bs : List Value} {hp : List HO} {K : List CO} (h : HR S bs hp K) {o : HO} {c : CO} (hr : Rel S bs o c) : HR S bs (hp ++ [o]) (K ++ [c]) := by
  refine ⟨by simp [h.1], fun i o' c' h1 h2 => ?_⟩
  rcases Nat.lt_trichotomy i hp.length with hi | hi | hi
  · rw [List.getElem?_append_left hi] at h1
    rw [List.getElem?_append_left (by rw [← h.1]; exact hi)] at h2
    exact h.2 i o' c' h1 h2
  · subst hi
    rw [List.getElem?_append_right (Nat.le_refl _)] at h1
    rw [h.1, List.getElem?_append_right (Nat.le_refl _)] at h2
    simp at h1 h2
    subst h1; subst h2; exact hr
  · rw [List.getElem?_append_right (by omega)] at h1
    have : i - hp.length ≠ 0 := by omega
    obtain ⟨m, hm⟩ : ∃ m, i - hp.length = m + 1 := ⟨i - hp.length - 1, by omega⟩
    rw [hm] at h1; simp at h1

/-! ### freezing -/
theorem At.freeze {w : World} {S : Frz} {E size : Nat} {ao : Option Addr} {n cap : Nat} {cs : List Value} {l : List Chunk} (H : At w (rowC E size (.slice ao n cap) n cs :: frzC S :: l)) :
    ∃ S', S.le S' ∧ At w (frzC S' :: l) ∧ RdS S' size (.slice ao n cap) n cs := by
  obtain ⟨F, A, B, e, dj, hrow, A', B', e', dj', hfrz, hl⟩ := H
  obtain ⟨hF, hlen, hv⟩ := hrow
  obtain ⟨hA', h1, h2, h3, h4⟩ := hfrz
  rcases hv with ⟨hv, hn⟩ | ⟨g, cap', cur, fz, hv, hg, hfree, hnc, hcm, hcs, ht⟩
  · cases hv
    have hcs : cs = [] := List.eq_nil_of_length_eq_zero (by simpa using hlen)
    subst hcs
    exact ⟨S, Frz.le.refl S, ⟨_, A', B', fun _ => Iff.rfl, dj', ⟨hA', h1, h2, h3, h4⟩, hl⟩, fun w' _ => ⟨_, 0, rfl, Nat.le_refl _, Nat.zero_le _, fun _ => rfl, by simp, fun j u h => by simp at h⟩⟩
  · cases hv
    have hA : ∀ k, A k ↔ k = g := fun k => by rw [hF k]; simp [Value.ownBlock, eq_comm]
    have hgn : S.blk g = none := by
      cases hS : S.blk g with
      | none => rfl
      | some o =>
        have : A' g := (hA' g).2 (by rw [hS]; rfl)
        exact (dj g ((hA g).2 rfl) ((e' g).2 (.inl this))).elim
    have hext : ∀ k o, S.blk k = some o → (if k = g then some (.cells cur E fz) else S.blk k) = some o := fun k o ho => by
      have : k ≠ g := fun hk => by subst hk; rw [hgn] at ho; cases ho
      simp only [this, if_false]; exact ho
    refine ⟨S.re S (fun k => if k = g then some (.cells cur E fz) else S.blk k) rfl rfl rfl hext, ⟨rfl, rfl, rfl, hext⟩, ⟨F, fun k => A k ∨ A' k, B', fun k => by rw [e k, e' k, or_assoc], ?_, ⟨fun k => ?_, h1, h2, h3, fun k o ho => ?_⟩, hl⟩, fun w' hw' => ?_⟩
    · rintro k (hk | hk) hB
      · exact dj k hk ((e' k).2 (.inr hB))
      · exact dj' k hk hB
    · show (A k ∨ A' k) ↔ (if k = g then some (.cells cur E fz) else S.blk k).isSome = true
      rw [hA k, hA' k]
      by_cases hk : k = g <;> simp [hk]
    · have ho : (if k = g then some (.cells cur E fz) else S.blk k) = some o := ho
      by_cases hk : k = g
      · subst hk; simp only [if_true, Option.some.injEq] at ho; subst ho; exact hg
      · simp only [hk, if_false] at ho; exact h4 k o ho
    · have hgw : w'.heap[g]? = some (.cells cur E fz) := hw'.2.2.2 g _ (by simp [Frz.re])
      exact Owns.rd ⟨hlen, .inr ⟨g, cap, cur, fz, rfl, hgw, hfree, hnc, hcm, hcs, ht⟩⟩

def C.frz (I : Alg) (k : Nat) (u : U) (l : List u.den) : C → C
  | .row j => match Nat.beq j k with | true => .p (.list u l) | false => .row j
  | .sub u' j lo hi => match Nat.beq j k, Nat.beq u'.size u.size with | true, true => .p (.list u (I.cut l lo hi)) | _, _ => .sub u' j lo hi
  | .ept u' j i off => match Nat.beq j k, Nat.beq u'.size u.size with | true, true => .fpt u l i off | _, _ => .ept u' j i off
  | c => c
def V0.frz (I : Alg) (k : Nat) (u : U) (l : List u.den) : V0 → V0
  | .one c => .one (c.frz I k u l)
  | .agg cs => .agg (cs.map (C.frz I k u l))
def D.frz (I : Alg) (k : Nat) (u : U) (l : List u.den) : D → D
  | .v x => .v (x.frz I k u l)
  | .tup vs => .tup (vs.map (V0.frz I k u l))
  | .bad => .bad
def HO.frz (I : Alg) (k : Nat) (u : U) (l : List u.den) : HO → HO
  | .obj T cs => .obj T (cs.map (C.frz I k u l))
  | o => o
def envFrz (I : Alg) (k : Nat) (u : U) (l : List u.den) : List (Nat × D) → List (Nat × D)
  | [] => []
  | (t, d) :: r => (t, d.frz I k u l) :: envFrz I k u l r
def setN {α : Type} : List α → Nat → α → List α
  | [], _, _ => []
  | _ :: l, 0, x => x :: l
  | y :: l, n + 1, x => y :: setN l n x
theorem setN_eq {α : Type} : ∀ (l : List α) (n : Nat) (x : α), setN l n x = l.set n x
  | [], _, _ => rfl
  | _ :: _, 0, _ => rfl
  | _ :: l, n + 1, x => by simp [setN, setN_eq l n x]
def St.freeze (I : Alg) (st : St) (k : Nat) : St :=
  match nth st.hp k with
  | some (.row u _ l) => { st with env := envFrz I k u l st.env, hp := setN (st.hp.map (HO.frz I k u l)) k .gone }
  | _ => st

theorem C.frz_sound {S : Frz} {bs : List Value} {k : Nat} {u : U} {l : List u.den} {ao : Option Addr} {cap : Nat} {vs : List Value} (hb : bs[k]? = some (.slice ao l.length cap)) (hlen : vs.length = l.length * u.size)
    (hx : ∀ (i : Nat) (x : u.den) (j : Nat) (p : P) (v : Value), l[i]? = some x → (enc alg u x)[j]? = some p → vs[i * u.size + j]? = some v → MP S p v) (hr : RdS S u.size (.slice ao l.length cap) l.length vs)
    {c : C} {v : Value} (h : MC S bs c v) : MC S bs (c.frz alg k u l) v := by
  cases c with
  | row j =>
    simp only [C.frz]
    split
    · rename_i hj
      have hj := Nat.eq_of_beq_eq_true hj
      subst hj
      have := h.1
      rw [hb] at this
      cases this
      exact .list u l ao cap vs hlen hr hx
    · exact h
  | sub u' j lo hi =>
    simp only [C.frz]
    split
    · rename_i hj hu
      have hj := Nat.eq_of_beq_eq_true hj
      have hu := Nat.eq_of_beq_eq_true hu
      subst hj
      obtain ⟨ao', n', cap', hb', h0, h00, hs⟩ := h
      rw [hb] at hb'
      simp only [Option.some.injEq, Value.slice.injEq] at hb'
      obtain ⟨rfl, rfl, rfl⟩ := hb'
      rw [hu] at hs
      have hrd := fun w' hw' => hs.rd (hr w' hw')
      obtain ⟨ao2, cap2, rfl, h1, h2, h3, h4, h5, h6⟩ := hs
      obtain ⟨l2, hl2e⟩ : ∃ l2, l2 = alg.cut l lo hi := ⟨_, rfl⟩
      have hl2 : l2.length = hi.toNat - lo.toNat := by rw [hl2e, alg_cut]; simp; omega
      rw [← hl2e]
      rw [← hl2] at hrd ⊢
      have hcl : ((vs.drop (lo.toNat * u.size)).take (l2.length * u.size)).length = l2.length * u.size := by
        rw [List.length_take, List.length_drop, hlen, hl2]
        have : (hi.toNat - lo.toNat) * u.size ≤ (l.length - lo.toNat) * u.size := Nat.mul_le_mul_right _ (by omega)
        rw [Nat.sub_mul l.length] at this
        omega
      refine .list u l2 ao2 cap2 _ hcl hrd fun i x j p v hi' hj hv => ?_
      rw [hl2e, alg_cut, List.getElem?_take] at hi'
      split at hi'
      · rw [List.getElem?_drop] at hi'
        refine hx (lo.toNat + i) x j p v hi' hj ?_
        rw [List.getElem?_take] at hv
        split at hv
        · rw [List.getElem?_drop] at hv
          rw [← hv]
          congr 1
          rw [Nat.add_mul]; omega
        · cases hv
      · cases hi'
    · exact h
  | ept u' j i off =>
    simp only [C.frz]
    split
    · rename_i hj hu
      have hj := Nat.eq_of_beq_eq_true hj
      have hu := Nat.eq_of_beq_eq_true hu
      subst hj
      obtain ⟨ao', n', cap', hb', h0, rfl⟩ := h
      rw [hb] at hb'
      simp only [Option.some.injEq, Value.slice.injEq] at hb'
      obtain ⟨rfl, rfl, rfl⟩ := hb'
      exact ⟨ao, cap, vs, hlen, hr, hx, h0, by rw [hu]⟩
    · exact h
  | p x => exact h
  | ptr j off => exact h
  | fpt u l i off => exact h
  | nilS => exact h
  | fn f caps => exact h
  | ifc T agg cs => exact h
  | any => exact h

theorem MCs.map {S S' : Frz} {bs bs' : List Value} {f : C → C} (hf : ∀ c v, MC S bs c v → MC S' bs' (f c) v) : ∀ {cs : List C} {vs : List Value}, MCs S bs cs vs → MCs S' bs' (cs.map f) vs
  | [], [], _ => trivial
  | _ :: _, _ :: _, h => ⟨hf _ _ h.1, MCs.map hf h.2⟩
theorem MVs.map {S S' : Frz} {bs bs' : List Value} {f : V0 → V0} (hf : ∀ c v, MV S bs c v → MV S' bs' (f c) v) : ∀ {cs : List V0} {vs : List Value}, MVs S bs cs vs → MVs S' bs' (cs.map f) vs
  | [], [], _ => trivial
  | _ :: _, _ :: _, h => ⟨hf _ _ h.1, MVs.map hf h.2⟩
theorem V0.frz_sound {S S' : Frz} {bs bs' : List Value} {I : Alg} {k : Nat} {u : U} {l : List u.den} (hf : ∀ c v, MC S bs c v → MC S' bs' (c.frz I k u l) v) (c : V0) (v : Value) (h : MV S bs c v) : MV S' bs' (c.frz I k u l) v := by
  cases c with
  | one c => exact hf c v h
  | agg cs => obtain ⟨vs, h1, h2⟩ := h; exact ⟨vs, h1.map hf, h2⟩
theorem D.frz_sound {S S' : Frz} {bs bs' : List Value} {I : Alg} {k : Nat} {u : U} {l : List u.den} (hf : ∀ c v, MC S bs c v → MC S' bs' (c.frz I k u l) v) {d : D} {v : Value} (h : MD S bs d v) : MD S' bs' (d.frz I k u l) v := by
  cases d with
  | v x => exact V0.frz_sound hf x v h
  | tup vs => obtain ⟨us, h1, h2⟩ := h; exact ⟨us, h1.map (V0.frz_sound hf), h2⟩
  | bad => trivial
theorem look_frz {I : Alg} {k : Nat} {u : U} {l : List u.den} : ∀ {env : List (Nat × D)} {t : Nat} {d : D}, look (envFrz I k u l env) t = some d → ∃ d', look env t = some d' ∧ d = d'.frz I k u l
  | [], t, d, h => by cases h
  | (s, d0) :: r, t, d, h => by
    simp only [envFrz, look_cons] at h ⊢
    split at h
    · rename_i hs; cases h; exact ⟨d0, by rw [if_pos hs], rfl⟩
    · rename_i hs; obtain ⟨d', h1, h2⟩ := look_frz h; exact ⟨d', by rw [if_neg hs]; exact h1, h2⟩

theorem freeze_sound {X : Ctx} {st : St} {a : Act} {w : World} {S : Frz} {K : List CO} (hH : Heap X st.hp S K w) (hE : Env S (K.map CO.base) st a) (k : Nat) :
    ∃ S' K', S.le S' ∧ K'.map CO.base = K.map CO.base ∧ Heap X (st.freeze alg k).hp S' K' w ∧ Env S' (K'.map CO.base) (st.freeze alg k) a := by
  obtain ⟨h1, h2, h3, h4⟩ := hH
  unfold St.freeze
  split
  · rename_i u E l ho
    rw [nth_eq] at ho
    obtain ⟨c, hc, hr⟩ := h3.get ho
    cases hr with
    | @row _ _ _ _ ao cap vs hlen hx =>
      have hbk := base_get hc
      obtain ⟨p, r, hp1, hp2, hp3⟩ := set_split hc
      have H := h4
      rw [hp1, chunkL_append] at H
      have H := H.perm (perm_front _ _ _ _ _)
      obtain ⟨S', hle, hat, hrd⟩ := At.freeze H
      have hf : ∀ c v, MC S (K.map CO.base) c v → MC S' (K.map CO.base) (c.frz alg k u l) v := fun c v hm =>
        C.frz_sound (by rw [hbk]; rfl) hlen (fun i x j p v a b c => (hx i x j p v a b c).mono hle) hrd (hm.mono hle (Ext.refl _))
      have hbs : (K.set k (.gone (.slice ao l.length cap))).map CO.base = K.map CO.base := bases_set hc rfl
      refine ⟨S', K.set k (.gone (.slice ao l.length cap)), hle, hbs, ⟨h1.trans hle, by rw [hbs]; exact h2, ?_, ?_⟩, ?_⟩
      · rw [hbs]
        simp only
        rw [setN_eq]
        refine HR.set ⟨by simp [h3.1], fun i o' c' e1 e2 => ?_⟩ k .gone
        rw [List.getElem?_map, Option.map_eq_some_iff] at e1
        obtain ⟨o0, e3, rfl⟩ := e1
        have := h3.2 i o0 c' e3 e2
        cases this with
        | obj hm => exact .obj (hm.map hf)
        | row a b => exact .row a fun i x j p v q1 q2 q3 => (b i x j p v q1 q2 q3).mono hle
        | pack a b => exact .pack a fun i o c q1 q2 => (b i o c q1 q2).mono hle (Ext.refl _)
        | abs a b => exact .abs a fun i o c q1 q2 => (b i o c q1 q2).mono hle (Ext.refl _)
        | gone => exact .gone
      · rw [hp3, chunkL_append]
        exact (At.void hat).perm (perm_front _ _ _ _ _).symm
      · rw [hbs]
        refine ⟨hE.size, hE.defers.mono hle (Ext.refl _), fun t d hd => ?_⟩
        obtain ⟨d', h5, rfl⟩ := look_frz hd
        exact D.frz_sound hf (hE.slots t d' h5)
  · exact ⟨S, K, Frz.le.refl S, rfl, ⟨h1, h2, h3, h4⟩, hE⟩
end Go.Ab
