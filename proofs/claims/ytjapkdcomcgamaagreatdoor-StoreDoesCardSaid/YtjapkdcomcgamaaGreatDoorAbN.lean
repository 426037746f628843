/- An abstract machine for the walks (part 14): what is lent to a function that only reads. -/
import Derived.Test.YtjapkdcomcgamaaGreatDoorAbM
set_option linter.all false
namespace Go.Ab
open Go Go.Sep
variable [Facts]

/-! ### values that lead to no memory that never turns -/
def flatU : U → Bool
  | .byte => true
  | .int => true
  | .str => true
  | .fld => true
  | _ => false
def noLP : P → Bool
  | .list _ _ => false
  | _ => true
def noLCap : Cap → Bool
  | .p x => noLP x
  | .ptr _ _ => true
def noLC : C → Bool
  | .p x => noLP x
  | .fpt _ _ _ _ => false
  | .fn _ caps => caps.all noLCap
  | .ifc _ _ ps => ps.all noLP
  | _ => true
def noLV : V0 → Bool
  | .one c => noLC c
  | .agg cs => cs.all noLC
def noLD : D → Bool
  | .v x => noLV x
  | .tup l => l.all noLV
  | .bad => true
def noLA : AOut → Bool
  | .ret d => noLD d
  | .pan c => noLC c
mutual
def noLO : HO → Bool
  | .obj _ cs => cs.all noLC
  | .row u _ _ => flatU u
  | .pack l => noLOs l
  | .abs _ => false
  | .gone => true
def noLOs : List HO → Bool
  | [] => true
  | o :: r => noLO o && noLOs r
end
theorem noLOs_get : ∀ {l : List HO} {i : Nat} {o : HO}, noLOs l = true → l[i]? = some o → noLO o = true
  | [], i, o, _, h => by simp at h
  | x :: l, 0, o, hn, h => by simp only [noLOs, Bool.and_eq_true] at hn; simp at h; subst h; exact hn.1
  | x :: l, i + 1, o, hn, h => by simp only [noLOs, Bool.and_eq_true] at hn; exact noLOs_get (l := l) hn.2 (by simpa using h)

section
variable {S S' : Frz} {bs : List Value}
theorem MP.noL {p : P} {v : Value} (h : MP S p v) (hn : noLP p = true) : MP S' p v := by
  cases h with
  | int k n => exact .int k n
  | bool b => exact .bool b
  | str l h => exact .str l h
  | list => cases hn
  | val v h => exact .val v h
theorem MPs.noL : ∀ {ps : List P} {vs : List Value}, MPs S ps vs → ps.all noLP = true → MPs S' ps vs
  | [], [], _, _ => trivial
  | p :: ps, v :: vs, h, hn => by simp only [List.all_cons, Bool.and_eq_true] at hn; exact ⟨h.1.noL hn.1, MPs.noL h.2 hn.2⟩
  | [], _ :: _, h, _ => h.elim
  | _ :: _, [], h, _ => h.elim
theorem MCap.noL {p : Cap} {v : Value} (h : MCap S bs p v) (hn : noLCap p = true) : MCap S' bs p v := by
  cases p with
  | p x => exact MP.noL h hn
  | ptr k off => exact h
theorem MCaps.noL : ∀ {ps : List Cap} {vs : List Value}, MCaps S bs ps vs → ps.all noLCap = true → MCaps S' bs ps vs
  | [], [], _, _ => trivial
  | p :: ps, v :: vs, h, hn => by simp only [List.all_cons, Bool.and_eq_true] at hn; exact ⟨h.1.noL hn.1, MCaps.noL h.2 hn.2⟩
  | [], _ :: _, h, _ => h.elim
  | _ :: _, [], h, _ => h.elim
theorem MC.noL {c : C} {v : Value} (h : MC S bs c v) (hn : noLC c = true) : MC S' bs c v := by
  cases c with
  | p x => exact MP.noL h hn
  | fpt u l i off => cases hn
  | fn f caps => obtain ⟨vs, h1, h2⟩ := h; exact ⟨vs, h1.noL hn, h2⟩
  | ifc T agg ps =>
    cases agg with
    | false => cases ps with
      | nil => exact h.elim
      | cons p ps => cases ps with
        | nil => obtain ⟨x, h1, h2⟩ := h; exact ⟨x, h1.noL (by simpa [noLC] using hn), h2⟩
        | cons _ _ => exact h.elim
    | true => obtain ⟨vs, h1, h2⟩ := h; exact ⟨vs, h1.noL hn, h2⟩
  | ptr k off => exact h
  | ept u k i off => exact h
  | row k => exact h
  | sub u k lo hi => exact h
  | nilS => exact h
  | any => exact h
theorem MCs.noL : ∀ {cs : List C} {vs : List Value}, MCs S bs cs vs → cs.all noLC = true → MCs S' bs cs vs
  | [], [], _, _ => trivial
  | p :: ps, v :: vs, h, hn => by simp only [List.all_cons, Bool.and_eq_true] at hn; exact ⟨h.1.noL hn.1, MCs.noL h.2 hn.2⟩
  | [], _ :: _, h, _ => h.elim
  | _ :: _, [], h, _ => h.elim
theorem MV.noL {x : V0} {v : Value} (h : MV S bs x v) (hn : noLV x = true) : MV S' bs x v := by
  cases x with
  | one c => exact MC.noL h hn
  | agg cs => obtain ⟨vs, h1, h2⟩ := h; exact ⟨vs, h1.noL hn, h2⟩
theorem MVs.noL : ∀ {cs : List V0} {vs : List Value}, MVs S bs cs vs → cs.all noLV = true → MVs S' bs cs vs
  | [], [], _, _ => trivial
  | p :: ps, v :: vs, h, hn => by simp only [List.all_cons, Bool.and_eq_true] at hn; exact ⟨h.1.noL hn.1, MVs.noL h.2 hn.2⟩
  | [], _ :: _, h, _ => h.elim
  | _ :: _, [], h, _ => h.elim
theorem MD.noL {d : D} {v : Value} (h : MD S bs d v) (hn : noLD d = true) : MD S' bs d v := by
  cases d with
  | v x => exact MV.noL h hn
  | tup l => obtain ⟨vs, h1, h2⟩ := h; exact ⟨vs, h1.noL hn, h2⟩
  | bad => trivial
theorem EOut.noL {o : AOut} {e : Ending} (h : EOut S bs o e) (hn : noLA o = true) : EOut S' bs o e := by
  cases o with
  | ret d => cases e with
    | returned v => exact MD.noL h hn
    | panicked ch => exact h.elim
    | outgrown => exact h.elim
  | pan c => cases e with
    | returned v => exact h.elim
    | panicked ch => obtain ⟨v, h1, h2⟩ := h; exact ⟨v, h1, h2.noL hn⟩
    | outgrown => exact h.elim
theorem enc_flat {u : U} (hu : flatU u = true) (x : u.den) {j : Nat} {p : P} (h : (enc alg u x)[j]? = some p) : noLP p = true := by
  cases u <;> cases hu
  all_goals
    rcases j with _ | _ | j <;> simp [enc, encFld] at h <;> subst h <;> rfl
theorem Rel.noL {o : HO} {c : CO} (h : Rel S bs o c) : noLO o = true → Rel S' bs o c := by
  induction h with
  | obj h => intro hn; exact .obj (h.noL hn)
  | row hlen hx => intro hn; exact .row hlen fun i x j p v a b c => (hx i x j p v a b c).noL (enc_flat hn x b)
  | pack hl h ih => intro hn; exact .pack hl fun i o c a b => ih i o c a b (noLOs_get hn a)
  | gone => intro _; exact .gone
  | abs hl h ih => intro hn; cases hn
end

/-- A row lent, and given back. -/
theorem At.lend {w : World} {S : Frz} {E size : Nat} {ao : Option Addr} {n cap : Nat} {cs : List Value} {l : List Chunk} (H : At w (rowC E size (.slice ao n cap) n cs :: frzC S :: l)) :
    ∃ S', S.le S' ∧ At w (frzC S' :: l) ∧ RdS S' size (.slice ao n cap) n cs ∧ ∀ (w' : World) (S2 : Frz) (m : List Chunk), S'.le S2 → At w' (frzC S2 :: m) → ∃ S3, S.le S3 ∧ At w' (rowC E size (.slice ao n cap) n cs :: frzC S3 :: m) := by
  obtain ⟨F, A, B, e, dj, hrow, A', B', e', dj', hfrz, hl⟩ := H
  obtain ⟨hF, hlen, hv⟩ := hrow
  obtain ⟨hA', h1, h2, h3, h4⟩ := hfrz
  rcases hv with ⟨hv, hn⟩ | ⟨g, cap', cur, fz, hv, hg, hfree, hnc, hcm, hcs, ht⟩
  · cases hv
    have hcs : cs = [] := List.eq_nil_of_length_eq_zero (by simpa using hlen)
    subst hcs
    exact ⟨S, Frz.le.refl S, ⟨_, A', B', fun _ => Iff.rfl, dj', ⟨hA', h1, h2, h3, h4⟩, hl⟩, fun w' _ => ⟨_, 0, rfl, Nat.le_refl _, Nat.zero_le _, fun _ => rfl, by simp, fun j u h => by simp at h⟩,
      fun w' S2 m hle hat => ⟨S2, hle, hat.nilRow _ _⟩⟩
  · cases hv
    have hA : ∀ k, A k ↔ k = g := fun k => by rw [hF k]; simp [Value.ownBlock, eq_comm]
    have hgn : S.blk g = none := by
      cases hS : S.blk g with
      | none => rfl
      | some o =>
        have : A' g := (hA' g).2 (by rw [hS]; rfl)
        exact (dj g ((hA g).2 rfl) ((e' g).2 (.inl this))).elim
    have hext : ∀ k o, S.blk k = some o → (if k = g then some (.cells cur E fz) else S.blk k) = some o := fun k o ho => by
      have : k ≠ g := fun hk => by subst hk; rw [hgn] at ho; cases ho
      simp only [this, if_false]; exact ho
    refine ⟨S.re S (fun k => if k = g then some (.cells cur E fz) else S.blk k) rfl rfl rfl hext, ⟨rfl, rfl, rfl, hext⟩, ⟨F, fun k => A k ∨ A' k, B', fun k => by rw [e k, e' k, or_assoc], ?_, ⟨fun k => ?_, h1, h2, h3, fun k o ho => ?_⟩, hl⟩, fun w' hw' => ?_, fun w' S2 m hle hat => ?_⟩
    · rintro k (hk | hk) hB
      · exact dj k hk ((e' k).2 (.inr hB))
      · exact dj' k hk hB
    · show (A k ∨ A' k) ↔ (if k = g then some (.cells cur E fz) else S.blk k).isSome = true
      rw [hA k, hA' k]
      by_cases hk : k = g <;> simp [hk]
    · have ho : (if k = g then some (.cells cur E fz) else S.blk k) = some o := ho
      by_cases hk : k = g
      · subst hk; simp only [if_true, Option.some.injEq] at ho; subst ho; exact hg
      · simp only [hk, if_false] at ho; exact h4 k o ho
    · have hgw : w'.heap[g]? = some (.cells cur E fz) := hw'.2.2.2 g _ (by simp [Frz.re])
      exact Owns.rd ⟨hlen, .inr ⟨g, cap, cur, fz, rfl, hgw, hfree, hnc, hcm, hcs, ht⟩⟩
    · obtain ⟨F2, A2, B2, e2, d2, ⟨hA2, i1, i2, i3, i4⟩, hm⟩ := hat
      have hS2 : S2.blk g = some (.cells cur E fz) := hle.2.2.2 g _ (by simp [Frz.re])
      have hgw : w'.heap[g]? = some (.cells cur E fz) := i4 g _ hS2
      have hshr : ∀ k o, S.blk k = some o → (if k = g then none else S2.blk k) = some o := fun k o ho => by
        have hk : k ≠ g := fun hk => by subst hk; rw [hgn] at ho; cases ho
        have := hle.2.2.2 k o (by simp only [Frz.re, hk, if_false]; exact ho)
        simp only [hk, if_false]; exact this
      refine ⟨S.re S2 (fun k => if k = g then none else S2.blk k) hle.1 hle.2.1 hle.2.2.1 hshr, ⟨hle.1, hle.2.1, hle.2.2.1, hshr⟩, F2, A, fun k => (A2 k ∧ k ≠ g) ∨ B2 k, fun k => ?_, fun k hk => ?_, ⟨hF, hlen, .inr ⟨g, cap, cur, fz, rfl, hgw, hfree, hnc, hcm, hcs, ht⟩⟩, fun k => A2 k ∧ k ≠ g, B2, fun _ => Iff.rfl, fun k hk => d2 k hk.1, ⟨fun k => ?_, i1, i2, i3, fun k o ho => ?_⟩, hm⟩
      · rw [e2 k, hA k]
        by_cases hk : k = g
        · subst hk
          have : A2 k := (hA2 k).2 (by rw [hS2]; rfl)
          simp [this]
        · simp [hk]
      · have hk := (hA k).1 hk
        subst hk
        rintro (h | h)
        · exact h.2 rfl
        · exact d2 k ((hA2 k).2 (by rw [hS2]; rfl)) h
      · show (A2 k ∧ k ≠ g) ↔ (if k = g then none else S2.blk k).isSome = true
        by_cases hk : k = g
        · simp [hk]
        · simp [hk, hA2 k]
      · have ho : (if k = g then none else S2.blk k) = some o := ho
        by_cases hk : k = g
        · simp [hk] at ho
        · simp only [hk, if_false] at ho; exact i4 k o ho

/-- A contract that reads a list may be given a row: the row comes back. -/
theorem Spc.lend1 {Pr : Program} {f : Nat} {args args1 : List D} {hp hp1 hp' : List HO} {out : AOut} {k : Nat} {u : U} {E : Nat} {l : List u.den} (h : Spc Pr f args1 hp1 out hp')
    (hk : hp[k]? = some (.row u E l)) (ha : args.map (D.frz alg k u l) = args1) (hh : setN (hp.map (HO.frz alg k u l)) k .gone = hp1) (ho : noLA out = true) (hp0 : noLOs hp' = true) :
    Spc Pr f args hp out (setN hp' k (.row u E l)) := by
  refine ⟨h.1, fun S K fr w vs hHR hargs hat => ?_⟩
  obtain ⟨c, hc, hr⟩ := hHR.get hk
  cases hr with
  | @row _ _ _ _ ao cap ws hlen hx =>
    have hbk := base_get hc
    obtain ⟨p, r, hp1', hp2, hp3⟩ := set_split hc
    have H := hat
    rw [hp1', chunkL_append] at H
    have H := H.perm (perm_front _ _ _ _ _)
    obtain ⟨S1, hle, hat1, hrd, hback⟩ := At.lend H
    have hf : ∀ c v, MC S (K.map CO.base) c v → MC S1 (K.map CO.base) (c.frz alg k u l) v := fun c v hm =>
      C.frz_sound (by rw [hbk]; rfl) hlen (fun i x j p v a b c => (hx i x j p v a b c).mono hle) hrd (hm.mono hle (Ext.refl _))
    have hbs : (K.set k (.gone (.slice ao l.length cap))).map CO.base = K.map CO.base := bases_set hc rfl
    have hHR1 : HR S1 (K.map CO.base) hp1 (K.set k (.gone (.slice ao l.length cap))) := by
      rw [← hh, setN_eq]
      refine HR.set ⟨by simp [hHR.1], fun i o' c' e1 e2 => ?_⟩ k .gone
      rw [List.getElem?_map, Option.map_eq_some_iff] at e1
      obtain ⟨o0, e3, rfl⟩ := e1
      have := hHR.2 i o0 c' e3 e2
      cases this with
      | obj hm => exact .obj (hm.map hf)
      | row a b => exact .row a fun i x j p v q1 q2 q3 => (b i x j p v q1 q2 q3).mono hle
      | pack a b => exact .pack a fun i o c q1 q2 => (b i o c q1 q2).mono hle (Ext.refl _)
      | abs a b => exact .abs a fun i o c q1 q2 => (b i o c q1 q2).mono hle (Ext.refl _)
      | gone => exact .gone
    have hargs1 : MDs S1 (K.map CO.base) args1 vs := by
      rw [← ha]
      clear h hHR hHR1 hp2 hp3 ha
      induction args generalizing vs with
      | nil => cases vs with | nil => trivial | cons _ _ => exact hargs.elim
      | cons d ds ih => cases vs with | nil => exact hargs.elim | cons v vs => exact ⟨D.frz_sound hf hargs.1, ih vs hargs.2⟩
    have hat2 : At w (frzC S1 :: (CO.chunkL (K.set k (.gone (.slice ao l.length cap))) ++ fr)) := by
      rw [hp3, chunkL_append]
      exact (At.void hat1).perm (perm_front _ _ _ _ _).symm
    refine (h.2 S1 _ fr w vs (by rw [hbs]; exact hHR1) (by rw [hbs]; exact hargs1) hat2).mono fun e w' he => ?_
    obtain ⟨S2, K2, hle2, hex, hHR2, hat3, heo⟩ := he
    rw [hbs] at hex
    obtain ⟨S3, hle3, hat4⟩ := hback w' S2 _ hle2 hat3
    have hb2 := hex k _ hbk
    have hk2 : k < K2.length := by simpa using (List.getElem?_eq_some_iff.1 hb2).1
    have hbs2 : (K2.set k (.row E u.size ao l.length cap ws)).map CO.base = K2.map CO.base := set_bases hb2
    refine ⟨S3, K2.set k (.row E u.size ao l.length cap ws), hle3, by rw [hbs2]; exact hex, ?_, ?_, by rw [hbs2]; exact heo.noL ho⟩
    · rw [hbs2, setN_eq]
      exact HR.set ⟨hHR2.1, fun i o c e1 e2 => (hHR2.2 i o c e1 e2).noL (noLOs_get hp0 e1)⟩ k (.row hlen fun i x j p v a b c => (hx i x j p v a b c).mono hle3)
    · refine At.put hk2 (fr := fr) (hat4.perm ?_)
      exact (List.Perm.swap _ _ _).trans (List.Perm.cons _ List.perm_middle.symm)

/-- A contract, one row behind its objects lent to it. -/
theorem Spc.lend {Pr : Program} {f : Nat} {args args0 : List D} {hp0 hp1 : List HO} {out0 : AOut} (h : Spc Pr f args0 hp0 out0 hp1) (u : U) (E : Nat) (l : List u.den) {os hpr : List HO}
    (hh : (hp0 ++ [HO.row u E l]).map (HO.frz alg hp0.length u l) = hp0 ++ [.row u E l]) (ht : takeOut (upto 0 hp0.length) (hp0 ++ [.gone]) = some (os, hpr)) (hos : os.map (HO.ren fun q => idx q (upto 0 hp0.length) 0) = hp0)
    (ha : (args.map (D.frz alg hp0.length u l)).map (D.ren fun q => idx q (upto 0 hp0.length) 0) = args0)
    (ho : noLA (out0.ren (backF (upto 0 hp0.length) (hp0 ++ [HO.gone]).length)) = true) (hn : noLOs (putBack (backF (upto 0 hp0.length) (hp0 ++ [HO.gone]).length) (upto 0 hp0.length) hp1 hpr) = true) :
    Spc Pr f args (hp0 ++ [.row u E l]) (out0.ren (backF (upto 0 hp0.length) (hp0 ++ [HO.gone]).length)) (setN (putBack (backF (upto 0 hp0.length) (hp0 ++ [HO.gone]).length) (upto 0 hp0.length) hp1 hpr) hp0.length (.row u E l)) :=
  (h.frame (upto 0 hp0.length) ht hos ha).lend1 (by simp) rfl (by rw [hh, setN_eq]; simp) ho hn
end Go.Ab
