/- An abstract machine for the walks (part 9): objects are opened and shut. -/
import Derived.Test.YtjapkdcomcgamaaGreatDoorAbH
set_option linter.all false
namespace Go.Ab
open Go Go.Sep
variable [Facts]

def capsRen (f : Nat → Option Nat) : List Cap → Option (List Cap)
  | [] => some []
  | .p x :: cs => match capsRen f cs with | some r => some (.p x :: r) | none => none
  | .ptr k off :: cs => match f k, capsRen f cs with | some j, some r => some (.ptr j off :: r) | _, _ => none
def C.ren (f : Nat → Option Nat) : C → C
  | .fn g caps => match capsRen f caps with | some cs => .fn g cs | none => .any
  | .ptr k off => match f k with | some j => .ptr j off | none => .any
  | .ept u k i off => match f k with | some j => .ept u j i off | none => .any
  | .row k => match f k with | some j => .row j | none => .any
  | .sub u k lo hi => match f k with | some j => .sub u j lo hi | none => .any
  | c => c
def V0.ren (f : Nat → Option Nat) : V0 → V0
  | .one c => .one (c.ren f)
  | .agg cs => .agg (cs.map (C.ren f))
def D.ren (f : Nat → Option Nat) : D → D
  | .v x => .v (x.ren f)
  | .tup l => .tup (l.map (V0.ren f))
  | .bad => .bad
def HO.ren (f : Nat → Option Nat) : HO → HO
  | .obj T cs => .obj T (cs.map (C.ren f))
  | o => o

theorem capsRen_sound {S : Frz} {bs bs' : List Value} {f : Nat → Option Nat} (hf : ∀ (k j : Nat) (v : Value), f k = some j → bs[k]? = some v → bs'[j]? = some v) : ∀ {cs rs : List Cap} {vs : List Value}, capsRen f cs = some rs → MCaps S bs cs vs → MCaps S bs' rs vs
  | [], rs, vs, h, hm => by cases h; cases vs with | nil => trivial | cons _ _ => exact hm.elim
  | .p x :: cs, rs, [], h, hm => hm.elim
  | .ptr k off :: cs, rs, [], h, hm => hm.elim
  | .p x :: cs, rs, v :: vs, h, hm => by
    simp only [capsRen] at h
    split at h
    · rename_i r hr; cases h; exact ⟨hm.1, capsRen_sound hf hr hm.2⟩
    · cases h
  | .ptr k off :: cs, rs, v :: vs, h, hm => by
    simp only [capsRen] at h
    split at h
    · rename_i j r hj hr
      cases h
      obtain ⟨b, h1, h2⟩ := hm.1
      exact ⟨⟨b, hf _ _ _ hj h1, h2⟩, capsRen_sound hf hr hm.2⟩
    · cases h
theorem C.ren_sound {S : Frz} {bs bs' : List Value} {f : Nat → Option Nat} (hf : ∀ (k j : Nat) (v : Value), f k = some j → bs[k]? = some v → bs'[j]? = some v) (c : C) (v : Value) (h : MC S bs c v) : MC S bs' (c.ren f) v := by
  have h1 := h.one
  cases c with
  | ptr k off =>
    simp only [C.ren]
    split
    · rename_i j hj; obtain ⟨b, h2, h3⟩ := h; exact ⟨b, hf _ _ _ hj h2, h3⟩
    · exact h1
  | ept u k i off =>
    simp only [C.ren]
    split
    · rename_i j hj; obtain ⟨ao, n, cap, h2, h3⟩ := h; exact ⟨ao, n, cap, hf _ _ _ hj h2, h3⟩
    · exact h1
  | row k =>
    simp only [C.ren]
    split
    · rename_i j hj; exact ⟨hf _ _ _ hj h.1, h.2⟩
    · exact h1
  | sub u k lo hi =>
    simp only [C.ren]
    split
    · rename_i j hj; obtain ⟨ao, n, cap, h2, h3⟩ := h; exact ⟨ao, n, cap, hf _ _ _ hj h2, h3⟩
    · exact h1
  | p x => exact h
  | fpt u l i off => exact h
  | nilS => exact h
  | fn g caps =>
    simp only [C.ren]
    split
    · rename_i cs hcs; obtain ⟨vs, h2, h3⟩ := h; exact ⟨vs, capsRen_sound hf hcs h2, h3⟩
    · exact h1
  | ifc T agg cs =>
    cases agg with
    | false => cases cs with
      | nil => exact h.elim
      | cons p ps => cases ps with
        | nil => exact h
        | cons q qs => exact h.elim
    | true => exact h
  | any => exact h
theorem V0.ren_sound {S : Frz} {bs bs' : List Value} {f : Nat → Option Nat} (hf : ∀ (k j : Nat) (v : Value), f k = some j → bs[k]? = some v → bs'[j]? = some v) (c : V0) (v : Value) (h : MV S bs c v) : MV S bs' (c.ren f) v := by
  cases c with
  | one c => exact C.ren_sound hf c v h
  | agg cs => obtain ⟨vs, h1, h2⟩ := h; exact ⟨vs, h1.map (C.ren_sound hf), h2⟩
theorem D.ren_sound {S : Frz} {bs bs' : List Value} {f : Nat → Option Nat} (hf : ∀ (k j : Nat) (v : Value), f k = some j → bs[k]? = some v → bs'[j]? = some v) (d : D) (v : Value) (h : MD S bs d v) : MD S bs' (d.ren f) v := by
  cases d with
  | v x => exact V0.ren_sound hf x v h
  | tup vs => obtain ⟨us, h1, h2⟩ := h; exact ⟨us, h1.map (V0.ren_sound hf), h2⟩
  | bad => trivial
theorem HO.ren_sound {S : Frz} {bs bs' : List Value} {f : Nat → Option Nat} (hf : ∀ (k j : Nat) (v : Value), f k = some j → bs[k]? = some v → bs'[j]? = some v) {o : HO} {c : CO} (h : Rel S bs o c) : Rel S bs' (o.ren f) c := by
  cases h with
  | obj h => exact .obj (h.map (C.ren_sound hf))
  | row a b => exact .row a b
  | pack a b => exact .pack a b
  | abs a b => exact .abs a b
  | gone => exact .gone

/-! ### open -/
def openF (k n : Nat) : Nat → Option Nat
  | 0 => some k
  | i + 1 => some (n + i)
def St.open1 (st : St) (k : Nat) : St :=
  match nth st.hp k with
  | some o => (match partsOf o with
    | h0 :: hs => { st with hp := setN st.hp k (h0.ren (openF k st.hp.length)) ++ hs.map (HO.ren (openF k st.hp.length)) }
    | [] => st)
  | none => st

theorem open_sound {X : Ctx} {st : St} {a : Act} {w : World} {S : Frz} {K : List CO} (hH : Heap X st.hp S K w) (hE : Env S (K.map CO.base) st a) (k : Nat) :
    ∃ K', Ext (K.map CO.base) (K'.map CO.base) ∧ Heap X (st.open1 k).hp S K' w ∧ Env S (K'.map CO.base) (st.open1 k) a := by
  unfold St.open1
  split
  · rename_i o ho
    rw [nth_eq] at ho
    obtain ⟨c, hc, hr⟩ := hH.2.2.1.get ho
    split
    case h_2 => exact ⟨K, Ext.refl _, hH, hE⟩
    rename_i h0 hs hpo
    obtain ⟨L, rfl, hl, hrel⟩ := hr.parts hpo
    · cases L with
      | nil => cases hl
      | cons c0 cs =>
        have hbs : (K.set k c0).map CO.base = K.map CO.base := bases_set hc rfl
        have he : Ext (K.map CO.base) ((K.set k c0 ++ cs).map CO.base) := by rw [List.map_append, hbs]; exact Ext.append _ _
        have hlen : st.hp.length = K.length := hH.2.2.1.1
        have hf : ∀ (i j : Nat) (v : Value), openF k st.hp.length i = some j → ((c0 :: cs).map CO.base)[i]? = some v → ((K.set k c0 ++ cs).map CO.base)[j]? = some v := by
          intro i j v h1 h2
          cases i with
          | zero =>
            simp only [openF, Option.some.injEq] at h1
            subst h1
            simp only [List.map_cons, List.getElem?_cons_zero, Option.some.injEq] at h2
            subst h2
            have hb := base_get hc
            exact he _ _ hb
          | succ i =>
            simp only [openF, Option.some.injEq] at h1
            subst h1
            simp only [List.map_cons, List.getElem?_cons_succ] at h2
            rw [List.map_append, List.getElem?_append_right (by simp [hlen])]
            simpa [hlen] using h2
        refine ⟨K.set k c0 ++ cs, he, ⟨hH.1, fun i v h => he i v (hH.2.1 i v h), ?_, ?_⟩, ⟨hE.size, hE.defers.mono (Frz.le.refl S) he, fun t d h => (hE.slots t d h).mono (Frz.le.refl S) he⟩⟩
        · refine ⟨by simp [setN_eq, hlen]; simpa using hl, fun i o c' h1 h2 => ?_⟩
          simp only [setN_eq] at h1
          rcases Nat.lt_or_ge i K.length with hi | hi
          · rw [List.getElem?_append_left (by simp [hlen]; exact hi)] at h1
            rw [List.getElem?_append_left (by simp; exact hi)] at h2
            have h0r := HO.ren_sound hf (hrel 0 h0 c0 rfl rfl)
            exact ((hH.2.2.1.mono (Frz.le.refl S) he).set k h0r).2 i o c' h1 h2
          · rw [List.getElem?_append_right (by simp [hlen]; exact hi)] at h1
            rw [List.getElem?_append_right (by simp; exact hi)] at h2
            simp only [List.length_set, hlen] at h1 h2
            rw [List.getElem?_map, Option.map_eq_some_iff] at h1
            obtain ⟨o', h3, rfl⟩ := h1
            have := HO.ren_sound hf (hrel (i - K.length + 1) o' c' (by simpa using h3) (by simpa using h2))
            rw [hlen] at this; exact this
        · obtain ⟨p, r, hp1, hp2, hp3⟩ := set_split hc
          have H := hH.2.2.2
          rw [hp1, chunkL_append] at H
          have H2 := H.perm (perm_front _ _ _ _ _)
          have H3 : At w ((c0.chunk :: CO.chunkL cs) ++ (frzC S :: ((CO.chunkL p ++ CO.chunkL r) ++ X.fr))) := At.many.1 H2
          rw [hp3, chunkL_append, chunkL_append]
          refine H3.perm ?_
          -- c0 :: cs ++ frz :: (p ++ r ++ fr)  ~  frz :: (p ++ c0 :: r) ++ cs ++ fr
          simp only [List.cons_append, CO.chunkL, List.append_assoc]
          refine List.Perm.trans (l₂ := c0.chunk :: frzC S :: (CO.chunkL p ++ (CO.chunkL r ++ (CO.chunkL cs ++ X.fr)))) (List.Perm.cons _ ?_) ?_
          · refine List.perm_middle.trans (List.Perm.cons _ ?_)
            have : (CO.chunkL cs ++ ((CO.chunkL p ++ CO.chunkL r) ++ X.fr)).Perm ((CO.chunkL p ++ CO.chunkL r) ++ (CO.chunkL cs ++ X.fr)) := by
              refine (List.Perm.append_left _ (List.Perm.refl _)).trans ?_
              have h9 : (CO.chunkL cs ++ (CO.chunkL p ++ CO.chunkL r)).Perm ((CO.chunkL p ++ CO.chunkL r) ++ CO.chunkL cs) := List.perm_append_comm
              have h10 := h9.append_right X.fr
              rw [List.append_assoc (CO.chunkL cs), List.append_assoc (CO.chunkL p ++ CO.chunkL r)] at h10
              exact h10
            simpa [List.append_assoc] using this
          · refine (List.Perm.swap _ _ _).trans (List.Perm.cons _ ?_)
            exact List.perm_middle.symm
  · exact ⟨K, Ext.refl _, hH, hE⟩

/-! ### shut -/
def idx (q : Nat) : List Nat → Nat → Option Nat
  | [], _ => none
  | x :: l, n => match Nat.beq x q with | true => some n | false => idx q l (n + 1)
/-- Objects taken out. -/
def takeOut : List Nat → List HO → Option (List HO × List HO)
  | [], hp => some ([], hp)
  | q :: qs, hp => match nth hp q with
    | none => none
    | some o => (match takeOut qs (setN hp q .gone) with | some (os, hp') => some (o :: os, hp') | none => none)
def capPtrs : List Cap → List Nat
  | [] => []
  | .ptr k _ :: cs => k :: capPtrs cs
  | .p _ :: cs => capPtrs cs
def refs : List C → List Nat
  | [] => []
  | .fn _ caps :: cs => capPtrs caps ++ refs cs
  | .ptr k _ :: cs => k :: refs cs
  | .row k :: cs => k :: refs cs
  | _ :: cs => refs cs
def memN (k : Nat) : List Nat → Bool
  | [] => false
  | x :: l => match Nat.beq x k with | true => true | false => memN k l
/-- What hangs on an object, in order. -/
def gather (hp : List HO) : Nat → List Nat → List Nat → List Nat
  | 0, _, seen => seen
  | _ + 1, [], seen => seen
  | f + 1, k :: work, seen => match memN k seen with
    | true => gather hp f work seen
    | false => match nth hp k with
      | some (.obj _ cs) => gather hp f (refs cs ++ work) (seen ++ [k])
      | some .gone => gather hp f work seen
      | none => gather hp f work seen
      | some _ => gather hp f work (seen ++ [k])
def St.shut0 (st : St) (k : Nat) : St :=
  match nth st.hp k with
  | some (.obj _ _) =>
    let qs := gather st.hp 60 [k] []
    match takeOut qs st.hp with
    | some (os, hp') => { st with hp := setN hp' k (packAb (os.map (HO.ren fun q => idx q qs 0))) }
    | none => st
  | _ => st

theorem takeOut_sound {S : Frz} {bs : List Value} {w : World} : ∀ {qs : List Nat} {hp os hp' : List HO} {K : List CO} {fr : List Chunk}, takeOut qs hp = some (os, hp') → K.map CO.base = bs → HR S bs hp K → At w (frzC S :: (CO.chunkL K ++ fr)) →
    ∃ Cs K', K'.map CO.base = bs ∧ HR S bs hp' K' ∧ At w (frzC S :: (CO.chunkL K' ++ (CO.chunkL Cs ++ fr))) ∧ Cs.length = os.length ∧ os.length = qs.length ∧ (∀ (i q : Nat) (c : CO), qs[i]? = some q → Cs[i]? = some c → bs[q]? = some c.base) ∧
      (∀ (i : Nat) (o : HO) (c : CO), os[i]? = some o → Cs[i]? = some c → Rel S bs o c)
  | [], hp, os, hp', K, fr, h, hb, hr, hat => by
    cases h
    exact ⟨[], K, hb, hr, hat, rfl, rfl, fun i q c h => by simp at h, fun i o c h => by simp at h⟩
  | q :: qs, hp, os, hp', K, fr, h, hb, hr, hat => by
    simp only [takeOut] at h
    split at h
    · cases h
    · rename_i o hno
      split at h
      · rename_i os' hp'' hrec
        cases h
        rw [nth_eq] at hno
        obtain ⟨c, hc, hrel⟩ := hr.get hno
        obtain ⟨p, r, hp1, hp2, hp3⟩ := set_split hc
        have hbs : (K.set q (.gone c.base)).map CO.base = bs := by rw [← hb]; exact bases_set hc rfl
        have hat2 : At w (frzC S :: (CO.chunkL (K.set q (.gone c.base)) ++ (c.chunk :: fr))) := by
          rw [hp1, chunkL_append] at hat
          have H2 := hat.perm (perm_front _ _ _ _ _)
          rw [hp3, chunkL_append]
          have H3 : At w (frzC S :: ((CO.chunkL p ++ CO.chunkL r) ++ (c.chunk :: fr))) := H2.perm (perm_front2 _ _ _ _)
          exact (At.void H3).perm (perm_front _ _ _ _ _).symm
        have hr2 : HR S bs (setN hp q .gone) (K.set q (.gone c.base)) := by rw [setN_eq]; exact hr.set q .gone
        obtain ⟨Cs, K', h1, h2, h3, h4, h5, h6, h7⟩ := takeOut_sound hrec hbs hr2 hat2
        refine ⟨c :: Cs, K', h1, h2, ?_, by simp [h4], by simp [h5], fun i q' c' e1 e2 => ?_, fun i o' c' e1 e2 => ?_⟩
        · refine h3.perm (List.Perm.cons _ (List.Perm.append_left _ ?_))
          simp only [CO.chunkL, List.cons_append]
          exact List.perm_middle
        · cases i with
          | zero => simp at e1 e2; subst e1; subst e2; rw [← hb]; exact base_get hc
          | succ i => exact h6 i q' c' (by simpa using e1) (by simpa using e2)
        · cases i with
          | zero => simp at e1 e2; subst e1; subst e2; exact hrel
          | succ i => exact h7 i o' c' (by simpa using e1) (by simpa using e2)
      · cases h

theorem idx_get {q : Nat} : ∀ {l : List Nat} {n j : Nat}, idx q l n = some j → n ≤ j ∧ l[j - n]? = some q
  | [], n, j, h => by cases h
  | x :: l, n, j, h => by
    simp only [idx] at h
    split at h
    · rename_i hx
      cases h
      exact ⟨Nat.le_refl _, by rw [Nat.sub_self]; simp [Nat.eq_of_beq_eq_true hx]⟩
    · obtain ⟨h1, h2⟩ := idx_get h
      refine ⟨by omega, ?_⟩
      rw [show j - n = (j - (n + 1)) + 1 by omega]
      simpa using h2

theorem gather_head (hp : List HO) : ∀ (f : Nat) (work seen : List Nat) (q : Nat) (r : List Nat), seen = q :: r → ∃ r', gather hp f work seen = q :: r'
  | 0, _, seen, q, r, h => ⟨r, h⟩
  | f + 1, [], seen, q, r, h => ⟨r, h⟩
  | f + 1, k :: work, seen, q, r, h => by
    simp only [gather]
    split
    · exact gather_head hp f work seen q r h
    · split
      · exact gather_head hp f _ _ q (r ++ [k]) (by rw [h]; rfl)
      · exact gather_head hp f work seen q r h
      · exact gather_head hp f work seen q r h
      · exact gather_head hp f _ _ q (r ++ [k]) (by rw [h]; rfl)

theorem shut0_sound {X : Ctx} {st : St} {a : Act} {w : World} {S : Frz} {K : List CO} (hH : Heap X st.hp S K w) (hE : Env S (K.map CO.base) st a) (k : Nat) :
    ∃ K', K'.map CO.base = K.map CO.base ∧ Heap X (st.shut0 k).hp S K' w ∧ Env S (K'.map CO.base) (st.shut0 k) a := by
  unfold St.shut0
  split
  · rename_i T0 cs0 ho
    simp only
    split
    · rename_i os hp' hto
      obtain ⟨Cs, K', h1, h2, h3, h4, h5, h6, h7⟩ := takeOut_sound hto rfl hH.2.2.1 hH.2.2.2
      -- the first of the list is k
      obtain ⟨r', hq⟩ : ∃ r', gather st.hp 60 [k] [] = k :: r' := by
        have : gather st.hp 60 [k] [] = gather st.hp 59 (refs cs0 ++ []) ([] ++ [k]) := by
          rw [gather]; simp only [memN]; rw [ho]
        rw [this]
        exact gather_head st.hp 59 _ _ k [] rfl
      have hCs : ∃ c0 cs, Cs = c0 :: cs := by
        cases Cs with
        | nil => rw [hq] at h5; simp at h4 h5; omega
        | cons c0 cs => exact ⟨c0, cs, rfl⟩
      obtain ⟨c0, cs, rfl⟩ := hCs
      have hb0 := h6 0 k c0 (by rw [hq]; rfl) rfl
      have hklt : k < K'.length := by
        have := (List.getElem?_eq_some_iff.1 hb0).1
        rw [← h1] at this; simpa using this
      have hck : K'[k]? = some K'[k] := List.getElem?_eq_getElem hklt
      have hbk : (CO.pack (c0 :: cs)).base = (K'[k]).base := by
        rw [← h1, base_get hck] at hb0
        simp only [Option.some.injEq] at hb0
        exact hb0.symm
      have hbs : (K'.set k (.pack (c0 :: cs))).map CO.base = K.map CO.base := by rw [bases_set hck hbk, h1]
      refine ⟨K'.set k (.pack (c0 :: cs)), hbs, ⟨hH.1, by rw [hbs]; exact hH.2.1, ?_, ?_⟩, ?_⟩
      · rw [hbs]
        simp only
        rw [setN_eq]
        refine h2.set k (Rel.packAb (.pack (by simp [h4]) fun i o c e1 e2 => ?_))
        rw [List.getElem?_map, Option.map_eq_some_iff] at e1
        obtain ⟨o', e3, rfl⟩ := e1
        refine HO.ren_sound (bs := K.map CO.base) (fun q j v e4 e5 => ?_) (h7 i o' c e3 e2)
        obtain ⟨_, e6⟩ := idx_get e4
        simp only [Nat.sub_zero] at e6
        have hjl : j < (c0 :: cs).length := by rw [h4, h5]; exact (List.getElem?_eq_some_iff.1 e6).1
        have := h6 j q _ e6 (List.getElem?_eq_getElem hjl)
        rw [e5] at this
        cases this
        rw [List.getElem?_map, List.getElem?_eq_getElem hjl]; rfl
      · obtain ⟨p, r, hp1, hp2, hp3⟩ := set_split hck
        rw [hp3, chunkL_append]
        rw [hp1, chunkL_append] at h3
        have H4 := (h3.perm (perm_front _ _ _ _ _)).tail
        -- frz :: (p ++ r) ++ (Cs ++ fr)
        have H5 : At w (CO.chunkL (c0 :: cs) ++ (frzC S :: ((CO.chunkL p ++ CO.chunkL r) ++ X.fr))) := by
          refine H4.perm ?_
          refine List.Perm.trans ?_ List.perm_middle.symm
          refine List.Perm.cons _ ?_
          have h9 : ((CO.chunkL p ++ CO.chunkL r) ++ CO.chunkL (c0 :: cs)).Perm (CO.chunkL (c0 :: cs) ++ (CO.chunkL p ++ CO.chunkL r)) := List.perm_append_comm
          have h10 := h9.append_right X.fr
          rw [List.append_assoc (CO.chunkL p ++ CO.chunkL r), List.append_assoc (CO.chunkL (c0 :: cs))] at h10
          exact h10
        have H6 : At w ((CO.pack (c0 :: cs)).chunk :: (frzC S :: ((CO.chunkL p ++ CO.chunkL r) ++ X.fr))) := At.many.2 H5
        exact H6.perm (perm_front _ _ _ _ _).symm
      · rw [hbs]; exact ⟨hE.size, hE.defers, hE.slots⟩
    · exact ⟨K, rfl, hH, hE⟩
  · exact ⟨K, rfl, hH, hE⟩

/-! ### nil slices: as rows of nothing -/
/-- A cell of an object type that is a slice: of what; with an element type, where it is to be a row of the object's own. -/
structure SlE where
  T : Nat
  off : Nat
  u : U
  E : Option Nat
def fix1 (k : Nat) (e : SlE) (st : St) : St :=
  match nth st.hp k with
  | some (.obj ty cs) => match Nat.beq ty e.T, nth cs e.off with
    | true, some .nilS => (match e.E with
      | some E => { st with hp := setN st.hp k (.obj ty (setN cs e.off (.row st.hp.length))) ++ [.row e.u E []] }
      | none => { st with hp := setN st.hp k (.obj ty (setN cs e.off (.p (.list e.u [])))) })
    | _, _ => st
  | _ => st
def fixObj (k : Nat) : List SlE → St → St
  | [], st => st
  | e :: es, st => fixObj k es (fix1 k e st)
def fixAll (sl : List SlE) : List Nat → St → St
  | [], st => st
  | k :: ks, st => fixAll sl ks (fixObj k sl st)
/-- Objects are taken apart, instead of being packed. -/
def isRaw : List SlE → Bool
  | ⟨T, _, _, _⟩ :: _ => Nat.beq T 1000000
  | [] => false
def rawSl : List SlE := [⟨1000000, 0, .byte, none⟩]
/-- Types whose objects stay packs of their own. -/
def innTy : List SlE → Nat → Bool
  | [], _ => false
  | ⟨T, off, _, _⟩ :: l, t => match Nat.beq off 1000001 with
    | true => (match Nat.beq T t with | true => true | false => innTy l t)
    | false => innTy l t
def innAll (sl : List SlE) : List Nat → St → St
  | [], st => st
  | q :: qs, st => match nth st.hp q with
    | some (.obj t _) => (match innTy sl t with | true => innAll sl qs (st.shut0 q) | false => innAll sl qs st)
    | _ => innAll sl qs st
def hasInn : List SlE → Bool
  | [] => false
  | ⟨_, off, _, _⟩ :: l => match Nat.beq off 1000001 with | true => true | false => hasInn l
def innUp (sl : List SlE) (k : Nat) (st : St) : St := match hasInn sl with
  | true => innAll sl (gather st.hp 60 [k] []) st
  | false => st
def St.shut (sl : List SlE) (st : St) (k : Nat) : St := match isRaw sl with
  | true => st.open1 k
  | false => (innUp sl k (fixAll sl (gather st.hp 60 [k] []) st)).shut0 k

/-- A row of nothing, for nil. -/
theorem nilRow_sound {X : Ctx} {hp : List HO} {w : World} {S : Frz} {K : List CO} (hH : Heap X hp S K w) (u : U) (E : Nat) :
    Ext (K.map CO.base) ((K ++ [CO.row E u.size none 0 0 []]).map CO.base) ∧ Heap X (hp ++ [.row u E []]) S (K ++ [CO.row E u.size none 0 0 []]) w ∧ MC S ((K ++ [CO.row E u.size none 0 0 []]).map CO.base) (.row hp.length) (.slice none 0 0) := by
  have he : Ext (K.map CO.base) ((K ++ [CO.row E u.size none 0 0 []]).map CO.base) := by rw [List.map_append]; exact Ext.append _ _
  refine ⟨he, ⟨hH.1, fun k v h => he k v (hH.2.1 k v h), ?_, ?_⟩, ?_⟩
  · exact (hH.2.2.1.mono (Frz.le.refl S) he).push (Rel.row (l := ([] : List u.den)) (Elts.nil S u).1 (Elts.nil S u).2)
  · exact At.more (hH.2.2.2.nilRow E u.size)
  · rw [hH.2.2.1.1]
    exact ⟨base_last _ _, none, 0, 0, rfl⟩

theorem fix1_sound {X : Ctx} {st : St} {a : Act} {w : World} {S : Frz} {K : List CO} (hH : Heap X st.hp S K w) (hE : Env S (K.map CO.base) st a) (k : Nat) (e : SlE) :
    ∃ K', Ext (K.map CO.base) (K'.map CO.base) ∧ Heap X (fix1 k e st).hp S K' w ∧ Env S (K'.map CO.base) (fix1 k e st) a := by
  unfold fix1
  split
  · rename_i ty cs ho
    split
    · rename_i hc
      rw [nth_eq] at ho hc
      obtain ⟨c, hk, hr⟩ := hH.2.2.1.get ho
      have hklt := (List.getElem?_eq_some_iff.1 hk).1
      cases hr with
      | @obj _ b _ _ vs hm =>
        obtain ⟨v, hv, hv0⟩ := hm.get hc
        cases hv0
        -- the object with another word for the same cell
        have turn : ∀ {hp' : List HO} {K' : List CO} {x : C}, Ext (K.map CO.base) (K'.map CO.base) → K'[k]? = some (.obj b ty vs) → Heap X hp' S K' w → MC S (K'.map CO.base) x (.slice none 0 0) → Heap X (hp'.set k (.obj ty (cs.set e.off x))) S K' w := by
          intro hp' K' x hex hk' hH' hx
          refine ⟨hH'.1, hH'.2.1, ?_, hH'.2.2.2⟩
          have h1 := (hm.mono (Frz.le.refl S) hex).set e.off hx
          have e1 : vs.set e.off (.slice none 0 0) = vs := by
            apply List.ext_getElem?
            intro j
            rw [List.getElem?_set]
            split
            · rename_i hj; subst hj; split
              · exact hv.symm
              · rename_i hno; rw [List.getElem?_eq_none (by omega)]
            · rfl
          rw [e1] at h1
          have h2 := hH'.2.2.1.set k (Rel.obj (b := b) (T := ty) h1)
          have e2 : K'.set k (.obj b ty vs) = K' := by
            apply List.ext_getElem?
            intro j
            rw [List.getElem?_set]
            split
            · rename_i hj; subst hj; split
              · exact hk'.symm
              · rename_i hno; rw [List.getElem?_eq_none (by omega)]
            · rfl
          rw [e2] at h2
          exact h2
        split
        · rename_i E hE2
          obtain ⟨h1, h2, h3⟩ := nilRow_sound hH e.u E
          refine ⟨_, h1, ?_, ⟨hE.size, hE.defers.mono (Frz.le.refl S) h1, fun t d h => (hE.slots t d h).mono (Frz.le.refl S) h1⟩⟩
          have h4 := turn h1 (by rw [List.getElem?_append_left hklt]; exact hk) h2 h3
          have hlt2 := (List.getElem?_eq_some_iff.1 ho).1
          rw [List.set_append_left _ _ hlt2] at h4
          simp only
          rw [setN_eq, setN_eq]
          exact h4
        · refine ⟨K, Ext.refl _, ?_, ⟨hE.size, hE.defers, hE.slots⟩⟩
          simp only
          rw [setN_eq, setN_eq]
          exact turn (Ext.refl _) hk hH (nil_list e.u)
    · exact ⟨K, Ext.refl _, hH, hE⟩
  · exact ⟨K, Ext.refl _, hH, hE⟩
theorem fixObj_sound {X : Ctx} {a : Act} {w : World} {S : Frz} (k : Nat) : ∀ {sl : List SlE} {st : St} {K : List CO}, Heap X st.hp S K w → Env S (K.map CO.base) st a → ∃ K', Ext (K.map CO.base) (K'.map CO.base) ∧ Heap X (fixObj k sl st).hp S K' w ∧ Env S (K'.map CO.base) (fixObj k sl st) a
  | [], st, K, hH, hE => ⟨K, Ext.refl _, hH, hE⟩
  | e :: es, st, K, hH, hE => by
    obtain ⟨K1, h1, h2, h3⟩ := fix1_sound hH hE k e
    obtain ⟨K2, h4, h5, h6⟩ := fixObj_sound k (sl := es) h2 h3
    exact ⟨K2, h1.trans h4, h5, h6⟩
theorem fixAll_sound {X : Ctx} {a : Act} {w : World} {S : Frz} {sl : List SlE} : ∀ {ks : List Nat} {st : St} {K : List CO}, Heap X st.hp S K w → Env S (K.map CO.base) st a → ∃ K', Ext (K.map CO.base) (K'.map CO.base) ∧ Heap X (fixAll sl ks st).hp S K' w ∧ Env S (K'.map CO.base) (fixAll sl ks st) a
  | [], st, K, hH, hE => ⟨K, Ext.refl _, hH, hE⟩
  | k :: ks, st, K, hH, hE => by
    obtain ⟨K1, h1, h2, h3⟩ := fixObj_sound k (sl := sl) hH hE
    obtain ⟨K2, h4, h5, h6⟩ := fixAll_sound (ks := ks) h2 h3
    exact ⟨K2, h1.trans h4, h5, h6⟩
theorem innAll_sound {X : Ctx} {a : Act} {w : World} {S : Frz} {sl : List SlE} : ∀ {ks : List Nat} {st : St} {K : List CO}, Heap X st.hp S K w → Env S (K.map CO.base) st a → ∃ K', K'.map CO.base = K.map CO.base ∧ Heap X (innAll sl ks st).hp S K' w ∧ Env S (K'.map CO.base) (innAll sl ks st) a
  | [], st, K, hH, hE => ⟨K, rfl, hH, hE⟩
  | q :: qs, st, K, hH, hE => by
    unfold innAll
    split
    · split
      · obtain ⟨K1, h1, h2, h3⟩ := shut0_sound hH hE q
        obtain ⟨K2, h4, h5, h6⟩ := innAll_sound (ks := qs) h2 h3
        exact ⟨K2, h4.trans h1, h5, h6⟩
      · exact innAll_sound (ks := qs) hH hE
    · exact innAll_sound (ks := qs) hH hE
theorem innUp_sound {X : Ctx} {a : Act} {w : World} {S : Frz} {sl : List SlE} {k : Nat} {st : St} {K : List CO} (hH : Heap X st.hp S K w) (hE : Env S (K.map CO.base) st a) : ∃ K', K'.map CO.base = K.map CO.base ∧ Heap X (innUp sl k st).hp S K' w ∧ Env S (K'.map CO.base) (innUp sl k st) a := by
  unfold innUp
  split
  · exact innAll_sound hH hE
  · exact ⟨K, rfl, hH, hE⟩
theorem shut_sound {X : Ctx} {st : St} {a : Act} {w : World} {S : Frz} {K : List CO} {sl : List SlE} (hH : Heap X st.hp S K w) (hE : Env S (K.map CO.base) st a) (k : Nat) :
    ∃ K', Ext (K.map CO.base) (K'.map CO.base) ∧ Heap X (st.shut sl k).hp S K' w ∧ Env S (K'.map CO.base) (st.shut sl k) a := by
  unfold St.shut
  split
  · exact open_sound hH hE k
  obtain ⟨K1, h1, h2, h3⟩ := fixAll_sound (sl := sl) (ks := gather st.hp 60 [k] []) hH hE
  obtain ⟨K3, h7, h8, h9⟩ := innUp_sound (sl := sl) (k := k) h2 h3
  obtain ⟨K2, h4, h5, h6⟩ := shut0_sound h8 h9 k
  exact ⟨K2, by rw [h4, h7]; exact h1, h5, h6⟩

/-! ### append onto a row that is read on -/
def C.al (k n : Nat) (u : U) (len : Int) : C → C
  | .row j => match Nat.beq j k with | true => .sub u n 0 len | false => .row j
  | .sub u' j lo hi => match Nat.beq j k with | true => .sub u' n lo hi | false => .sub u' j lo hi
  | .ept u' j i off => match Nat.beq j k with | true => .ept u' n i off | false => .ept u' j i off
  | c => c
def V0.al (k n : Nat) (u : U) (len : Int) : V0 → V0
  | .one c => .one (c.al k n u len)
  | .agg cs => .agg (cs.map (C.al k n u len))
def D.al (k n : Nat) (u : U) (len : Int) : D → D
  | .v x => .v (x.al k n u len)
  | .tup vs => .tup (vs.map (V0.al k n u len))
  | .bad => .bad
def HO.al (k n : Nat) (u : U) (len : Int) : HO → HO
  | .obj T cs => .obj T (cs.map (C.al k n u len))
  | o => o
def envAl (k n : Nat) (u : U) (len : Int) : List (Nat × D) → List (Nat × D)
  | [] => []
  | (t, d) :: r => (t, d.al k n u len) :: envAl k n u len r
def forkL (I : Alg) (T : Tab) (st : St) (t ut : Nat) (s x : Operand) : Option (Prop × St × St) :=
  match T t, T ut, oneC (st.eval s), oneC (st.eval x) with
  | some ⟨.slice E, _, _, _, some u⟩, some ue, some (.row k), some cx => (match ue.ty with
    | .int _ => none
    | .other => none
    | _ => match T E, srcOf I st.hp u cx, nth st.hp k with
      | some ee, some m, some (.row u' E' l') => (match Nat.ble ee.bytes 1000000, ee.zero, Nat.beq E E', castL u u' l' with
        | true, some _, true, some l => some (I.few (I.add (I.len l) (I.len m)) 100000000,
            { st with env := envAl k st.hp.length u (I.len l) st.env, hp := setN (st.hp.map (HO.al k st.hp.length u (I.len l))) k .gone ++ [.row u E (I.app l m)] },
            { st with hp := st.hp ++ [.row u E (I.app l m)] })
        | _, _, _, _ => none)
      | _, _, _ => none)
  | _, _, _, _ => none
section
variable {Pr : Program} {T : Tab} {X : Ctx} {st : St} {a : Act} {w : World} {S : Frz} {K : List CO}
theorem C.al_sound {bs bs' : List Value} (he : Ext bs bs') {k n : Nat} {u : U} {g : Addr} {L L2 cap cap2 : Nat} (hk : bs[k]? = some (.slice (some g) L cap)) (hn : bs'[n]? = some (.slice (some g) L2 cap2)) (hL : L ≤ L2) (hc : L ≤ cap) (hm : cap ≤ maxLen) (hcc : cap ≤ cap2)
    (c : C) (v : Value) (h : MC S bs c v) : MC S bs' (c.al k n u (L : Int)) v := by
  have keep : MC S bs' c v := MC.mono (Frz.le.refl S) he h
  cases c with
  | row j =>
    simp only [C.al]
    split
    · rename_i hj
      obtain rfl := Nat.eq_of_beq_eq_true hj
      obtain ⟨h1, ao, n', cap', rfl⟩ := h
      rw [hk] at h1
      simp only [Option.some.injEq, Value.slice.injEq] at h1
      obtain ⟨rfl, rfl, rfl⟩ := h1
      refine ⟨some g, L2, cap2, hn, Int.le_refl 0, by omega, some g, cap, ?_, by omega, by omega, by omega, hm, (fun e => by cases e), fun _ => ?_, fun _ => ⟨rfl, hcc⟩⟩
      · simp
      · simp only [Int.toNat_zero, Nat.zero_mul, Option.map_some]
        congr 1
    · exact keep
  | sub u' j lo hi =>
    simp only [C.al]
    split
    · rename_i hj
      obtain rfl := Nat.eq_of_beq_eq_true hj
      obtain ⟨ao, n', cap', h1, h2, h3, ao', cap3, h4, h5, h6, h7, h8, h9, h10⟩ := h
      rw [hk] at h1
      simp only [Option.some.injEq, Value.slice.injEq] at h1
      obtain ⟨rfl, rfl, rfl⟩ := h1
      exact ⟨some g, L2, cap2, hn, h2, h3, ao', cap3, h4, h5, by omega, h7, h8, h9, h10.1, fun h0 => ⟨(h10.2 h0).1, Nat.le_trans (h10.2 h0).2 hcc⟩⟩
    · exact keep
  | ept u' j i off =>
    simp only [C.al]
    split
    · rename_i hj
      obtain rfl := Nat.eq_of_beq_eq_true hj
      obtain ⟨ao, n', cap', h1, h2, h3⟩ := h
      rw [hk] at h1
      simp only [Option.some.injEq, Value.slice.injEq] at h1
      obtain ⟨rfl, rfl, rfl⟩ := h1
      exact ⟨some g, L2, cap2, hn, h2, h3⟩
    · exact keep
  | _ => exact keep
theorem V0.al_sound {bs bs' : List Value} {k n : Nat} {u : U} {len : Int} (hf : ∀ c v, MC S bs c v → MC S bs' (c.al k n u len) v) (c : V0) (v : Value) (h : MV S bs c v) : MV S bs' (c.al k n u len) v := by
  cases c with
  | one c => exact hf c v h
  | agg cs => obtain ⟨vs, h1, h2⟩ := h; exact ⟨vs, h1.map hf, h2⟩
theorem D.al_sound {bs bs' : List Value} {k n : Nat} {u : U} {len : Int} (hf : ∀ c v, MC S bs c v → MC S bs' (c.al k n u len) v) {d : D} {v : Value} (h : MD S bs d v) : MD S bs' (d.al k n u len) v := by
  cases d with
  | v x => exact V0.al_sound hf x v h
  | tup vs => obtain ⟨us, h1, h2⟩ := h; exact ⟨us, h1.map (V0.al_sound hf), h2⟩
  | bad => trivial
theorem look_al {k n : Nat} {u : U} {len : Int} : ∀ {env : List (Nat × D)} {t : Nat} {d : D}, look (envAl k n u len env) t = some d → ∃ d', look env t = some d' ∧ d = d'.al k n u len
  | [], t, d, h => by cases h
  | (s, d0) :: r, t, d, h => by
    simp only [envAl] at h
    rw [look_cons] at h ⊢
    split at h
    · rename_i hs; cases h; exact ⟨d0, by rw [if_pos hs], rfl⟩
    · rename_i hs; obtain ⟨d', h1, h2⟩ := look_al h; exact ⟨d', by rw [if_neg hs]; exact h1, h2⟩
variable {dst : Option Tmp} {ty : TypeId} {pos : String} {af : Array Edge} {gd : Option (Nat × Bool)}
theorem fork_sound (hT : T.fits Pr) (hH : Heap X st.hp S K w) (hE : Env S (K.map CO.base) st a) {t ut : Nat} {s x : Operand} {p : Prop} {stA stB : St} (hf : forkL alg T st t ut s x = some (p, stA, stB)) (hp : p) :
    ∃ v w' K' st', (st' = stA ∨ st' = stB) ∧ Does Pr a w ⟨dst, .call { callee := .builtin .append, args := #[s, x], argTypes := #[t, ut] }, ty, pos, af, gd⟩ v w' ∧ Heap X st'.hp S K' w' ∧ Env S (K'.map CO.base) st' a ∧ MD S (K'.map CO.base) (.v (.one (.row st.hp.length))) v := by
  unfold forkL at hf
  split at hf
  · rename_i E n1 n2 z u ue k cx hte hue hcs hcx
    split at hf
    · cases hf
    · cases hf
    · rename_i hni hno
      split at hf
      · rename_i ee m u' E' l' hee hm ho
        split at hf
        · rename_i zz l hby hez hb hcast
          simp only [Option.some.injEq, Prod.mk.injEq] at hf
          obtain ⟨rfl, rfl, rfl⟩ := hf
          have hby := Nat.le_of_ble_eq_true hby
          have hb := Nat.eq_of_beq_eq_true hb
          subst hb
          obtain ⟨e, he⟩ := castL_eq hcast
          subst e; subst he
          have hms := (hH.sit hT hE).one hcs
          have hmx := (hH.sit hT hE).one hcx
          generalize hxv : a.eval x = xv at hmx
          generalize hsv : a.eval s = sv at hms
          obtain ⟨us, hsrc, helt⟩ := srcOf_sound hT hH hE hm hmx
          rw [alg_few, alg_add, alg_len, alg_len] at hp
          rw [nth_eq] at ho
          obtain ⟨ao0, cap0, vs, hk, hlen, hxs, hrd⟩ := (hH.sit hT hE).row ho
          have hv := hms.1
          rw [base_get hk] at hv
          cases hv
          obtain ⟨pp, r, hp1, hp2, hfront⟩ := chunk_front hk hH.2.2.2
          obtain ⟨ao, cap, w', hd, hA⟩ := append_core2 (dst := dst) (ty := ty) (pos := pos) (af := af) (gd := gd) (S := S) hT hte hue (fun k h => hni k h) (fun h => hno h) hee hby hez hsv hxv hfront hsrc helt (.inr hp)
          have hall := Elts.append ⟨hlen, hxs⟩ helt
          obtain ⟨_, _, erd, hnc, hcm, _⟩ := hrd
          cases erd
          rcases hA with hA | ⟨hA, g, cap9, e1, e2⟩
          · -- the old row stands by itself
            have he : Ext (K.map CO.base) ((K ++ [CO.row E u'.size ao (l' ++ m).length cap (vs ++ us)]).map CO.base) := by rw [List.map_append]; exact Ext.append _ _
            refine ⟨_, w', K ++ [CO.row E u'.size ao (l' ++ m).length cap (vs ++ us)], _, .inr rfl, hd, ⟨hH.1, fun k v h => he k v (hH.2.1 k v h), ?_, ?_⟩, ⟨hE.size, hE.defers.mono (Frz.le.refl S) he, fun t d h => (hE.slots t d h).mono (Frz.le.refl S) he⟩, ?_⟩
            · exact (hH.2.2.1.mono (Frz.le.refl S) he).push (.row hall.1 hall.2)
            · refine At.more ?_
              have h5 := hA.perm (List.Perm.swap _ _ _)
              rw [hp1, chunkL_append]
              refine hA.perm ?_
              refine List.Perm.cons _ ?_
              exact (perm_front (frzC S) (CO.chunkL pp) (CO.chunkL r) _ X.fr).symm
            · show MC S _ (.row st.hp.length) _
              rw [hH.2.2.1.1]
              exact ⟨base_last _ _, _, _, _, rfl⟩
          · -- it is the new one's beginning
            cases e1
            obtain ⟨e2, hc02⟩ := e2
            subst e2
            have hbs : (K.set k (.gone (.slice (some g) l'.length cap0))).map CO.base = K.map CO.base := bases_set hk rfl
            have hb2 : (K.set k (.gone (.slice (some g) l'.length cap0)) ++ [CO.row E u'.size (some g) (l' ++ m).length cap (vs ++ us)]).map CO.base = K.map CO.base ++ [.slice (some g) (l' ++ m).length cap] := by rw [List.map_append, hbs]; rfl
            have he : Ext (K.map CO.base) (K.map CO.base ++ [.slice (some g) (l' ++ m).length cap]) := Ext.append _ _
            have hlk : st.hp.length = (K.map CO.base).length := by rw [hH.2.2.1.1, List.length_map]
            have hal : ∀ c v, MC S (K.map CO.base) c v → MC S (K.map CO.base ++ [.slice (some g) (l' ++ m).length cap]) (c.al k st.hp.length u' (alg.len l')) v := fun c v hm => by
              rw [alg_len]
              exact C.al_sound (L2 := (l' ++ m).length) (cap2 := cap) he (base_get hk) (by rw [hlk, List.getElem?_append_right (Nat.le_refl _)]; simp) (by simp) hnc hcm (Nat.le_of_eq hc02) c v hm
            refine ⟨_, w', K.set k (.gone (.slice (some g) l'.length cap0)) ++ [CO.row E u'.size (some g) (l' ++ m).length cap (vs ++ us)], _, .inl rfl, hd, ⟨hH.1, fun k v h => ?_, ?_, ?_⟩, ?_, ?_⟩
            · rw [hb2]; exact he k v (hH.2.1 k v h)
            · rw [hb2]
              refine HR.push ?_ (.row hall.1 hall.2)
              rw [setN_eq]
              refine HR.set ⟨by simp [hH.2.2.1.1], fun i o' c' e1 e2 => ?_⟩ k .gone
              rw [List.getElem?_map, Option.map_eq_some_iff] at e1
              obtain ⟨o0, e3, rfl⟩ := e1
              have := hH.2.2.1.2 i o0 c' e3 e2
              cases this with
              | obj hm => exact .obj (hm.map hal)
              | row a b => exact .row a b
              | pack a b => exact .pack a b
              | abs a b => exact .abs a b
              | gone => exact .gone
            · refine At.more ?_
              rw [hp2, chunkL_append]
              have h6 : At w' (frzC S :: ((CO.chunkL pp ++ CO.chunk (CO.gone (.slice (some g) l'.length cap0)) :: CO.chunkL r) ++ (CO.row E u'.size (some g) (l' ++ m).length cap (vs ++ us)).chunk :: X.fr)) := by
                refine (At.void ?_).perm (perm_front _ _ _ _ _).symm
                refine hA.perm ?_
                exact perm_front2 _ _ _ _
              refine h6.perm ?_
              exact (perm_front2 _ _ _ _).symm
            · rw [hb2]
              refine ⟨hE.size, hE.defers.mono (Frz.le.refl S) (Ext.append _ _), fun t d hd => ?_⟩
              obtain ⟨d', h5, rfl⟩ := look_al hd
              exact D.al_sound hal (hE.slots t d' h5)
            · show MC S _ (.row st.hp.length) _
              have : st.hp.length = (K.set k (.gone (.slice (some g) l'.length cap0))).length := by rw [hH.2.2.1.1]; simp
              rw [this]
              exact ⟨base_last _ _, _, _, _, rfl⟩
        · cases hf
      · cases hf
  · cases hf
end
end Go.Ab
