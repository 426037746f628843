/- An abstract machine for the walks (part 13): loops, and calls by contracts. -/
import Derived.Test.YtjapkdcomcgamaaGreatDoorAbL
import Derived.Deep.LoopGhost
set_option linter.all false
namespace Go.Ab
open Go Go.Sep
variable [Facts]

/-- What is to be shown, behind a name that nothing opens. -/
structure Ok (Pr : Program) (X : Ctx) (G : AOut → List HO → Prop) (t : Tree) : Prop where
  out : t.ok Pr X G
theorem ok_eq {Pr : Program} {X : Ctx} {G : AOut → List HO → Prop} {t t' : Tree} (h : t = t') (k : Ok Pr X G t') : Ok Pr X G t := h ▸ k
theorem ok_need {Pr : Program} {X : Ctx} {G : AOut → List HO → Prop} {p : Prop} {t : Tree} : Ok Pr X G (.need p t) ↔ p ∧ Ok Pr X G t := ⟨fun h => ⟨h.out.1, ⟨h.out.2⟩⟩, fun h => ⟨⟨h.1, h.2.out⟩⟩⟩
theorem ok_br {Pr : Program} {X : Ctx} {G : AOut → List HO → Prop} {b : Bool} {t f : Tree} : Ok Pr X G (.br b t f) ↔ (b = true → Ok Pr X G t) ∧ (b = false → Ok Pr X G f) :=
  ⟨fun h => ⟨fun e => ⟨h.out.1 e⟩, fun e => ⟨h.out.2 e⟩⟩, fun h => ⟨⟨fun e => (h.1 e).out, fun e => (h.2 e).out⟩⟩⟩
theorem ok_fin {Pr : Program} {X : Ctx} {G : AOut → List HO → Prop} {o : AOut} {hp : List HO} : Ok Pr X G (.fin o hp) ↔ G o hp := ⟨fun h => h.out, fun h => ⟨h⟩⟩
theorem ok_qed {Pr : Program} {X : Ctx} {G : AOut → List HO → Prop} : Ok Pr X G .qed ↔ True := ⟨fun _ => trivial, fun _ => ⟨trivial⟩⟩
theorem ok_both {Pr : Program} {X : Ctx} {G : AOut → List HO → Prop} {t f : Tree} : Ok Pr X G (.both t f) ↔ Ok Pr X G t ∧ Ok Pr X G f := ⟨fun h => ⟨⟨h.out.1⟩, ⟨h.out.2⟩⟩, fun h => ⟨⟨h.1.out, h.2.out⟩⟩⟩
theorem ok_stop {Pr : Program} {X : Ctx} {G : AOut → List HO → Prop} {n : Nat} : Ok Pr X G (.stop n) ↔ False := ⟨fun h => h.out, fun h => h.elim⟩

section
variable {Pr : Program} {T : Tab} {X : Ctx} {G : AOut → List HO → Prop} {a : Act} {w : World}

/-- All slots that are listed stand for what they hold. -/
def Slots (S : Frz) (bs : List Value) (a : Act) (e : List (Nat × D)) : Prop := ∀ p ∈ e, MD S bs p.2 (a.tmps.getD p.1 undef)
theorem look_mem : ∀ {e : List (Nat × D)} {t : Nat} {d : D}, look e t = some d → (t, d) ∈ e
  | (s, d0) :: r, t, d, h => by
    simp only [look_cons] at h
    split at h
    · rename_i hs; cases h; subst hs; exact List.mem_cons_self ..
    · exact List.mem_cons_of_mem _ (look_mem h)
theorem lookAll_sound {S : Frz} {bs : List Value} {st : St} (hE : Env S bs st a) : ∀ {dom : List Nat} {e : List (Nat × D)}, lookAll st.env dom = some e → Slots S bs a e
  | [], e, h => by cases h; intro p hp; cases hp
  | s :: dom, e, h => by
    simp only [lookAll] at h
    split at h
    · rename_i d0 r h1 h2
      cases h
      intro p hp
      cases hp with
      | head => exact hE.slots _ _ h1
      | tail _ hm => exact lookAll_sound hE h2 p hm
    · cases h
theorem normE_sound {S : Frz} {bs : List Value} : ∀ {e : List (Nat × D)}, Slots S bs a e → Slots S bs a (normE e)
  | [], _ => fun p hp => by cases hp
  | (t, d) :: r, h => fun p hp => by
    cases hp with
    | head =>
      have := h (t, d) (List.mem_cons_self ..)
      show MD S bs (normD d) _
      unfold normD
      split
      · exact normC_sound _ _ this
      · obtain ⟨vs, h3, h4⟩ := this; exact ⟨vs, h3.map normC_sound, h4⟩
      · exact this
    | tail _ hm => exact normE_sound (fun q hq => h q (List.mem_cons_of_mem _ hq)) p hm
theorem renE_sound {S : Frz} {bs bs' : List Value} {f : Nat → Option Nat} (hf : ∀ (k j : Nat) (v : Value), f k = some j → bs[k]? = some v → bs'[j]? = some v) : ∀ {e : List (Nat × D)}, Slots S bs a e → Slots S bs' a (renE f e)
  | [], _ => fun p hp => by cases hp
  | (t, d) :: r, h => fun p hp => by
    cases hp with
    | head => exact D.ren_sound hf d _ (h (t, d) (List.mem_cons_self ..))
    | tail _ hm => exact renE_sound hf (fun q hq => h q (List.mem_cons_of_mem _ hq)) p hm
theorem Slots.mono {S S' : Frz} (hle : S.le S') {bs bs' : List Value} (he : Ext bs bs') {e : List (Nat × D)} (h : Slots S bs a e) : Slots S' bs' a e := fun p hp => (h p hp).mono hle he

theorem cut_sound {sl : List SlE} {k0 : Nat} (hk : X.bs0.length = k0) {dom : List Nat} {st s : St} (hc : St.cut sl k0 dom st = some s) (hn : Now X st a w) : Now X s a w := by
  unfold St.cut at hc
  split at hc
  · cases hc
  · rename_i e he
    simp only at hc
    obtain ⟨hdf, he⟩ : st.df = none ∧ lookAll st.env dom = some e := by
      split at he
      · rename_i hdf; exact ⟨hdf, he⟩
      · cases he
    obtain ⟨S, K, hH, hE⟩ := hn
    obtain ⟨K1, hb, hH1, hE1⟩ := shutAll_heap (sl := sl) (upto 0 k0 ++ refsE e) hH hE
    have hsl := normE_sound ((lookAll_sound hE he).mono (Frz.le.refl S) hb)
    split at hc
    · rename_i os hpr ht
      cases hc
      obtain ⟨Cs, hH2, hf⟩ := pick_out hk (fun k hk2 => fresh_get hk2) ht hH1
      exact ⟨S, Cs, hH2, hE.size, (by have := hE.defers; rw [hdf] at this; exact this), fun t d hd => renE_sound hf hsl _ (look_mem hd)⟩
    · cases hc

/-! ### calls -/
def backF (sel : List Nat) (n : Nat) (i : Nat) : Option Nat :=
  match nth sel i with
  | some q => some q
  | none => some (n + (i - sel.length))
def putBack (f : Nat → Option Nat) : List Nat → List HO → List HO → List HO
  | q :: qs, o :: os, hp => putBack f qs os (setN hp q (o.ren f))
  | [], os, hp => hp ++ os.map (HO.ren f)
  | _ :: _, [], hp => hp
theorem set_bases {K : List CO} {q : Nat} {c : CO} (h : (K.map CO.base)[q]? = some c.base) : (K.set q c).map CO.base = K.map CO.base := by
  have hlt : q < K.length := by simpa using (List.getElem?_eq_some_iff.1 h).1
  have hc : K[q]? = some K[q] := List.getElem?_eq_getElem hlt
  refine bases_set hc ?_
  rw [base_get hc] at h
  simp only [Option.some.injEq] at h
  exact h.symm

theorem putBackK_bases : ∀ {qs : List Nat} {cs K : List CO}, (∀ (i q : Nat) (c : CO), qs[i]? = some q → cs[i]? = some c → (K.map CO.base)[q]? = some c.base) → qs.length ≤ cs.length → (putBackK qs cs K).map CO.base = K.map CO.base ++ (cs.drop qs.length).map CO.base
  | [], cs, K, _, _ => by simp [putBackK]
  | q :: qs, c :: cs, K, h, hl => by
    have h0 := set_bases (h 0 q c rfl rfl)
    simp only [putBackK]
    rw [putBackK_bases (fun i q' c' h1 h2 => by rw [h0]; exact h (i + 1) q' c' (by simpa using h1) (by simpa using h2)) (by simpa using hl), h0]
    simp

theorem At.put {w : World} {S : Frz} {K : List CO} {fr : List Chunk} {q : Nat} {c : CO} (hq : q < K.length) (H : At w (frzC S :: (CO.chunkL K ++ (c.chunk :: fr)))) : At w (frzC S :: (CO.chunkL (K.set q c) ++ fr)) := by
  obtain ⟨p, r, h1, _, h3⟩ := set_split (List.getElem?_eq_getElem hq)
  rw [h3, chunkL_append]
  rw [h1, chunkL_append] at H
  have H2 := (H.perm (perm_front _ _ _ _ _)).tail
  have H3 := H2.perm ((perm_front2 c.chunk (frzC S) (CO.chunkL p ++ CO.chunkL r) fr).symm)
  exact H3.perm (perm_front _ _ _ _ _).symm

theorem putBack_sound {S : Frz} {B : List Value} {f : Nat → Option Nat} : ∀ {qs : List Nat} {os hp : List HO} {cs K : List CO} {fr : List Chunk}, os.length = cs.length → qs.length ≤ cs.length → (∀ q ∈ qs, q < K.length) → HR S B hp K → (∀ (i : Nat) (o : HO) (c : CO), os[i]? = some o → cs[i]? = some c → Rel S B (o.ren f) c) →
    At w (frzC S :: (CO.chunkL K ++ (CO.chunkL cs ++ fr))) → HR S B (putBack f qs os hp) (putBackK qs cs K) ∧ At w (frzC S :: (CO.chunkL (putBackK qs cs K) ++ fr))
  | [], os, hp, cs, K, fr, hl, _, _, hr, ho, hat => by
    simp only [putBack, putBackK]
    refine ⟨⟨by simp [hr.1, hl], fun i o c h1 h2 => ?_⟩, by rw [chunkL_append, List.append_assoc]; exact hat⟩
    rcases Nat.lt_or_ge i K.length with hi | hi
    · rw [List.getElem?_append_left (by rw [hr.1]; exact hi)] at h1
      rw [List.getElem?_append_left hi] at h2
      exact hr.2 i o c h1 h2
    · rw [List.getElem?_append_right (by rw [hr.1]; exact hi)] at h1
      rw [List.getElem?_append_right hi] at h2
      rw [hr.1, List.getElem?_map, Option.map_eq_some_iff] at h1
      obtain ⟨o', h3, rfl⟩ := h1
      exact ho _ o' c h3 h2
  | q :: qs, o :: os, hp, c :: cs, K, fr, hl, hq, hqs, hr, ho, hat => by
    simp only [putBack, putBackK]
    have hqk : q < K.length := hqs q (List.mem_cons_self ..)
    refine putBack_sound (by simpa using hl) (by simpa using hq) (fun q' h' => by simp; exact hqs q' (List.mem_cons_of_mem _ h')) ?_ (fun i o' c' h1 h2 => ho (i + 1) o' c' (by simpa using h1) (by simpa using h2)) ?_
    · rw [setN_eq]; exact hr.set q (ho 0 o c rfl rfl)
    · have := At.put (c := c) hqk (fr := CO.chunkL cs ++ fr) (by simpa [CO.chunkL] using hat)
      exact this
  | q :: qs, [], hp, cs, K, fr, hl, hq, _, _, _, _ => by
    cases cs with
    | nil => simp at hq
    | cons _ _ => cases hl
  | q :: qs, o :: os, hp, [], K, fr, hl, _, _, _, _, _ => by cases hl

theorem MDs.ren {S : Frz} {bs bs' : List Value} {f : Nat → Option Nat} (hf : ∀ (k j : Nat) (v : Value), f k = some j → bs[k]? = some v → bs'[j]? = some v) : ∀ {ds : List D} {vs : List Value}, MDs S bs ds vs → MDs S bs' (ds.map (D.ren f)) vs
  | [], [], _ => trivial
  | d :: _, _ :: _, h => ⟨D.ren_sound hf d _ h.1, MDs.ren hf h.2⟩

/-- A contract serves wherever its objects stand. -/
theorem Spc.frame {f : Nat} {args0 : List D} {hp0 hp1 : List HO} {out0 : AOut} (h : Spc Pr f args0 hp0 out0 hp1) (sel : List Nat) {args : List D} {hp os hpr : List HO} (ht : takeOut sel hp = some (os, hpr))
    (ho : os.map (HO.ren fun q => idx q sel 0) = hp0) (ha : args.map (D.ren fun q => idx q sel 0) = args0) :
    Spc Pr f args hp (out0.ren (backF sel hp.length)) (putBack (backF sel hp.length) sel hp1 hpr) := by
  refine ⟨h.1, fun S K fr w vs hHR hargs hat => ?_⟩
  obtain ⟨Cs, K', h1, h2, h3, h4, h5, h6, h7⟩ := takeOut_sound ht rfl hHR hat
  have hf : ∀ (i j : Nat) (v : Value), idx i sel 0 = some j → (K.map CO.base)[i]? = some v → (Cs.map CO.base)[j]? = some v := by
    intro i j v e1 e2
    obtain ⟨_, e3⟩ := idx_get e1
    simp only [Nat.sub_zero] at e3
    have hjl : j < Cs.length := by rw [h4, h5]; exact (List.getElem?_eq_some_iff.1 e3).1
    have := h6 j i _ e3 (List.getElem?_eq_getElem hjl)
    rw [e2] at this
    cases this
    rw [List.getElem?_map, List.getElem?_eq_getElem hjl]; rfl
  have hHR0 : HR S (Cs.map CO.base) hp0 Cs := by
    refine ⟨by rw [← ho]; simp [h4], fun i o c e1 e2 => ?_⟩
    rw [← ho, List.getElem?_map, Option.map_eq_some_iff] at e1
    obtain ⟨o', e3, rfl⟩ := e1
    exact HO.ren_sound (fun i j v e4 e5 => hf i j v e4 e5) (h7 i o' c e3 e2)
  have hat0 : At w (frzC S :: (CO.chunkL Cs ++ (CO.chunkL K' ++ fr))) := by
    refine h3.perm (List.Perm.cons _ ?_)
    have h9 : (CO.chunkL K' ++ CO.chunkL Cs).Perm (CO.chunkL Cs ++ CO.chunkL K') := List.perm_append_comm
    have h10 := h9.append_right fr
    rw [List.append_assoc, List.append_assoc] at h10
    exact h10
  refine (h.2 S Cs _ w vs hHR0 (by rw [← ha]; exact hargs.ren hf) hat0).mono fun e w' he => ?_
  obtain ⟨S1, Cs1, hle, hex, hHR1, hat1, heo⟩ := he
  have hlc : sel.length ≤ Cs1.length := by
    rcases Nat.lt_or_ge Cs1.length sel.length with hlt | hge
    · exfalso
      have hlt2 : Cs1.length < Cs.length := by omega
      have := hex Cs1.length _ (by rw [List.getElem?_map, List.getElem?_eq_getElem hlt2]; rfl)
      have := (List.getElem?_eq_some_iff.1 this).1
      simp at this
    · exact hge
  have hbq : ∀ (i q : Nat) (c : CO), sel[i]? = some q → Cs1[i]? = some c → (K'.map CO.base)[q]? = some c.base := by
    intro i q c e1 e2
    have hil : i < Cs.length := by rw [h4, h5]; exact (List.getElem?_eq_some_iff.1 e1).1
    have e3 := h6 i q _ e1 (List.getElem?_eq_getElem hil)
    have e4 := hex i _ (by rw [List.getElem?_map, List.getElem?_eq_getElem hil]; rfl)
    rw [base_get e2] at e4
    simp only [Option.some.injEq] at e4
    rw [h1, e3, e4]
  have hB := putBackK_bases hbq hlc
  have hex2 : Ext (K.map CO.base) ((putBackK sel Cs1 K').map CO.base) := by rw [hB, h1]; exact Ext.append _ _
  have hlen : K'.length = hp.length := by
    have := congrArg List.length h1
    simp only [List.length_map] at this
    rw [this, hHR.1]
  have hback : ∀ (i j : Nat) (v : Value), backF sel hp.length i = some j → (Cs1.map CO.base)[i]? = some v → ((putBackK sel Cs1 K').map CO.base)[j]? = some v := by
    intro i j v e1 e2
    unfold backF at e1
    split at e1
    · rename_i q hq
      cases e1
      rw [nth_eq] at hq
      rw [List.getElem?_map, Option.map_eq_some_iff] at e2
      obtain ⟨c, e3, rfl⟩ := e2
      exact hex2 _ _ (by rw [← h1]; exact hbq i j c hq e3)
    · rename_i hq
      cases e1
      rw [nth_eq] at hq
      have hge : sel.length ≤ i := by simpa using hq
      rw [hB, List.getElem?_append_right (by simp [hlen])]
      simp only [List.length_map, hlen]
      rw [List.getElem?_map, List.getElem?_drop]
      rw [List.getElem?_map] at e2
      rw [show sel.length + (hp.length + (i - sel.length) - hp.length) = i by omega]
      exact e2
  have hat2 : At w' (frzC S1 :: (CO.chunkL K' ++ (CO.chunkL Cs1 ++ fr))) := by
    refine hat1.perm (List.Perm.cons _ ?_)
    have h9 : (CO.chunkL Cs1 ++ CO.chunkL K').Perm (CO.chunkL K' ++ CO.chunkL Cs1) := List.perm_append_comm
    have h10 := h9.append_right fr
    rw [List.append_assoc, List.append_assoc] at h10
    exact h10
  obtain ⟨r1, r2⟩ := putBack_sound (f := backF sel hp.length) (B := (putBackK sel Cs1 K').map CO.base) (qs := sel) (os := hp1) (hp := hpr) (cs := Cs1) hHR1.1 hlc (fun q hq => by
      obtain ⟨i, hi⟩ := List.getElem?_of_mem hq
      have hil : i < Cs.length := by rw [h4, h5]; exact (List.getElem?_eq_some_iff.1 hi).1
      have := (List.getElem?_eq_some_iff.1 (h6 i q _ hi (List.getElem?_eq_getElem hil))).1
      rw [← h1] at this
      simpa using this) (h2.mono hle hex2) (fun i o c e1 e2 => HO.ren_sound hback (hHR1.2 i o c e1 e2)) hat2
  refine ⟨S1, putBackK sel Cs1 K', hle, hex2, r1, r2, ?_⟩
  cases out0 with
  | ret d => cases e with
    | returned v => exact D.ren_sound hback d v heo
    | panicked ch => exact heo.elim
    | outgrown => exact heo.elim
  | pan c => cases e with
    | returned v => exact heo.elim
    | panicked ch => obtain ⟨v, e1, e2⟩ := heo; exact ⟨v, e1, C.ren_sound hback c v e2⟩
    | outgrown => exact heo.elim

/-! ### objects apart, objects packed -/
def lowF (n : Nat) (i : Nat) : Option Nat := match Nat.blt i n with | true => some i | false => none
def packF (n : Nat) (i : Nat) : Option Nat := match i with | 0 => some 0 | i + 1 => (match Nat.blt (i + 1) n with | true => none | false => some (i + 2 - n))
theorem splitK {α : Type} (l : List α) (n : Nat) (h : n ≤ l.length) : ∃ a b, l = a ++ b ∧ a.length = n := ⟨l.take n, l.drop n, (List.take_append_drop n l).symm, by simp; omega⟩
/-- What is so of objects apart is so of the objects packed. -/
theorem Spc.packed {f : Nat} {args : List D} {os os' ex : List HO} {out : AOut} (h : Spc Pr f args os out (os' ++ ex)) (hn : os.length = os'.length) (h0 : 0 < os.length) (hlow : os'.map (HO.ren (lowF os'.length)) = os') :
    Spc Pr f args [.pack os] (out.ren (packF os'.length)) (.pack os' :: ex.map (HO.ren (packF os'.length))) := by
  refine ⟨h.1, fun S K fr w vs hHR hargs hat => ?_⟩
  obtain ⟨c, rfl⟩ : ∃ c, K = [c] := by
    have := hHR.1
    match K, this with
    | [c], _ => exact ⟨c, rfl⟩
  have hr := hHR.2 0 (.pack os) c rfl rfl
  cases hr with
  | @pack _ _ L hl hrel =>
    obtain ⟨c0, L', rfl⟩ : ∃ c0 L', L = c0 :: L' := by
      cases L with
      | nil => rw [hl] at h0; cases h0
      | cons c0 L' => exact ⟨c0, L', rfl⟩
    have hbase : (CO.pack (c0 :: L')).base = c0.base := rfl
    have hat0 : At w (frzC S :: (CO.chunkL (c0 :: L') ++ fr)) := by
      have h1 : At w (sepC (CO.chunkL (c0 :: L')) :: frzC S :: fr) := At.swap hat
      exact (At.many.1 h1).perm (List.perm_middle)
    have hargs0 : MDs S ((c0 :: L').map CO.base) args vs := hargs.mono (Frz.le.refl S) (fun k v hk => by
      cases k with
      | zero => exact hk
      | succ k => simp at hk)
    refine (h.2 S (c0 :: L') fr w vs ⟨hl, hrel⟩ hargs0 hat0).mono fun e w' he => ?_
    obtain ⟨S', K', hle, hex, hHR', hat', heo⟩ := he
    have hK' : K'.length = os'.length + ex.length := by rw [← hHR'.1, List.length_append]
    obtain ⟨KA, KB, rfl, hKA⟩ := splitK K' os'.length (by omega)
    obtain ⟨a0, KA', rfl⟩ : ∃ a0 KA', KA = a0 :: KA' := by
      cases KA with
      | nil => rw [← hKA] at hn; rw [hn] at h0; cases h0
      | cons a0 KA' => exact ⟨a0, KA', rfl⟩
    have hb0 : a0.base = c0.base := by
      have := hex 0 c0.base rfl
      simpa using this
    have hg : ∀ (k j : Nat) (v : Value), packF os'.length k = some j → (((a0 :: KA') ++ KB).map CO.base)[k]? = some v → ((CO.pack (a0 :: KA') :: KB).map CO.base)[j]? = some v := by
      intro k j v h1 h2
      cases k with
      | zero => cases h1; exact h2
      | succ k =>
        simp only [packF] at h1
        split at h1
        · cases h1
        · rename_i hb
          cases h1
          have hb : os'.length ≤ k + 1 := by
            rcases Nat.lt_or_ge (k + 1) os'.length with h3 | h3
            · have : Nat.blt (k + 1) os'.length = true := by simpa [Nat.blt_eq] using h3
              rw [this] at hb; cases hb
            · exact h3
          rw [List.map_append, List.getElem?_append_right (by rw [List.length_map, hKA]; exact hb), List.length_map, hKA] at h2
          rw [show k + 2 - os'.length = (k + 1 - os'.length) + 1 by omega, List.map_cons, List.getElem?_cons_succ]
          exact h2
    refine ⟨S', .pack (a0 :: KA') :: KB, hle, ?_, ⟨?_, ?_⟩, ?_, ?_⟩
    · intro k v hk
      cases k with
      | zero =>
        have hk : some c0.base = some v := hk
        show some a0.base = some v
        rw [hb0, hk]
      | succ k => simp at hk
    · simp only [List.length_cons, List.length_map]
      simp only [List.length_cons] at hK' hKA
      simp only [List.length_append, List.length_cons] at hK'
      omega
    · intro i o co h1 h2
      cases i with
      | zero =>
        simp only [List.getElem?_cons_zero, Option.some.injEq] at h1 h2
        subst h1; subst h2
        refine .pack (by rw [hKA]) fun i o c h3 h4 => ?_
        rw [← hlow, List.getElem?_map, Option.map_eq_some_iff] at h3
        obtain ⟨o1, h5, rfl⟩ := h3
        have hi : i < os'.length := (List.getElem?_eq_some_iff.1 h5).1
        refine HO.ren_sound (fun k j v h6 h7 => ?_) (hHR'.2 i o1 c (by rw [List.getElem?_append_left hi]; exact h5) (by rw [List.getElem?_append_left (by rw [hKA]; exact hi)]; exact h4))
        simp only [lowF] at h6
        split at h6
        · rename_i hb
          cases h6
          have hb : k < os'.length := by simpa [Nat.blt_eq] using hb
          rw [List.map_append, List.getElem?_append_left (by rw [List.length_map, hKA]; exact hb)] at h7
          exact h7
        · cases h6
      | succ i =>
        simp only [List.getElem?_cons_succ, List.getElem?_map, Option.map_eq_some_iff] at h1 h2
        obtain ⟨o1, h5, rfl⟩ := h1
        exact HO.ren_sound hg (hHR'.2 (os'.length + i) o1 co (by rw [List.getElem?_append_right (by omega)]; simpa using h5) (by rw [List.getElem?_append_right (by rw [hKA]; omega), hKA]; simpa using h2))
    · have h1 : At w' (CO.chunkL (a0 :: KA') ++ frzC S' :: (CO.chunkL KB ++ fr)) := by
        have h2 : CO.chunkL ((a0 :: KA') ++ KB) ++ fr = CO.chunkL (a0 :: KA') ++ (CO.chunkL KB ++ fr) := by
          rw [CO.chunkL_eq, CO.chunkL_eq, CO.chunkL_eq, List.map_append, List.append_assoc]
        rw [h2] at hat'
        exact hat'.perm List.perm_middle.symm
      exact At.swap (At.many.2 h1)
    · cases out with
      | ret d => cases e with
        | returned v => exact D.ren_sound hg d v heo
        | panicked ch => exact heo.elim
        | outgrown => exact heo.elim
      | pan c => cases e with
        | returned v => exact heo.elim
        | panicked ch => obtain ⟨v, e1, e2⟩ := heo; exact ⟨v, e1, C.ren_sound hg c v e2⟩
        | outgrown => exact heo.elim

theorem call_rule {f : Nat} {args0 : List D} {hp0 hp1 : List HO} {out0 : AOut} (h : Spc Pr f args0 hp0 out0 hp1) (sel : List Nat) {args : List D} {hp os hpr : List HO} {k : AOut → List HO → Tree} (ht : takeOut sel hp = some (os, hpr))
    (ho : os.map (HO.ren fun q => idx q sel 0) = hp0) (ha : args.map (D.ren fun q => idx q sel 0) = args0) (hk : Ok Pr X G (k (out0.ren (backF sel hp.length)) (putBack (backF sel hp.length) sel hp1 hpr))) : Ok Pr X G (Tree.call f args hp k) :=
  ⟨⟨_, _, h.frame sel ht ho ha, hk.out⟩⟩
end
end Go.Ab
