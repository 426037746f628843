/- An abstract machine for the walks (part 11): the tree is sound. -/
import Derived.Test.YtjapkdcomcgamaaGreatDoorAbJ
import Derived.OrdersHeld
set_option linter.all false
namespace Go.Ab
open Go Go.Sep
variable [Facts]
section
variable {Pr : Program} {T : Tab} {X Y : Ctx} {G : AOut → List HO → Prop} {a : Act} {w : World}

/-- State, concretely. -/
def Now (X : Ctx) (st : St) (a : Act) (w : World) : Prop := ∃ S K, Heap X st.hp S K w ∧ Env S (K.map CO.base) st a

theorem QR.tree_ok {r : QR} {k : D → Tree} (h : (r.tree k).ok Pr Y G) : r.holds fun d => (k d).ok Pr Y G := by
  induction r with
  | ok d => exact h
  | need p r ih => exact ⟨h.1, ih h.2⟩
  | br b t f iht ihf => exact ⟨fun hb => iht (h.1 hb), fun hb => ihf (h.2 hb)⟩
  | both t f iht ihf => exact ⟨iht h.1, ihf h.2⟩
  | no => exact h.elim
theorem LR.tree_ok {r : LR} {k : D → St → Tree} (h : (r.tree k).ok Pr Y G) : r.holds fun d st => (k d st).ok Pr Y G := by
  induction r with
  | ok d => exact h
  | need p r ih => exact ⟨h.1, ih h.2⟩
  | no => exact h.elim

theorem put_hp (st : St) (dst : Option Nat) (d : D) : (st.put dst d).hp = st.hp := by
  unfold St.put
  split
  · rfl
  · split <;> rfl

/-- What is known of a slot may be written down. -/
theorem Env.note {S : Frz} {bs : List Value} {st : St} (h : Env S bs st a) (t : Nat) {d : D} (hm : MD S bs d (a.tmps.getD t undef)) : Env S bs (st.put (some t) d) a := by
  simp only [St.put]
  split
  · refine ⟨h.size, h.defers, fun s d' hs => ?_⟩
    simp only [look_cons] at hs
    by_cases hts : t = s
    · subst hts
      simp only [if_true, Option.some.injEq] at hs
      subst hs; exact hm
    · simp only [hts, if_false] at hs
      rw [look_del hts] at hs
      exact h.slots s d' hs
  · exact h

theorem resolve_sound {st : St} {x : Operand} {k : St → Tree} (h : (resolve st x k).ok Pr Y G) (hn : Now X st a w) : ∃ st', (k st').ok Pr Y G ∧ Now X st' a w ∧ st'.hp = st.hp := by
  unfold resolve at h
  split at h
  · rename_i t
    split at h
    · rename_i b hb
      obtain ⟨S, K, hH, hE⟩ := hn
      have hm := hE.slots t _ hb
      generalize hv : a.tmps.getD t undef = v at hm
      cases hm
      cases b with
      | true => exact ⟨st.put (some t) tt, h.1 rfl, ⟨S, K, by rw [put_hp]; exact hH, hE.note t (by rw [hv]; exact .val _ rfl)⟩, put_hp _ _ _⟩
      | false => exact ⟨st.put (some t) ff, h.2 rfl, ⟨S, K, by rw [put_hp]; exact hH, hE.note t (by rw [hv]; exact .val _ rfl)⟩, put_hp _ _ _⟩
    · exact ⟨st, h, hn, rfl⟩
  · exact ⟨st, h, hn, rfl⟩

theorem openFor_sound {st : St} {x : Operand} (hn : Now X st a w) : Now X (openFor st x) a w := by
  unfold openFor
  split
  · split
    · obtain ⟨S, K, hH, hE⟩ := hn
      obtain ⟨K', _, h2, h3⟩ := open_sound hH hE _
      exact ⟨S, K', h2, h3⟩
    · obtain ⟨S, K, hH, hE⟩ := hn
      obtain ⟨K', _, h2, h3⟩ := open_sound hH hE _
      exact ⟨S, K', h2, h3⟩
    · exact hn
  · exact hn
theorem shutAll_sound {sl : List SlE} {st : St} (ks : List Nat) (hn : Now X st a w) : Now X (shutAll sl ks st) a w := by
  induction ks generalizing st with
  | nil => exact hn
  | cons k ks ih =>
    obtain ⟨S, K, hH, hE⟩ := hn
    obtain ⟨K', _, h2, h3⟩ := shut_sound hH hE k
    exact ih ⟨S, K', h2, h3⟩
theorem Now.freezeAll {st : St} (ks : List Nat) (hn : Now X st a w) : Now X (Ab.freezeAll alg ks st) a w := by
  obtain ⟨S, K, hH, hE⟩ := hn
  obtain ⟨S', K', _, _, h3, h4⟩ := freezeAll_sound hH hE ks
  exact ⟨S', K', h3, h4⟩
theorem Now.put {st : St} {S : Frz} {K : List CO} (hH : Heap X st.hp S K w) (hE : Env S (K.map CO.base) st a) (dst : Option Nat) {d : D} {v : Value} (hm : MD S (K.map CO.base) d v) : Now X (st.put dst d) (a.put dst v) w :=
  ⟨S, K, by rw [put_hp]; exact hH, hE.put dst hm⟩

/-- One operation: what follows it is owed. -/
def OpOk (Pr : Program) (X : Ctx) (o : Oper) (a : Act) (w : World) (R : St → Prop) (RP : C → St → Prop) : Prop :=
  (∃ v w', Does Pr a w o v w' ∧ ∃ st', R st' ∧ Now X st' (a.put o.dst v) w') ∨
  (∃ f args, (execOp a.eval o).run Pr w = .ok (.enter f args) w ∧ Calls Pr f args w fun e w' => match e with
    | .returned v => ∃ st', R st' ∧ Now X st' (a.put o.dst v) w'
    | .panicked ch => ∃ c st' v, RP c st' ∧ ch = [{ v := v, recovered := false }] ∧ ∃ S K, Heap X st'.hp S K w' ∧ Env S (K.map CO.base) st' a ∧ MC S (K.map CO.base) c v
    | .outgrown => False) ∨
  (∃ v c st', (execOp a.eval o).run Pr w = .halt (.panic v) w ∧ RP c st' ∧ ∃ S K, Heap X st'.hp S K w ∧ Env S (K.map CO.base) st' a ∧ MC S (K.map CO.base) c v)

theorem OpOk.wp {o : Oper} {R : St → Prop} {RP : C → St → Prop} (h : OpOk Pr X o a w R RP) {next : Act → World → Prop} {Q : Exit → Act → World → Prop}
    (hn : ∀ st' a' w', R st' → Now X st' a' w' → next a' w') (hp : ∀ c st' v w', RP c st' → (∃ S K, Heap X st'.hp S K w' ∧ Env S (K.map CO.base) st' a ∧ MC S (K.map CO.base) c v) → Q (.panic [{ v := v, recovered := false }]) a w') : o.wp Pr a w next Q := by
  unfold Oper.wp
  rcases h with ⟨v, w', hd, st', hR, hN⟩ | ⟨f, args, hr, hc⟩ | ⟨v, c, st', hr, hR, hx⟩
  · rcases hd with hd | ⟨hd, rfl⟩
    · rw [hd]; exact hn _ _ _ hR hN
    · rw [hd]; exact hn _ _ _ hR hN
  · rw [hr]
    simp only [Oper.upon]
    refine hc.mono fun e w'' he => ?_
    cases e with
    | returned v => obtain ⟨st', h1, h2⟩ := he; exact hn _ _ _ h1 h2
    | panicked ch => obtain ⟨c, st', v, h1, rfl, h2⟩ := he; exact hp _ _ _ _ h1 h2
    | outgrown => exact he.elim
  · rw [hr]; exact hp _ _ _ _ hR hx

theorem q_ok (hT : T.fits Pr) {o : Oper} {st : St} {k : D → Tree} {RP : C → St → Prop} (h : ((qop alg T st o.op).tree k).ok Pr Y G) (hn : Now X st a w) :
    OpOk Pr X o a w (fun st' => ∃ d, (k d).ok Pr Y G ∧ st' = st.put o.dst d) RP := by
  obtain ⟨S, K, hH, hE⟩ := hn
  obtain ⟨v, d, hy, hm, hk⟩ := qop_sound (hH.sit hT hE) o (W := fun w' => w' = w) (fun _ => (hH.sit hT hE).cls) _ (QR.tree_ok h)
  exact .inl ⟨v, w, .inl (hy w rfl), _, ⟨d, hk, rfl⟩, Now.put hH hE o.dst hm⟩
theorem l_ok (hT : T.fits Pr) {o : Oper} {st : St} {k : D → St → Tree} {RP : C → St → Prop} (h : ((lop alg T st o.op).tree k).ok Pr Y G) (hn : Now X st a w) :
    OpOk Pr X o a w (fun st' => ∃ d st1, (k d st1).ok Pr Y G ∧ st' = st1.put o.dst d) RP := by
  obtain ⟨S, K, hH, hE⟩ := hn
  obtain ⟨v, w', S', K', d, st', hd, _, _, hH', hE', hm, hk⟩ := lop_sound hT hH hE o _ (LR.tree_ok h)
  exact .inl ⟨v, w', hd, _, ⟨d, st', hk, rfl⟩, Now.put hH' hE' o.dst hm⟩
theorem arr_ok {o : Oper} {t : Nat} (ho : o.op = .alloc t) (hT : T.fits Pr) {st : St} {k : D → St → Tree} {RP : C → St → Prop} (h : ((arrL alg T st t).tree k).ok Pr Y G) (hn : Now X st a w) :
    OpOk Pr X o a w (fun st' => ∃ d st1, (k d st1).ok Pr Y G ∧ st' = st1.put o.dst d) RP := by
  obtain ⟨S, K, hH, hE⟩ := hn
  obtain ⟨dst, op, ty, pos, af, gd⟩ := o
  simp only at ho
  subst ho
  obtain ⟨v, w', S', K', d, st', hd, _, _, hH', hE', hm, hk⟩ := arr_sound hT hH hE _ (LR.tree_ok h)
  exact .inl ⟨v, w', hd, _, ⟨d, st', hk, rfl⟩, Now.put hH' hE' dst hm⟩
theorem OpOk.mono {o : Oper} {R R' : St → Prop} {RP : C → St → Prop} (h : OpOk Pr X o a w R RP) (hr : ∀ st, R st → R' st) : OpOk Pr X o a w R' RP := by
  rcases h with ⟨v, w', hd, st', hR, hN⟩ | ⟨f, args, h1, hc⟩ | h
  · exact .inl ⟨v, w', hd, st', hr _ hR, hN⟩
  · refine .inr (.inl ⟨f, args, h1, hc.mono fun e w' he => ?_⟩)
    cases e with
    | returned v => obtain ⟨st', h2, h3⟩ := he; exact ⟨st', hr _ h2, h3⟩
    | panicked ch => exact he
    | outgrown => exact he
  · exact .inr (.inr h)

theorem OpOk.turn {o : Oper} {R R' : St → Prop} {RP : C → St → Prop} (h : OpOk Pr X o a w R RP) (g : St → St) (hg : ∀ {st : St} {a : Act} {w : World}, Now X st a w → Now X (g st) a w) (hr : ∀ st, R st → R' (g st)) : OpOk Pr X o a w R' RP := by
  rcases h with ⟨v, w', hd, st', hR, hN⟩ | ⟨f, args, h1, hc⟩ | h
  · exact .inl ⟨v, w', hd, g st', hr _ hR, hg hN⟩
  · refine .inr (.inl ⟨f, args, h1, hc.mono fun e w' he => ?_⟩)
    cases e with
    | returned v => obtain ⟨st', h2, h3⟩ := he; exact ⟨g st', hr _ h2, hg h3⟩
    | panicked ch => exact he
    | outgrown => exact he
  · exact .inr (.inr h)
theorem innBox_sound {cfg : Cfg} {t k : Nat} {st : St} {a : Act} {w : World} (hn : Now X st a w) : Now X (innBox cfg t k st) a w := by
  unfold innBox
  split
  · exact shutAll_sound _ hn
  · exact hn
theorem evalAll_sound {S : Frz} {bs : List Value} {st : St} (hev : ∀ x d, st.eval x = some d → MD S bs d (a.eval x)) : ∀ {xs : List Operand} {ds : List D}, evalAll st xs = some ds → MDs S bs ds (xs.map a.eval)
  | [], ds, h => by cases h; trivial
  | x :: xs, ds, h => by
    simp only [evalAll] at h
    split at h
    · rename_i d ds' h1 h2
      cases h
      refine ⟨?_, evalAll_sound hev h2⟩
      have := hev x d h1
      unfold normD
      split
      · exact normC_sound _ _ this
      · obtain ⟨vs, h3, h4⟩ := this; exact ⟨vs, h3.map normC_sound, h4⟩
      · exact this
    · cases h
theorem MDs.mono {S S' : Frz} (hle : S.le S') {bs bs' : List Value} (he : Ext bs bs') : ∀ {ds : List D} {vs : List Value}, MDs S bs ds vs → MDs S' bs' ds vs
  | [], [], _ => trivial
  | _ :: _, _ :: _, h => ⟨h.1.mono hle he, MDs.mono hle he h.2⟩
theorem MDs.append {S : Frz} {bs : List Value} : ∀ {ds es : List D} {vs us : List Value}, MDs S bs ds vs → MDs S bs es us → MDs S bs (ds ++ es) (vs ++ us)
  | [], _, [], _, _, h => h
  | _ :: _, _, _ :: _, _, h, k => ⟨h.1, MDs.append h.2 k⟩
theorem MCap.mc {S : Frz} {bs : List Value} {c : Cap} {v : Value} (h : MCap S bs c v) : MC S bs c.cell v := by
  cases c with
  | p x => exact h
  | ptr k off => exact h
theorem MCaps.mds {S : Frz} {bs : List Value} : ∀ {ps : List Cap} {vs : List Value}, MCaps S bs ps vs → MDs S bs (ps.map dP) vs
  | [], [], _ => trivial
  | _ :: _, _ :: _, h => ⟨h.1.mc, MCaps.mds h.2⟩

theorem mixC_sound {S : Frz} {bs : List Value} {z : P} {c d : C} {v : Value} (h : mixC z c = some d) (hm : MC S bs c v) : MC S bs d v := by
  unfold mixC at h
  split at h
  · rename_i p hp; cases h; exact purC_sound hp hm
  · split at h
    · cases h; exact hm
    · cases h; exact hm
    · cases h
theorem mixAll_sound {S : Frz} {bs : List Value} : ∀ {zs : List P} {cs ds : List C} {vs : List Value}, mixAll zs cs = some ds → MCs S bs cs vs → MCs S bs ds vs
  | [], [], ds, vs, h, hm => by cases h; exact hm
  | z :: zs, c :: cs, ds, vs, h, hm => by
    simp only [mixAll] at h
    split at h
    · rename_i d ds' h1 h2
      cases h
      cases vs with
      | nil => exact hm.elim
      | cons v vs => exact ⟨mixC_sound h1 hm.1, mixAll_sound h2 hm.2⟩
    · cases h
  | [], _ :: _, _, _, h, _ => by cases h
  | _ :: _, [], _, _, h, _ => by cases h
theorem argsOf_sound {own : Option Bool} {S : Frz} : ∀ {ds : List D} {tys : List Nat} {hp hp' : List HO} {K : List CO} {vs : List Value} {ds' : List D}, argsOf T own ds tys hp = some (ds', hp') → MDs S (K.map CO.base) ds vs → Heap X hp S K w →
    ∃ K', Ext (K.map CO.base) (K'.map CO.base) ∧ Heap X hp' S K' w ∧ MDs S (K'.map CO.base) ds' vs
  | [], tys, hp, hp', K, vs, ds', h, hm, hH => by
    simp only [argsOf, Option.some.injEq, Prod.mk.injEq] at h
    obtain ⟨rfl, rfl⟩ := h
    cases vs with
    | nil => exact ⟨K, Ext.refl _, hH, trivial⟩
    | cons _ _ => exact hm.elim
  | d :: ds, [], hp, hp', K, vs, ds', h, hm, hH => by cases h
  | d :: ds, ty :: tys, hp, hp', K, [], ds', h, hm, hH => hm.elim
  | d :: ds, ty :: tys, hp, hp', K, v :: vs, ds', h, hm, hH => by
    simp only [argsOf] at h
    split at h
    · split at h
      · split at h
        · rename_i r hp2 hr
          cases h
          obtain ⟨K', h4, h5, h6⟩ := argsOf_sound hr hm.2 hH
          exact ⟨K', h4, h5, hm.1.mono (Frz.le.refl S) h4, h6⟩
        · cases h
      · split at h
        · rename_i E e1 e2 e3 u hT
          split at h
          · split at h
            · rename_i r hp2 hr
              cases h
              have hv := hm.1
              cases hv
              obtain ⟨h1, h2, h3⟩ := nilRow_sound hH u E
              obtain ⟨K', h4, h5, h6⟩ := argsOf_sound hr (hm.2.mono (Frz.le.refl S) h1) h2
              exact ⟨K', h1.trans h4, h5, MC.mono (Frz.le.refl S) h4 h3, h6⟩
            · cases h
          · split at h
            · rename_i r hp2 hr
              cases h
              have hv := hm.1
              cases hv
              obtain ⟨K', h4, h5, h6⟩ := argsOf_sound hr hm.2 hH
              exact ⟨K', h4, h5, nil_list u, h6⟩
            · cases h
        · cases h
    · split at h
      · split at h
        · rename_i ps r hp2 hps hr
          cases h
          obtain ⟨us, h1, rfl⟩ := hm.1
          obtain ⟨K', h4, h5, h6⟩ := argsOf_sound hr hm.2 hH
          exact ⟨K', h4, h5, ⟨us, (mixAll_sound hps h1).mono (Frz.le.refl S) h4, rfl⟩, h6⟩
        · cases h
      · cases h
    · split at h
      · rename_i r hp2 hr
        cases h
        obtain ⟨K', h4, h5, h6⟩ := argsOf_sound hr hm.2 hH
        exact ⟨K', h4, h5, hm.1.mono (Frz.le.refl S) h4, h6⟩
      · cases h

theorem call_ok (hT : T.fits Pr) {cfg : Cfg} {kp : C → St → Tree} {o : Oper} {f : Operand} {xs : Array Operand} {tys : Array TypeId} {st : St} {k : St → Tree} (ho : o.op = .call ⟨.value f, xs, tys⟩) (h : (callT alg T cfg kp o f xs.toList tys.toList st k).ok Pr Y G) (hn : Now X st a w) :
    OpOk Pr X o a w (fun st' => (k st').ok Pr Y G) (fun c st' => (kp c st').ok Pr Y G) := by
  unfold callT at h
  split at h
  · rename_i g caps ds hf hds
    simp only at h
    obtain ⟨S, K, hH, hE⟩ := hn
    have step1 : ∃ S1 K1, S.le S1 ∧ Heap X (frzFor alg cfg g ds st).hp S1 K1 w ∧ Env S1 (K1.map CO.base) (frzFor alg cfg g ds st) a := by
      unfold frzFor
      split
      · obtain ⟨S', K', h1, _, h3, h4⟩ := freezeAll_sound hH hE (ds.flatMap rowsD); exact ⟨S', K', h1, h3, h4⟩
      split
      · exact ⟨S, K, Frz.le.refl S, hH, hE⟩
      · obtain ⟨S', K', h1, _, h3, h4⟩ := freezeAll_sound hH hE (ds.flatMap aggRows); exact ⟨S', K', h1, h3, h4⟩
    generalize frzFor alg cfg g ds st = st1 at h step1
    obtain ⟨S1, K1, hle1, hH1, hE1⟩ := step1
    have step2 : ∀ (ks : List Nat) (st1 : St) (K1 : List CO), Heap X st1.hp S1 K1 w → Env S1 (K1.map CO.base) st1 a → ∃ K2, Heap X (shutAll (callSl cfg g) ks st1).hp S1 K2 w ∧ Env S1 (K2.map CO.base) (shutAll (callSl cfg g) ks st1) a := by
      intro ks
      induction ks with
      | nil => intro st1 K1 h1 h2; exact ⟨K1, h1, h2⟩
      | cons q qs ih => intro st1 K1 h1 h2; obtain ⟨K', _, h3, h4⟩ := shut_sound h1 h2 q; exact ih _ _ h3 h4
    obtain ⟨K2, hH2, hE2⟩ := step2 ((ds ++ [D.v (.one (.fn g caps))]).flatMap ptrsOf) st1 K1 hH1 hE1
    generalize shutAll (callSl cfg g) ((ds ++ [D.v (.one (.fn g caps))]).flatMap ptrsOf) st1 = st2 at h hH2 hE2
    split at h
    · rename_i ds2 g2 caps2 hds2 hf2
      split at h
      case h_2 => exact h.elim
      rename_i ds3 hp3 hargsOf
      obtain ⟨out, hp', ⟨⟨fn, hfn, hname, hbody⟩, hspec⟩, hk⟩ := h
      have hev : ∀ x d, st2.eval x = some d → MD S1 (K2.map CO.base) d (a.eval x) := by
        intro x d hx
        cases x with
        | tmp t => exact hE2.slots t _ hx
        | const v =>
          simp only [St.eval] at hx
          split at hx
          · rename_i c hc; cases hx; exact ofConst_sound hc _
          · cases hx
        | func f => simp only [St.eval, Option.some.injEq] at hx; cases hx; exact ⟨[], trivial, rfl⟩
        | global g => cases hx
      obtain ⟨vs0, hcap, hfv⟩ := hev _ _ hf2
      obtain ⟨K3, hex3, hH3', hds3⟩ := argsOf_sound hargsOf (evalAll_sound hev hds2) hH2
      have hE2 : Env S1 (K3.map CO.base) st2 a := hE2.mono (Frz.le.refl S1) hex3
      have hH2 := hH3'
      have hargs := hds3.append (hcap.mono (Frz.le.refl S1) hex3).mds
      have hc := hspec S1 K3 X.fr w _ hH2.2.2.1 hargs hH2.2.2.2
      refine .inr (.inl ⟨g2, (xs.toList.map a.eval ++ vs0).toArray, ?_, hc.mono fun e w' he => ?_⟩)
      · obtain ⟨dst, op, ty, pos, af, gd⟩ := o
        simp only at ho
        subst ho
        have e1 : xs.map a.eval ++ vs0.toArray = (xs.toList.map a.eval ++ vs0).toArray := by
          apply Array.ext'; simp
        have e2 : ∀ args : Array Value, (callFunc g2 args).run Pr w = .ok (.enter g2 args) w := by
          intro args
          have hname' : ¬ fn.name = "runtime.NumGoroutine" := by simpa using hname
          have hbody' : ¬ fn.body = none := by cases hb : fn.body with | none => rw [hb] at hbody; cases hbody | some c => simp
          simp [callFunc, program, hfn, Sem.run]
          rw [if_neg hname', if_neg hbody']
        simp only [execOp, Go.resolve, hfv, Deferred.ofValue, invoke, Sem.run_bind, Sem.run_pure, Result.andThen_ok, Array.empty_append, e1, e2]
      · obtain ⟨S', K', hle, hex, hHR, hat, heo⟩ := he
        have hH3 : Heap X hp' S' K' w' := ⟨hH2.1.trans hle, fun i v hv => hex i v (hH2.2.1 i v hv), hHR, hat⟩
        have hE3 : Env S' (K'.map CO.base) { st2 with hp := hp' } a := ⟨hE2.size, hE2.defers.mono hle hex, fun t d hd => (hE2.slots t d hd).mono hle hex⟩
        cases e with
        | returned v => cases out with
          | ret d => exact ⟨_, hk, Now.put (st := { st2 with hp := hp' }) hH3 hE3 o.dst heo⟩
          | pan c => exact heo.elim
        | panicked ch => cases out with
          | ret d => exact heo.elim
          | pan c => obtain ⟨v, h1, h2⟩ := heo; exact ⟨c, _, v, hk, h1, S', K', hH3, hE3, h2⟩
        | outgrown => cases out <;> exact heo.elim
    · exact h.elim
  · exact h.elim

theorem capsOf_sound {S : Frz} {bs : List Value} {st : St} (hev : ∀ x d, st.eval x = some d → MD S bs d (a.eval x)) : ∀ {xs : List Operand} {ps : List Cap}, capsOf st xs = some ps → MCaps S bs ps (xs.map a.eval)
  | [], ps, h => by cases h; trivial
  | x :: xs, ps, h => by
    simp only [capsOf] at h
    split at h
    · rename_i p ps' h1 h2
      cases h
      refine ⟨?_, capsOf_sound hev h2⟩
      unfold oneC at h1
      split at h1
      · rename_i c hc; cases h1; exact hev x _ hc
      · cases h1
    · rename_i k off ps' h1 h2
      cases h
      refine ⟨?_, capsOf_sound hev h2⟩
      unfold oneC at h1
      split at h1
      · rename_i c hc; cases h1; exact hev x _ hc
      · cases h1
    · cases h

theorem slotRow_sound {t ty : Nat} {st : St} {S : Frz} {K : List CO} (hH : Heap X st.hp S K w) (hE : Env S (K.map CO.base) st a) : ∃ K', Heap X (slotRow T t ty st).hp S K' w ∧ Env S (K'.map CO.base) (slotRow T t ty st) a := by
  unfold slotRow
  split
  · rename_i E e1 e2 e3 u hl hT
    obtain ⟨h1, h2, h3⟩ := nilRow_sound hH u E
    have hv := hE.slots t _ hl
    refine ⟨_, by rw [put_hp]; exact h2, Env.note (st := { st with hp := st.hp ++ [.row u E []] }) ⟨hE.size, hE.defers.mono (Frz.le.refl S) h1, fun t d hd => (hE.slots t d hd).mono (Frz.le.refl S) h1⟩ t ?_⟩
    generalize a.tmps.getD t undef = v at hv
    cases hv
    exact h3
  · exact ⟨K, hH, hE⟩
theorem nilRow_ok {nr : List Nat} {o : Oper} {st : St} (hn : Now X st a w) : Now X (nilRow T nr o st) a w := by
  unfold nilRow
  split
  · split
    · obtain ⟨S, K, hH, hE⟩ := hn
      obtain ⟨K', h1, h2⟩ := slotRow_sound (T := T) (t := ‹Nat›) (ty := o.type) hH hE
      exact ⟨S, K', h1, h2⟩
    · exact hn
  · exact hn

/-- A row's beginning owns what the row owned. -/
theorem At.cutRow {w : World} {E size : Nat} {ao : Option Addr} {n cap : Nat} {xs : List Value} {l : List Chunk} (H : At w (rowC E size (.slice ao n cap) n xs :: l)) {q cap' : Nat} (hq : q ≤ n) (hc : q ≤ cap') (hcc : cap' ≤ cap) :
    At w (rowC E size (.slice ao q cap') q (xs.take (q * size)) :: l) := by
  refine H.step fun A hA => ⟨A, ⟨fun k => ?_, ?_, ?_⟩, fun _ h => .inl h, Keeps.refl _ _⟩
  · rw [hA.1 k]; cases ao <;> simp [Value.ownBlock]
  · have := hA.2.1
    have hm : q * size ≤ n * size := Nat.mul_le_mul_right _ hq
    rw [List.length_take, this]; omega
  · rcases hA.2.2 with ⟨e, rfl⟩ | ⟨g, cap0, cur, fz, e, hg, hf, h1, h2, h3, h4⟩
    · cases e
      have : q = 0 := by omega
      have : cap' = 0 := by omega
      subst_vars
      exact .inl ⟨rfl, rfl⟩
    · cases e
      refine .inr ⟨g, cap', cur, fz, rfl, hg, hf, hc, by omega, Nat.le_trans (Nat.mul_le_mul_right _ hcc) h3, ?_⟩
      rw [← h4, List.take_take, Nat.min_eq_left (Nat.mul_le_mul_right _ hq)]

theorem cutSlot_sound (hT : T.fits Pr) {cut : List Nat} {x : Option Nat} {st : St} {k : St → Tree} (h : (cutSlot alg cut x st k).ok Pr Y G) (hn : Now X st a w) : ∃ st', (k st').ok Pr Y G ∧ Now X st' a w := by
  unfold cutSlot at h
  split at h
  · exact ⟨st, h, hn⟩
  · rename_i t
    split at h
    · exact ⟨st, h, hn⟩
    · split at h
      · rename_i u j lo hi hl
        split at h
        · rename_i u' E l ho
          split at h
          · rename_i l' hcast
            obtain ⟨e, he⟩ := castL_eq hcast
            subst e; subst he
            obtain ⟨hlo, hk⟩ := h
            rw [alg_same] at hlo
            subst hlo
            obtain ⟨S, K, hH, hE⟩ := hn
            refine ⟨_, hk, ?_⟩
            have hv := hE.slots t _ hl
            generalize hav : a.tmps.getD t undef = v at hv
            rw [nth_eq] at ho
            obtain ⟨ao0, cap0, vs, hkk, hlen, hxs, hrd⟩ := (hH.sit hT hE).row ho
            obtain ⟨ao1, n1, cap1, hb1, _, hhi, ao', cap', rfl, _, h4, h5, h6, h7, _, h9⟩ := hv
            rw [base_get hkk] at hb1
            cases hb1
            obtain ⟨rfl, hcc⟩ := h9 rfl
            obtain ⟨p, r, hp1, hp2, hfront⟩ := chunk_front hkk hH.2.2.2
            have hcutA := At.cutRow (show At w (rowC E u'.size (.slice ao' l.length cap0) l.length vs :: _) from hfront) h4 h5 hcc
            have hz0 : Int.toNat 0 = 0 := rfl
            obtain ⟨q, hqe⟩ : ∃ q : Nat, hi.toNat = q := ⟨_, rfl⟩
            simp only [hz0, Nat.sub_zero] at hav h5
            have hc2 : alg.cut l 0 hi = l.take q := by rw [alg_cut, hqe]; simp
            rw [hqe] at h4 h5 hcutA hav
            have hlq : (l.take q).length = q := by rw [List.length_take]; omega
            have hbs : (K.set j (.gone (.slice ao' l.length cap0))).map CO.base = K.map CO.base := bases_set hkk rfl
            have he : Ext (K.map CO.base) ((K.set j (.gone (.slice ao' l.length cap0)) ++ [CO.row E u'.size ao' q cap' (vs.take (q * u'.size))]).map CO.base) := by rw [List.map_append, hbs]; exact Ext.append _ _
            refine ⟨S, K.set j (.gone (.slice ao' l.length cap0)) ++ [CO.row E u'.size ao' q cap' (vs.take (q * u'.size))], ?_, ?_⟩
            · rw [put_hp]
              refine ⟨hH.1, fun k v h => he k v (hH.2.1 k v h), ?_, ?_⟩
              · simp only
                rw [setN_eq, hc2]
                refine ((hH.2.2.1.set j .gone).mono (Frz.le.refl S) he).push ?_
                have hR := Rel.row (S := S) (bs := (K.set j (.gone (.slice ao' l.length cap0)) ++ [CO.row E u'.size ao' q cap' (vs.take (q * u'.size))]).map CO.base) (E := E) (ao := ao') (cap := cap') (u := u') (l := l.take q) (vs := vs.take (q * u'.size)) (by rw [hlq, List.length_take, hlen]; have := Nat.mul_le_mul_right u'.size h4; omega) (fun i x jj pp v hi' hj hv => ?_)
                · rw [hlq] at hR; exact hR
                · rw [List.getElem?_take] at hi'
                  split at hi'
                  · rw [List.getElem?_take] at hv
                    split at hv
                    · exact hxs i x jj pp v hi' hj hv
                    · cases hv
                  · cases hi'
              · refine At.more ?_
                rw [hp2, chunkL_append]
                have h6 : At w (frzC S :: ((CO.chunkL p ++ CO.chunk (CO.gone (.slice ao' l.length cap0)) :: CO.chunkL r) ++ (CO.row E u'.size ao' q cap' (vs.take (q * u'.size))).chunk :: X.fr)) := by
                  refine (At.void ?_).perm (perm_front _ _ _ _ _).symm
                  refine hcutA.perm ?_
                  exact perm_front2 _ _ _ _
                refine h6.perm ?_
                exact (perm_front2 _ _ _ _).symm
            · refine Env.note (st := { st with hp := setN st.hp j .gone ++ [.row u' E (alg.cut l 0 hi)] }) ⟨hE.size, hE.defers.mono (Frz.le.refl S) he, fun t d hd => (hE.slots t d hd).mono (Frz.le.refl S) he⟩ t ?_
              rw [hav]
              show MC S _ (.row st.hp.length) _
              have : st.hp.length = (K.set j (.gone (.slice ao' l.length cap0))).length := by rw [hH.2.2.1.1]; simp
              rw [this]
              exact ⟨base_last _ _, _, _, _, rfl⟩
          · exact h.elim
        · exact h.elim
      · exact ⟨st, h, hn⟩

theorem OpOk.monoP {o : Oper} {R : St → Prop} {RP RP' : C → St → Prop} (h : OpOk Pr X o a w R RP) (hr : ∀ c st, RP c st → RP' c st) : OpOk Pr X o a w R RP' := by
  rcases h with h | ⟨f, args, h1, hc⟩ | ⟨v, c, st', h1, h2, h3⟩
  · exact .inl h
  · refine .inr (.inl ⟨f, args, h1, hc.mono fun e w' he => ?_⟩)
    cases e with
    | returned v => exact he
    | panicked ch => obtain ⟨c, st', v, h2, h3⟩ := he; exact ⟨c, st', v, hr _ _ h2, h3⟩
    | outgrown => exact he
  · exact .inr (.inr ⟨v, c, st', h1, hr _ _ h2, h3⟩)

theorem append_ok (hT : T.fits Pr) {cfg : Cfg} {o : Oper} {args : Array Operand} {tys : Array TypeId} {st : St} {k : St → Tree} {RP : C → St → Prop} (ho : o.op = .call ⟨.builtin .append, args, tys⟩)
    (h : Tree.ok Pr Y G (match (match o.dst with | some t => memN t cfg.fork | none => false) with
      | false => (lop alg T st (.call ⟨.builtin .append, args, tys⟩)).tree fun d st' => k (st'.put o.dst d)
      | true => (match args.toList, tys.toList with
        | [s, x], [t, u] => (match forkL alg T st t u s x with
          | some (p, stA, stB) => .need p (.both (k (stA.put o.dst (.v (.one (.row st.hp.length))))) (k (stB.put o.dst (.v (.one (.row st.hp.length))))))
          | none => .stop 60)
        | _, _ => .stop 61))) (hn : Now X st a w) : OpOk Pr X o a w (fun st' => (k st').ok Pr Y G) RP := by
  split at h
  · rw [← ho] at h; exact (l_ok hT h hn).mono fun _ ⟨d, st1, h3, h4⟩ => h4 ▸ h3
  · split at h
    · rename_i s x t u h1 h2
      split at h
      · rename_i p stA stB hf
        obtain ⟨S, K, hH, hE⟩ := hn
        have h1 : args = #[s, x] := by apply Array.ext'; simpa using h1
        have h2 : tys = #[t, u] := by apply Array.ext'; simpa using h2
        subst h1; subst h2
        obtain ⟨dst, op, ty, pos, af, gd⟩ := o
        simp only at ho
        subst ho
        obtain ⟨v, w', K', st', hst, hd, hH', hE', hm⟩ := fork_sound (dst := dst) (ty := ty) (pos := pos) (af := af) (gd := gd) hT hH hE hf h.1
        refine .inl ⟨v, w', hd, _, ?_, Now.put hH' hE' dst hm⟩
        rcases hst with rfl | rfl
        · exact h.2.1
        · exact h.2.2
      · exact h.elim
    · exact h.elim
theorem wrap_ok {o : Oper} {t yt : Nat} {x y : Operand} (ho : o.op = .binOp .add t x y yt) (hT : T.fits Pr) {st : St} {k : D → Tree} {RP : C → St → Prop} (h : ((wrapQ alg st x y).tree k).ok Pr Y G) (hn : Now X st a w) :
    OpOk Pr X o a w (fun st' => ∃ d, (k d).ok Pr Y G ∧ st' = st.put o.dst d) RP := by
  obtain ⟨S, K, hH, hE⟩ := hn
  have hs : QSound Pr S K a (fun w' => w' = w) o (wrapQ alg st x y) := by
    unfold wrapQ
    split
    · rename_i k1 m k2 n hx hy
      split
      · rename_i hk
        have := kindB_eq hk
        subst this
        have hm := (hH.sit hT hE).one hx
        have hm' := (hH.sit hT hE).one hy
        generalize hxv : a.eval x = xv at hm
        generalize hyv : a.eval y = yv at hm'
        cases hm; cases hm'
        obtain ⟨dst, op, ty, pos, af, gd⟩ := o
        simp only at ho
        subst ho
        exact okp_sound (v := .int _ (alg.wrap _ (alg.add m n))) (by simp [Yields, execOp, hxv, hyv, eqGuard, binOp, Op.intArith, alg]) (.int _ _)
      · exact no_sound
    · exact no_sound
  obtain ⟨v, d, hy, hm, hk⟩ := hs _ (QR.tree_ok h)
  exact .inl ⟨v, w, .inl (hy w rfl), _, ⟨d, hk, rfl⟩, Now.put hH hE o.dst hm⟩
theorem vop_ok (hT : T.fits Pr) {cfg : Cfg} {kp : C → St → Tree} {o : Oper} {st : St} {k : St → Tree} (h : (vop alg T cfg kp o st k).ok Pr Y G) (hn : Now X st a w) :
    OpOk Pr X o a w (fun st' => (k st').ok Pr Y G) (fun c st' => (kp c st').ok Pr Y G) := by
  unfold vop at h
  split at h
  · rename_i c x y ho
    obtain ⟨st', h1, h2, _⟩ := resolve_sound h hn
    rw [← ho] at h1
    exact (q_ok hT h1 h2).mono fun _ ⟨d, h3, h4⟩ => h4 ▸ h3
  · rename_i t x ho
    rw [← ho] at h
    exact (q_ok hT h (openFor_sound hn)).mono fun _ ⟨d, h3, h4⟩ => h4 ▸ h3
  · rename_i x ho
    rw [← ho] at h
    obtain ⟨S, K, hH, hE⟩ := hn
    obtain ⟨v, d, hy, hm, hk⟩ := qop_sound (hH.sit hT hE) o (W := fun w' => w' = w) (fun _ => (hH.sit hT hE).cls) _ (QR.tree_ok h)
    obtain ⟨st', h1, h2⟩ := cutSlot_sound hT hk (nilRow_ok (Now.put hH hE o.dst hm))
    exact .inl ⟨v, w, .inl (hy w rfl), _, h1, h2⟩
  · rename_i t x v ho
    rw [← ho] at h
    -- what a store leaves in its slot is 'undef'
    obtain ⟨st1, h, S, K, hH, hE⟩ := cutSlot_sound hT h (openFor_sound (x := x) hn)
    obtain ⟨v', w', S', K', d, st', hd, _, _, hH', hE', hm, hk⟩ := lop_sound hT hH hE o _ (LR.tree_ok h)
    refine .inl ⟨undef, w', ?_, _, hk, Now.put hH' hE' o.dst ⟨[], trivial, rfl⟩⟩
    rcases hd with hd | ⟨hd, _⟩
    · exfalso
      obtain ⟨dst, op, ty, pos, af, gd⟩ := o
      simp only at ho
      subst ho
      simp only [execOp, Sem.run_bind] at hd
      cases hs : (Instr.storeAt t (a.eval x) (a.eval v)).run Pr w with
      | ok u w1 => rw [hs] at hd; simp only [Result.andThen_ok, Sem.run_pure] at hd; cases hd
      | halt q w1 => rw [hs] at hd; cases hd
    · exact .inr ⟨hd, rfl⟩
  · rename_i t ho
    split at h
    · exact (arr_ok ho hT h hn).mono fun _ ⟨d, st1, h3, h4⟩ => h4 ▸ h3
    · rw [← ho] at h; exact (l_ok hT h hn).mono fun _ ⟨d, st1, h3, h4⟩ => h4 ▸ h3
  · rename_i t x ho; rw [← ho] at h; exact (l_ok hT h hn).turn (innBox cfg t st.hp.length) innBox_sound fun _ ⟨d, st1, h3, h4⟩ => h4 ▸ h3
  · rename_i ho; rw [← ho] at h; exact (l_ok hT h hn).mono fun _ ⟨d, st1, h3, h4⟩ => h4 ▸ h3
  · rename_i ho; rw [← ho] at h; exact (l_ok hT h hn).mono fun _ ⟨d, st1, h3, h4⟩ => h4 ▸ h3
  · rename_i s d x ho
    split at h
    · rw [← ho] at h; exact (l_ok hT h hn).mono fun _ ⟨d, st1, h3, h4⟩ => h4 ▸ h3
    · rw [← ho] at h; exact (q_ok hT h hn).mono fun _ ⟨d, h3, h4⟩ => h4 ▸ h3
  · rename_i fn first captured ho
    split at h
    · rename_i f ps hfirst hcaps
      have hfirst : first = #[] := by apply Array.ext'; simpa using hfirst
      subst hfirst
      obtain ⟨S, K, hH, hE⟩ := hn
      have hm := capsOf_sound (hH.eval hT hE) hcaps
      refine .inl ⟨.func (.func f) #[] (captured.toList.map a.eval).toArray, w, .inl ?_, _, h, Now.put hH hE o.dst ⟨_, hm, rfl⟩⟩
      obtain ⟨dst, op, ty, pos, af, gd⟩ := o
      simp only at ho
      subst ho
      have e1 : Array.map a.eval captured = (captured.toList.map a.eval).toArray := by apply Array.ext'; simp
      simp [execOp, Instr.makeFunc, e1]
    · exact h.elim
  · rename_i x ho
    split at h
    · rename_i t b ps hc
      obtain ⟨S, K, hH, hE⟩ := hn
      have hm := (hH.sit hT hE).one hc
      generalize hx : a.eval x = xv at hm
      refine .inr (.inr ⟨xv, _, st, ?_, h, S, K, hH, hE, hm⟩)
      obtain ⟨y, rfl⟩ : ∃ y, xv = .iface t y := by
        cases b with
        | false => cases ps with
          | nil => exact hm.elim
          | cons p ps => cases ps with
            | nil => obtain ⟨y, _, rfl⟩ := hm; exact ⟨y, rfl⟩
            | cons _ _ => exact hm.elim
        | true => obtain ⟨vs, _, rfl⟩ := hm; exact ⟨_, rfl⟩
      obtain ⟨dst, op, ty, pos, af, gd⟩ := o
      simp only at ho
      subst ho
      simp [execOp, hx, Instr.panic]
    · exact h.elim
  · rename_i c ho
    obtain ⟨callee, args, tys⟩ := c
    cases callee with
    | builtin b =>
      cases b <;> first
        | (simp only at h; rw [← ho] at h; exact (q_ok hT h hn).mono fun _ ⟨d, h3, h4⟩ => h4 ▸ h3)
        | exact append_ok hT ho h hn
        | (simp only at h; rw [← ho] at h; exact (l_ok hT h hn).mono fun _ ⟨d, st1, h3, h4⟩ => h4 ▸ h3)
    | value f => exact call_ok hT ho h hn
    | invoke r m => exact h.elim
  · rename_i t x y yt ho
    split at h
    · exact (wrap_ok ho hT h hn).mono fun _ ⟨d, h3, h4⟩ => h4 ▸ h3
    · rw [← ho] at h; exact (q_ok hT h hn).mono fun _ ⟨d, h3, h4⟩ => h4 ▸ h3
  · exact (q_ok hT h hn).mono fun _ ⟨d, h3, h4⟩ => h4 ▸ h3

theorem deferT_split {o : Oper} {f : Operand} {st : St} {k : St → Tree} (h : (deferT o f st k).ok Pr Y G) :
    o.dst = none ∧ ∃ g caps, st.df = none ∧ st.eval f = some (.v (.one (.fn g caps))) ∧ (k { st with df := some (g, caps) }).ok Pr Y G := by
  unfold deferT at h
  split at h
  · rename_i h1 h2 h3; exact ⟨h1, _, _, h2, h3, h⟩
  · exact h.elim
theorem defer_run {o : Oper} {f : Operand} {g : Nat} {vs : List Value} (hdf : deferOf o.op = some f) (hfv : a.eval f = .func (.func g) #[] vs.toArray) :
    (execOp a.eval o).run Pr w = .ok (.defer ⟨.fn (.func g) vs.toArray, #[]⟩) w := by
  obtain ⟨dst, op, ty, pos, af, gd⟩ := o
  unfold deferOf at hdf
  split at hdf
  · rename_i c hop
    simp only at hop
    subst hop
    obtain ⟨callee, args, tys⟩ := c
    split at hdf
    · rename_i x hcal hargs
      simp only at hcal hargs
      subst hcal
      cases hdf
      have hargs : args = #[] := by apply Array.ext'; simpa using hargs
      subst hargs
      simp [execOp, Go.resolve, hfv, Deferred.ofValue]
    · cases hdf
  · cases hdf
theorem guard_sound {all : List Oper} {o : Oper} {st : St} {kt kf : St → Tree} (h : (guardT all o st kt kf).ok Pr Y G) (hn : Now X st a w) :
    ∃ st', Now X st' a w ∧ st'.hp = st.hp ∧ ((Region.wanted o (yielded all.toArray a.tmps) = true ∧ (kt st').ok Pr Y G) ∨ (Region.wanted o (yielded all.toArray a.tmps) = false ∧ (kf st').ok Pr Y G)) := by
  unfold guardT at h
  unfold Region.wanted
  split at h
  · rename_i hg; rw [hg]; exact ⟨st, hn, rfl, .inl ⟨rfl, h⟩⟩
  · rename_i j want hg
    rw [hg]
    simp only
    split at h
    · exact h.elim
    · rename_i oj hj
      rw [nth_eq] at hj
      split at h
      · exact h.elim
      · rename_i t ht
        obtain ⟨st', h1, h2, h3⟩ := resolve_sound h hn
        refine ⟨st', h2, h3, ?_⟩
        obtain ⟨S, K, hH, hE⟩ := h2
        have hy : ∀ v, a.tmps.getD t undef = v → yielded all.toArray a.tmps j = match (a.tmps[t]?) with | some (.bool b) => some b | _ => none := by
          intro v _
          unfold yielded
          simp only [List.getElem?_toArray, hj, Option.bind_some, ht]
          rfl
        split at h1
        · rename_i hl
          have hm := hE.slots t _ hl
          generalize hv : a.tmps.getD t undef = v at hm
          cases hm
          have hsome : a.tmps[t]? = some (.bool true) := by
            cases hq : a.tmps[t]? with
            | none => simp [hq, undef] at hv
            | some u => simp [hq] at hv; rw [hv]
          rw [hy _ rfl, hsome]
          cases want <;> simp at h1 ⊢ <;> exact h1
        · rename_i hl
          have hm := hE.slots t _ hl
          generalize hv : a.tmps.getD t undef = v at hm
          cases hm
          have hsome : a.tmps[t]? = some (.bool false) := by
            cases hq : a.tmps[t]? with
            | none => simp [hq, undef] at hv
            | some u => simp [hq] at hv; rw [hv]
          rw [hy _ rfl, hsome]
          cases want <;> simp at h1 ⊢ <;> exact h1
        · rename_i hl
          have hm := hE.slots t _ hl
          generalize hv : a.tmps.getD t undef = v at hm
          obtain ⟨vs, h4, rfl⟩ := hm
          rw [hy _ rfl]
          refine .inr ⟨?_, h1⟩
          cases hq : a.tmps[t]? with
          | none => simp
          | some u => simp [hq] at hv; rw [hv]; simp
        · exact h1.elim

theorem vops_sound (hT : T.fits Pr) {cfg : Cfg} {all : List Oper} {kp : C → St → Tree} {k : St → Tree} {R : AEx → St → Prop} (hk : ∀ st, (k st).ok Pr Y G → R .normal st) (hkp : ∀ c st, (kp c st).ok Pr Y G → R (.pan c) st) :
    ∀ {l : List Oper} {st : St} {a : Act} {w : World}, (vops alg T cfg all kp k l st).ok Pr Y G → Now X st a w → wpList Pr all.toArray (Post X R) l a w
  | [], st, a, w, h, hn => by
    obtain ⟨S, K, hH, hE⟩ := hn
    exact ⟨.normal, st, hk _ h, S, K, hH, hE, trivial⟩
  | o :: r, st, a, w, h, hn => by
    simp only [vops, forceSt_eq] at h
    obtain ⟨st', hn', _, ⟨hw, h1⟩ | ⟨hw, h1⟩⟩ := guard_sound h hn
    · refine BigFrame.wpList_want hw fun Kx hKx => ?_
      split at h1
      · rename_i f hdf
        obtain ⟨hd0, g, caps, hf0, hev, hk2⟩ := deferT_split h1
        obtain ⟨S, K, hH, hE⟩ := hn'
        have hm := (hH.eval hT hE) _ _ hev
        obtain ⟨vs, hcap, hfv⟩ := hm
        have hr := defer_run (a := a) (w := w) (Pr := Pr) hdf hfv
        unfold Oper.wp
        rw [hr]
        simp only [Oper.upon]
        rw [hd0]
        refine hKx _ _ (vops_sound hT hk hkp hk2 ⟨S, K, hH, ⟨hE.size, ⟨vs, hcap, ?_⟩, hE.slots⟩⟩)
        have := hE.defers
        rw [hf0] at this
        simp only [MDf] at this
        simp [Act.put, this]
      exact (vop_ok hT h1 hn').wp (fun st2 a2 w2 hR hN => hKx _ _ (vops_sound hT hk hkp hR hN)) fun c st2 v w2 hR ⟨S, K, hH, hE, hm⟩ => ⟨.pan c, st2, hkp _ _ hR, S, K, hH, hE, v, rfl, hm⟩
    · unfold wpList
      rw [if_neg (by rw [hw]; simp)]
      obtain ⟨S, K, hH, hE⟩ := hn'
      exact vops_sound hT hk hkp h1 (Now.put hH hE o.dst ⟨[], trivial, rfl⟩)

theorem qopO_sound (hT : T.fits Pr) {o : Oper} {st : St} {k : St → Tree} (h : (qopO alg T o st k).ok Pr Y G) (hn : Now X st a w) : ∃ v st', Yields Pr a (fun w' => w' = w) o v ∧ (k st').ok Pr Y G ∧ Now X st' (a.put o.dst v) w := by
  have go : ∀ {st : St}, ((qop alg T st o.op).tree fun d => k (st.put o.dst d)).ok Pr Y G → Now X st a w → ∃ v st', Yields Pr a (fun w' => w' = w) o v ∧ (k st').ok Pr Y G ∧ Now X st' (a.put o.dst v) w := by
    intro st h hn
    obtain ⟨S, K, hH, hE⟩ := hn
    obtain ⟨v, d, hy, hm, hk⟩ := qop_sound (hH.sit hT hE) o (W := fun w' => w' = w) (fun _ => (hH.sit hT hE).cls) _ (QR.tree_ok h)
    exact ⟨v, _, hy, hk, Now.put hH hE o.dst hm⟩
  unfold qopO at h
  split at h
  · rename_i c x y ho
    obtain ⟨st', h1, h2, _⟩ := resolve_sound h hn
    rw [← ho] at h1
    exact go h1 h2
  · rename_i t x ho
    rw [← ho] at h
    exact go h (openFor_sound hn)
  · exact go h hn

theorem vquiet_sound (hT : T.fits Pr) {all : List Oper} {k : St → Tree} {Q : Act → Prop} (hk : ∀ st a, (k st).ok Pr Y G → Now X st a w → Q a) :
    ∀ {l : List Oper} {st : St} {a : Act}, (vquiet alg T all k l st).ok Pr Y G → Now X st a w → wpStill Pr all.toArray w Q l a
  | [], st, a, h, hn => hk _ _ h hn
  | o :: r, st, a, h, hn => by
    simp only [vquiet, forceSt_eq] at h
    obtain ⟨st', hn', _, ⟨hw, h1⟩ | ⟨hw, h1⟩⟩ := guard_sound h hn
    · obtain ⟨v, st2, hy, h2, h3⟩ := qopO_sound hT h1 hn'
      exact wpS_sem hw (hy w rfl) (vquiet_sound hT hk h2 h3)
    · unfold wpStill
      rw [if_neg (by rw [hw]; simp)]
      obtain ⟨S, K, hH, hE⟩ := hn'
      exact vquiet_sound hT hk h1 (Now.put hH hE o.dst ⟨[], trivial, rfl⟩)

/-! ### regions that draw their order -/
theorem OpOk.wp2 {o : Oper} {R : St → Prop} (h : OpOk Pr X o a w R fun _ _ => False) {next : Act → World → Prop} {Q : Exit → Act → World → Prop}
    (hn : ∀ st' v w', R st' → Now X st' (a.put o.dst v) w' → next (a.put o.dst v) w') : o.wp Pr a w next Q := by
  unfold Oper.wp
  rcases h with ⟨v, w', hd, st', hR, hN⟩ | ⟨f, args, hr, hc⟩ | ⟨v, c, st', hr, hR, hx⟩
  · rcases hd with hd | ⟨hd, rfl⟩
    · rw [hd]; exact hn _ _ _ hR hN
    · rw [hd]; exact hn _ _ _ hR hN
  · rw [hr]
    simp only [Oper.upon]
    refine hc.mono fun e w'' he => ?_
    cases e with
    | returned v => obtain ⟨st', h1, h2⟩ := he; exact hn _ _ _ h1 h2
    | panicked ch => obtain ⟨c, st', v, h1, rfl, h2⟩ := he; exact h1.elim
    | outgrown => exact he.elim
  · exact hR.elim

theorem OpOk.wp3 {o : Oper} {R : St → Prop} {RP : C → St → Prop} (h : OpOk Pr X o a w R RP) {next : Act → World → Prop} {Q : Exit → Act → World → Prop}
    (hn : ∀ st' v w', R st' → Now X st' (a.put o.dst v) w' → next (a.put o.dst v) w') (hp : ∀ c st' v w', RP c st' → (∃ S K, Heap X st'.hp S K w' ∧ Env S (K.map CO.base) st' a ∧ MC S (K.map CO.base) c v) → Q (.panic [{ v := v, recovered := false }]) a w') : o.wp Pr a w next Q := by
  unfold Oper.wp
  rcases h with ⟨v, w', hd, st', hR, hN⟩ | ⟨f, args, hr, hc⟩ | ⟨v, c, st', hr, hR, hx⟩
  · rcases hd with hd | ⟨hd, rfl⟩
    · rw [hd]; exact hn _ _ _ hR hN
    · rw [hd]; exact hn _ _ _ hR hN
  · rw [hr]
    simp only [Oper.upon]
    refine hc.mono fun e w'' he => ?_
    cases e with
    | returned v => obtain ⟨st', h1, h2⟩ := he; exact hn _ _ _ h1 h2
    | panicked ch => obtain ⟨c, st', v, h1, rfl, h2⟩ := he; exact hp _ _ _ _ h1 h2
    | outgrown => exact he.elim
  · rw [hr]; exact hp _ _ _ _ hR hx

theorem frz_weaken {S S' : Frz} {l : List Chunk} (hle : S.le S') (H : At w (frzC S' :: l)) : At w (frzC S :: l) := by
  obtain ⟨F, A, B, e, dj, ⟨h0, h1⟩, hr⟩ := H
  refine ⟨fun k => (S.blk k).isSome = true ∨ B k, fun k => (S.blk k).isSome = true, B, fun _ => Iff.rfl, fun k hA hB => dj k ?_ hB, ⟨fun _ => Iff.rfl, Frz.on.mono h1 hle⟩, hr⟩
  refine (h0 k).2 ?_
  obtain ⟨o, ho⟩ := Option.isSome_iff_exists.1 hA
  rw [hle.2.2.2 k o ho]; rfl

theorem putH_sound {S : Frz} {B : List Value} : ∀ {qs : List Nat} {os hp : List HO} {cs K : List CO}, os.length = cs.length → os.length = qs.length → HR S B hp K → (∀ (i : Nat) (o : HO) (c : CO), os[i]? = some o → cs[i]? = some c → Rel S B o c) → HR S B (putH qs os hp) (putBackK qs cs K)
  | [], os, hp, cs, K, hl, hq, hr, ho => by
    have h1 : os = [] := List.eq_nil_of_length_eq_zero (by simpa using hq)
    subst h1
    have h2 : cs = [] := List.eq_nil_of_length_eq_zero (by simpa using hl.symm)
    subst h2
    simp only [putH, putBackK, List.append_nil]; exact hr
  | q :: qs, o :: os, hp, c :: cs, K, hl, hq, hr, ho => by
    simp only [putH, putBackK]
    refine putH_sound (by simpa using hl) (by simpa using hq) ?_ (fun i o' c' h1 h2 => ho (i + 1) o' c' (by simpa using h1) (by simpa using h2))
    rw [setN_eq]; exact hr.set q (ho 0 o c rfl rfl)
  | q :: qs, [], hp, cs, K, hl, hq, _, _ => by cases hq
  | q :: qs, o :: os, hp, [], K, hl, _, _, _ => by cases hl
theorem atPut {w : World} {S : Frz} {K : List CO} {fr : List Chunk} {q : Nat} {c : CO} (hq : q < K.length) (H : At w (frzC S :: (CO.chunkL K ++ (c.chunk :: fr)))) : At w (frzC S :: (CO.chunkL (K.set q c) ++ fr)) := by
  obtain ⟨p, r, h1, _, h3⟩ := set_split (List.getElem?_eq_getElem hq)
  rw [h3, chunkL_append]
  rw [h1, chunkL_append] at H
  have H2 := (H.perm (perm_front _ _ _ _ _)).tail
  have H3 := H2.perm ((perm_front2 c.chunk (frzC S) (CO.chunkL p ++ CO.chunkL r) fr).symm)
  exact H3.perm (perm_front _ _ _ _ _).symm
theorem atPutK {S : Frz} : ∀ {qs : List Nat} {cs K : List CO} {fr : List Chunk}, qs.length = cs.length → (∀ q ∈ qs, q < K.length) → At w (frzC S :: (CO.chunkL K ++ (CO.chunkL cs ++ fr))) → At w (frzC S :: (CO.chunkL (putBackK qs cs K) ++ fr))
  | [], cs, K, fr, hl, _, hat => by
    have h2 : cs = [] := List.eq_nil_of_length_eq_zero (by simpa using hl.symm)
    subst h2
    simpa [putBackK, CO.chunkL] using hat
  | q :: qs, c :: cs, K, fr, hl, hqs, hat => by
    simp only [putBackK]
    refine atPutK (by simpa using hl) (fun q' h' => by simp; exact hqs q' (List.mem_cons_of_mem _ h')) ?_
    exact atPut (c := c) (hqs q (List.mem_cons_self ..)) (fr := CO.chunkL cs ++ fr) (by simpa [CO.chunkL] using hat)
  | q :: qs, [], K, fr, hl, _, _ => by cases hl
theorem putK_set_bases {K : List CO} {q : Nat} {c : CO} (h : (K.map CO.base)[q]? = some c.base) : (K.set q c).map CO.base = K.map CO.base := by
  have hlt : q < K.length := by simpa using (List.getElem?_eq_some_iff.1 h).1
  have hc : K[q]? = some K[q] := List.getElem?_eq_getElem hlt
  refine bases_set hc ?_
  rw [base_get hc] at h
  simp only [Option.some.injEq] at h
  exact h.symm
theorem putK_bases : ∀ {qs : List Nat} {cs K : List CO}, (∀ (i q : Nat) (c : CO), qs[i]? = some q → cs[i]? = some c → (K.map CO.base)[q]? = some c.base) → qs.length = cs.length → (putBackK qs cs K).map CO.base = K.map CO.base
  | [], cs, K, _, hl => by
    have h2 : cs = [] := List.eq_nil_of_length_eq_zero (by simpa using hl.symm)
    subst h2
    simp [putBackK]
  | q :: qs, c :: cs, K, h, hl => by
    have h0 := putK_set_bases (h 0 q c rfl rfl)
    simp only [putBackK]
    rw [putK_bases (fun i q' c' h1 h2 => by rw [h0]; exact h (i + 1) q' c' (by simpa using h1) (by simpa using h2)) (by simpa using hl), h0]
  | q :: qs, [], K, _, hl => by cases hl
theorem at_gones {S : Frz} : ∀ {B : List Value} {l : List Chunk}, At w (frzC S :: l) → At w (frzC S :: (CO.chunkL (B.map CO.gone) ++ l))
  | [], l, h => h
  | v :: B, l, h => by
    have h1 := at_gones (B := B) h
    refine (At.void h1).perm ?_
    simp only [List.map_cons, CO.chunkL, CO.chunk, List.cons_append]
    exact List.Perm.swap _ _ _

/-- What stands still while a region runs. -/
structure Kept (X : Ctx) (S0 : Frz) (B0 : List Value) (qs : List Nat) (os : List HO) (Cs : List CO) : Prop where
  le : X.S0.le S0
  ext : Ext X.bs0 B0
  len : Cs.length = os.length
  len2 : os.length = qs.length
  base : ∀ (i q : Nat) (c : CO), qs[i]? = some q → Cs[i]? = some c → B0[q]? = some c.base
  rel : ∀ (i : Nat) (o : HO) (c : CO), os[i]? = some o → Cs[i]? = some c → Rel S0 B0 o c

def Kept.ctx (X : Ctx) (S0 : Frz) (B0 : List Value) (Cs : List CO) : Ctx := ⟨S0, B0, CO.chunkL Cs ++ X.fr⟩
/-- The worlds that may come up. -/
def Held (S0 : Frz) (Cs : List CO) : World → Prop := fun w => ∃ S fr, S0.le S ∧ At w (frzC S :: (CO.chunkL Cs ++ fr))

section
variable {S0 : Frz} {B0 : List Value} {qs : List Nat} {os : List HO} {Cs : List CO}

theorem Kept.lt (h : Kept X S0 B0 qs os Cs) {q : Nat} (hq : q ∈ qs) : q < B0.length := by
  obtain ⟨i, hi⟩ := List.getElem?_of_mem hq
  have hil : i < Cs.length := by rw [h.len, h.len2]; exact (List.getElem?_eq_some_iff.1 hi).1
  exact (List.getElem?_eq_some_iff.1 (h.base i q _ hi (List.getElem?_eq_getElem hil))).1

theorem Kept.held {st : St} (hn : Now (Kept.ctx X S0 B0 Cs) st a w) : Held S0 Cs w := by
  obtain ⟨S, K, hH, hE⟩ := hn
  refine ⟨S, CO.chunkL K ++ X.fr, hH.1, hH.2.2.2.perm (List.Perm.cons _ ?_)⟩
  have h9 : (CO.chunkL K ++ CO.chunkL Cs).Perm (CO.chunkL Cs ++ CO.chunkL K) := List.perm_append_comm
  have h10 := h9.append_right X.fr
  rw [List.append_assoc, List.append_assoc] at h10
  exact h10

/-- The whole state. -/
theorem Kept.merge (h : Kept X S0 B0 qs os Cs) {st : St} {S : Frz} {K : List CO} (hH : Heap (Kept.ctx X S0 B0 Cs) st.hp S K w) :
    ∃ K', K'.map CO.base = K.map CO.base ∧ Heap X (putH qs os st.hp) S K' w := by
  have hb : ∀ (i q : Nat) (c : CO), qs[i]? = some q → Cs[i]? = some c → (K.map CO.base)[q]? = some c.base := fun i q c e1 e2 => hH.2.1 q _ (h.base i q c e1 e2)
  have hlt : ∀ q ∈ qs, q < K.length := fun q hq => by
    obtain ⟨i, hi⟩ := List.getElem?_of_mem hq
    have hil : i < Cs.length := by rw [h.len, h.len2]; exact (List.getElem?_eq_some_iff.1 hi).1
    have := (List.getElem?_eq_some_iff.1 (hb i q _ hi (List.getElem?_eq_getElem hil))).1
    simpa using this
  have hl : qs.length = Cs.length := by rw [h.len, h.len2]
  have e := putK_bases hb hl
  refine ⟨putBackK qs Cs K, e, h.le.trans hH.1, fun k v hv => by rw [e]; exact hH.2.1 k v (h.ext k v hv), ?_, atPutK hl hlt hH.2.2.2⟩
  rw [e]
  exact putH_sound h.len.symm h.len2 hH.2.2.1 fun i o c e1 e2 => (h.rel i o c e1 e2).mono hH.1 hH.2.1

/-- What is kept, as memory of its own. -/
theorem Kept.cls (h : Kept X S0 B0 qs os Cs) : Cls S0 (putBackK qs Cs (B0.map CO.gone)) (Held S0 Cs) := by
  intro w' ⟨S, fr, hle, hat⟩
  exact ⟨S, fr, hle, atPutK (by rw [h.len, h.len2]) (fun q hq => by simpa using h.lt hq) (at_gones hat)⟩
theorem gone_bases (B : List Value) : (B.map CO.gone).map CO.base = B := by
  rw [List.map_map]
  have : (CO.base ∘ CO.gone) = id := by funext v; simp [CO.base]
  rw [this, List.map_id]
theorem Kept.bases (h : Kept X S0 B0 qs os Cs) : (putBackK qs Cs (B0.map CO.gone)).map CO.base = B0 := by
  rw [putK_bases (fun i q c e1 e2 => by rw [gone_bases]; exact h.base i q c e1 e2) (by rw [h.len, h.len2]), gone_bases]
theorem gones_length : ∀ (l : List HO), (gones l).length = l.length
  | [] => rfl
  | _ :: l => by simp [gones, gones_length l]
theorem gones_get : ∀ (l : List HO) (i : Nat) (o : HO), (gones l)[i]? = some o → o = .gone
  | [], i, o, h => by simp [gones] at h
  | _ :: l, 0, o, h => by simp [gones] at h; exact h.symm
  | _ :: l, i + 1, o, h => gones_get l i o (by simpa [gones] using h)
theorem Kept.sit (hT : T.fits Pr) (h : Kept X S0 B0 qs os Cs) {hpr : List HO} (hl : hpr.length = B0.length) {stk : St} (he : stk.hp = putH qs os (gones hpr)) (hE : Env S0 B0 stk a) (hw : Held S0 Cs w) :
    ∃ fr, Sit Pr T S0 (putBackK qs Cs (B0.map CO.gone)) fr stk a w := by
  obtain ⟨S, fr, hle, hat⟩ := h.cls w hw
  refine ⟨fr, hT, ?_, frz_weaken hle hat, by rw [h.bases]; exact hE⟩
  rw [h.bases, he]
  refine putH_sound h.len.symm h.len2 ⟨by simp [gones_length, hl], fun i o c e1 e2 => ?_⟩ h.rel
  rw [gones_get _ _ _ e1]; exact .gone

/-- The ends of a region of this kind. -/
def MixQ (X : Ctx) (R : AEx → St → Prop) : Exit → Act → World → Prop := fun e a w => match e with
  | .normal => Post X R .normal a w
  | .panic ch => ∃ c st', R (.pan c) st' ∧ st'.env = [] ∧ ∃ S K v, Heap X st'.hp S K w ∧ Env S (K.map CO.base) st' a ∧ ch = [{ v := v, recovered := false }] ∧ MC S (K.map CO.base) c v
  | _ => False
theorem mixQ_put {X : Ctx} {R : AEx → St → Prop} (dst : Option Tmp) (v : Value) (ch : List PanicEntry) (a : Act) (w : World) (h : MixQ X R (.panic ch) (a.put dst v) w) : MixQ X R (.panic ch) a w := by
  obtain ⟨c, st', h1, h2, S, K, u, h3, h4, h5, h6⟩ := h
  refine ⟨c, st', h1, h2, S, K, u, h3, ⟨?_, ?_, fun t d hd => by rw [h2] at hd; cases hd⟩, h5, h6⟩
  · have := h4.size
    cases dst with
    | none => exact this
    | some t => simpa [Act.put] using this
  · have := h4.defers
    cases dst with
    | none => exact this
    | some t => exact this

theorem loudAll_ok {f : Nat → Tree} : ∀ {r : List Nat}, (loudAll f r).ok Pr Y G → ∀ i ∈ r, (f i).ok Pr Y G
  | [], _, i, hi => by cases hi
  | [j], h, i, hi => by
    have : i = j := by simpa using hi
    subst this; exact h
  | j :: k :: r, h, i, hi => by
    rcases List.mem_cons.1 hi with e | e
    · subst e; exact h.1
    · exact loudAll_ok (r := k :: r) h.2 i e
theorem firstCalm_some {all : List Oper} {listed : Array Bool} {st stk : St} : ∀ {r : List Nat} {i : Nat}, firstCalm alg T all listed st stk r = some i → i ∈ r ∧ Region.free .any all.toArray listed i = true
  | [], i, h => by cases h
  | j :: r, i, h => by
    simp only [firstCalm] at h
    have again : firstCalm alg T all listed st stk r = some i → i ∈ j :: r ∧ Region.free .any all.toArray listed i = true := fun h => ⟨List.mem_cons_of_mem _ (firstCalm_some h).1, (firstCalm_some h).2⟩
    split at h
    · split at h
      · split at h
        · rename_i hf; cases h; exact ⟨List.mem_cons_self .., hf⟩
        · exact again h
      · exact again h
    · exact again h

theorem bad_put {S : Frz} {bs : List Value} {stk : St} (h : Env S bs stk a) (dst : Option Nat) (v : Value) : Env S bs (stk.put dst .bad) (a.put dst v) := h.put dst trivial

theorem calmT_sound (hT : T.fits Pr) (h : Kept X S0 B0 qs os Cs) {hpr : List HO} (hl : hpr.length = B0.length) {o : Oper} {st stk : St} {k : St → St → Tree} (ht : (calmT alg T qs os o st stk k).ok Pr Y G)
    (hn : Now (Kept.ctx X S0 B0 Cs) st a w) (he : stk.hp = putH qs os (gones hpr)) (hE : Env S0 B0 stk a) :
    ∃ v st' stk', Yields Pr a (Held S0 Cs) o v ∧ (k st' stk').ok Pr Y G ∧ Now (Kept.ctx X S0 B0 Cs) st' (a.put o.dst v) w ∧ stk'.hp = stk.hp ∧ Env S0 B0 stk' (a.put o.dst v) := by
  unfold calmT at ht
  split at ht
  · obtain ⟨fr, hs⟩ := h.sit hT hl he hE (Kept.held hn)
    obtain ⟨v, d, hy, hm, hk⟩ := qop_sound hs o (W := Held S0 Cs) (fun _ => h.cls) _ (QR.tree_ok ht)
    rw [h.bases] at hm
    obtain ⟨S, K, hH, hE2⟩ := hn
    exact ⟨v, _, _, hy, hk, Now.put hH hE2 o.dst (hm.mono hH.1 hH.2.1), put_hp _ _ _, hE.put o.dst hm⟩
  · have go : ∀ {st : St}, needsW o.op = false → ((qop alg T { st with hp := putH qs os st.hp } o.op).tree fun d => k (st.put o.dst d) (stk.put o.dst .bad)).ok Pr Y G → Now (Kept.ctx X S0 B0 Cs) st a w →
        ∃ v st' stk', Yields Pr a (Held S0 Cs) o v ∧ (k st' stk').ok Pr Y G ∧ Now (Kept.ctx X S0 B0 Cs) st' (a.put o.dst v) w ∧ stk'.hp = stk.hp ∧ Env S0 B0 stk' (a.put o.dst v) := by
      intro st hnw ht hn
      obtain ⟨S, K, hH, hE2⟩ := hn
      obtain ⟨K', hb, hH2⟩ := h.merge hH
      have hE3 : Env S (K'.map CO.base) { st with hp := putH qs os st.hp } a := by rw [hb]; exact ⟨hE2.size, hE2.defers, hE2.slots⟩
      obtain ⟨v, d, hy, hm, hk⟩ := qop_sound (hH2.sit hT hE3) o (W := Held S0 Cs) (fun e => by rw [hnw] at e; cases e) _ (QR.tree_ok ht)
      rw [hb] at hm
      exact ⟨v, _, _, hy, hk, Now.put hH hE2 o.dst hm, put_hp _ _ _, bad_put hE o.dst v⟩
    split at ht
    · exact ht.elim
    · rename_i hnw
      split at ht
      · rename_i c x y ho
        obtain ⟨st', h1, h2, _⟩ := resolve_sound ht hn
        rw [← ho] at h1
        exact go hnw h1 h2
      · exact go hnw ht hn

theorem amongN_mem {b : Nat} {pre : Option (List Nat)} {r : List Nat} {i : Nat} (h : i ∈ amongN b pre r) : i ∈ r ∧ (∀ l, pre = some l → i ∈ l) ∧ b ≠ i := by
  unfold amongN at h
  rw [List.mem_filter] at h
  obtain ⟨h1, h2⟩ := h
  split at h2
  · cases h2
  rename_i hb
  have hne : b ≠ i := fun e => by subst e; simp at hb
  refine ⟨h1, fun l e => ?_, hne⟩
  subst e
  exact memNat_mem h2
theorem mem_memNat {i : Nat} : ∀ {l : List Nat}, i ∈ l → memNat i l = true
  | j :: r, h => by
    unfold memNat
    split
    · rfl
    · rename_i hb
      rcases List.mem_cons.1 h with e | e
      · subst e; simp at hb
      · exact mem_memNat e
theorem mem_onsOf {o : Oper} {j : Nat} : j ∈ onsOf o ↔ ∃ e ∈ o.after, Region.binds .any e = true ∧ e.on = j := by
  unfold onsOf
  have : ∀ l : List Edge, j ∈ onsGo l ↔ ∃ e ∈ l, Region.binds .any e = true ∧ e.on = j := by
    intro l
    induction l with
    | nil => simp [onsGo]
    | cons e r ih =>
      simp only [onsGo]
      split
      · rename_i h; simp only [List.mem_cons, ih, exists_eq_or_imp, h, true_and]
        exact or_congr ⟨fun h => h.symm, fun h => h.symm⟩ Iff.rfl
      · rename_i h; simp [ih, h]
  simpa using this o.after.toList
theorem aftOf_ons {ops : List Oper} {j : Nat} {o : Oper} (ho : ops[j]? = some o) : aftOf ops j = onsOf o := by
  unfold aftOf onsOf
  rw [ho]
  simp only
  generalize o.after.toList = l
  induction l with
  | nil => rfl
  | cons e r ih =>
    simp only [List.filterMap_cons, onsGo, ih]
    cases Region.binds .any e <;> rfl
theorem tblGo_get {full : List Row1} : ∀ {l : List Row1} {n k : Nat}, (tblGo full n l)[k]? = (l[k]?).map fun x => ⟨x.aft, freeGo (n + k) x 0 full⟩
  | [], n, k => by simp [tblGo]
  | x :: r, n, 0 => by simp [tblGo]
  | x :: r, n, k + 1 => by
    simp only [tblGo, List.getElem?_cons_succ]
    rw [tblGo_get (l := r)]
    rw [show n + 1 + k = n + (k + 1) by omega]
def row1 (all : List Oper) (o : Oper) : Row1 := ⟨onsOf o, o.dst, looksOf all o⟩
theorem opRows_get {all : List Oper} : ∀ {l : List Oper} {k : Nat}, (opRows all l)[k]? = (l[k]?).map (row1 all)
  | [], k => by simp [opRows]
  | x :: r, 0 => by simp [opRows, row1]
  | x :: r, k + 1 => by simp only [opRows, List.getElem?_cons_succ]; exact opRows_get
theorem tblOf_get {all : List Oper} {k : Nat} : (tblOf all)[k]? = (all[k]?).map fun o => ⟨onsOf o, freeGo k (row1 all o) 0 (opRows all all)⟩ := by
  unfold tblOf
  rw [tblGo_get, opRows_get, Option.map_map]
  simp only [Nat.zero_add]
  rfl
theorem aftT_eq {all : List Oper} {j : Nat} : aftT (tblOf all) j = aftOf all j := by
  unfold aftT
  rw [nth_eq, tblOf_get]
  cases h : all[j]? with
  | none => simp [aftOf, h]
  | some o => simp [aftOf_ons h]
theorem predsT_eq {all : List Oper} : ∀ {f : Nat} {l acc : List Nat}, predsT (tblOf all) f l acc = predsGo all f l acc
  | 0, _, _ => rfl
  | _ + 1, [], _ => rfl
  | f + 1, j :: r, acc => by
    simp only [predsT, predsGo, aftT_eq]
    cases memNat j acc
    · exact predsT_eq
    · exact predsT_eq
theorem allOn_iff {l : List Bool} : ∀ {r : List Nat}, allOn l r = true ↔ ∀ j ∈ r, l[j]? = some true
  | [] => by simp [allOn]
  | j :: r => by
    simp only [allOn, nth_eq]
    split
    · rename_i h; simp [h, allOn_iff (r := r)]
    · rename_i h
      constructor
      · intro hf; cases hf
      · intro hf; exact absurd (hf j (List.mem_cons_self ..)) h
theorem mem_readyT {full : List Bool} {i : Nat} : ∀ {n : Nat} {tb : List Row2} {l : List Bool}, i ∈ readyT full n tb l ↔ ∃ k x, i = n + k ∧ tb[k]? = some x ∧ l[k]? = some false ∧ allOn full x.aft = true
  | n, [], l => by simp [readyT]
  | n, x :: r, [] => by simp [readyT]
  | n, x :: r, b :: l => by
    have ih := mem_readyT (full := full) (i := i) (n := n + 1) (tb := r) (l := l)
    have hs : (∃ k y, i = n + k ∧ (x :: r)[k]? = some y ∧ (b :: l)[k]? = some false ∧ allOn full y.aft = true) ↔ (i = n ∧ b = false ∧ allOn full x.aft = true) ∨ ∃ k y, i = n + 1 + k ∧ r[k]? = some y ∧ l[k]? = some false ∧ allOn full y.aft = true := by
      constructor
      · rintro ⟨k, y, h1, h2, h3, h4⟩
        cases k with
        | zero => simp at h2 h3; subst h2; exact .inl ⟨h1, h3, h4⟩
        | succ k => exact .inr ⟨k, y, by omega, by simpa using h2, by simpa using h3, h4⟩
      · rintro (⟨h1, h2, h3⟩ | ⟨k, y, h1, h2, h3, h4⟩)
        · exact ⟨0, x, h1, rfl, by simp [h2], h3⟩
        · exact ⟨k + 1, y, by omega, by simpa using h2, by simpa using h3, h4⟩
    rw [hs, ← ih]
    simp only [readyT]
    cases b with
    | true => simp
    | false =>
      simp only
      split
      · rename_i h; simp [h]
      · rename_i h; simp [h]
theorem at_true {listed : Array Bool} {j : Nat} : listed.toList[j]? = some true ↔ listed.getD j false = true := by
  rw [Array.getD_eq_getD_getElem?, ← Array.getElem?_toList]
  cases listed.toList[j]? <;> simp
theorem at_false {listed : Array Bool} {j : Nat} : listed.toList[j]? = some false ↔ listed.getD j true = false := by
  rw [Array.getD_eq_getD_getElem?, ← Array.getElem?_toList]
  cases listed.toList[j]? <;> simp
theorem ready_one {all : List Oper} {listed : Array Bool} {i : Nat} {x : Row2} (h2 : (tblOf all)[i]? = some x) (h3 : listed.toList[i]? = some false) (h4 : allOn listed.toList x.aft = true) : i ∈ Region.ready .any all.toArray listed := by
  rw [mem_ready]
  rw [tblOf_get] at h2
  cases ho : all[i]? with
  | none => rw [ho] at h2; cases h2
  | some o =>
    rw [ho] at h2
    cases h2
    exact ⟨at_false.1 h3, o, by simpa using ho, fun e he hb => at_true.1 (allOn_iff.1 h4 _ (mem_onsOf.2 ⟨e, he, hb, rfl⟩))⟩
theorem ready_iff {all : List Oper} {listed : Array Bool} {i : Nat} : i ∈ readyT listed.toList 0 (tblOf all) listed.toList ↔ i ∈ Region.ready .any all.toArray listed := by
  rw [mem_readyT]
  constructor
  · rintro ⟨k, x, h1, h2, h3, h4⟩
    simp only [Nat.zero_add] at h1
    subst h1
    exact ready_one h2 h3 h4
  · intro h
    obtain ⟨h1, o, ho, hall⟩ := mem_ready.1 h
    have ho' : all[i]? = some o := by simpa using ho
    refine ⟨i, _, by omega, by rw [tblOf_get, ho']; rfl, at_false.2 h1, allOn_iff.2 fun j hj => ?_⟩
    obtain ⟨e, he, hb, rfl⟩ := mem_onsOf.1 hj
    exact at_true.2 (hall e he hb)
theorem readyT_nil {all : List Oper} {listed : Array Bool} (h : readyT listed.toList 0 (tblOf all) listed.toList = []) : Region.ready .any all.toArray listed = [] := by
  cases hr : Region.ready .any all.toArray listed with
  | nil => rfl
  | cons i r =>
    have : i ∈ readyT listed.toList 0 (tblOf all) listed.toList := ready_iff.2 (by rw [hr]; exact List.mem_cons_self ..)
    rw [h] at this; cases this
theorem mem_looksOf {all : List Oper} {o : Oper} {d : Nat} (h : d ∈ o.looksAt all.toArray) : d ∈ looksOf all o := by
  have ht : ∀ l : List Operand, d ∈ (l.filterMap fun | .tmp t => some t | _ => none) → d ∈ tmpsGo l := by
    intro l
    induction l with
    | nil => simp [tmpsGo]
    | cons x r ih =>
      intro h
      cases x <;> simp only [List.filterMap_cons, tmpsGo, List.mem_cons] at h ⊢ <;> first | exact ih h | exact h.imp id ih
  unfold Oper.looksAt at h
  unfold looksOf
  rcases List.mem_append.1 h with h | h
  · have h1 := ht _ h
    split
    · split
      · split
        · exact List.mem_cons_of_mem _ h1
        · exact h1
      · exact h1
    · exact h1
  · split at h
    · rename_i g b hg
      simp only [hg, nth_eq]
      simp only [List.getElem?_toArray, Option.mem_toList, Option.bind_eq_some_iff] at h
      obtain ⟨og, ho, hd⟩ := h
      rw [ho]
      simp only [hd]
      exact List.mem_cons_self ..
    · cases h
theorem apartT_apart {all : List Oper} {x y : Oper} (h : apartT (row1 all x) (row1 all y) = true) : x.apart all.toArray y = true := by
  unfold apartT row1 at h
  simp only at h
  unfold Oper.apart
  have hc : ∀ {d : Nat} {o : Oper}, memNat d (looksOf all o) = false → (o.looksAt all.toArray).contains d = false := by
    intro d o hf
    cases hb : (o.looksAt all.toArray).contains d with
    | false => rfl
    | true =>
      have hm : d ∈ o.looksAt all.toArray := by simpa using hb
      rw [mem_memNat (mem_looksOf hm)] at hf
      cases hf
  split at h
  · cases h
  rename_i h1
  rw [Bool.and_eq_true]
  constructor
  · cases hx : x.dst with
    | none => rfl
    | some d =>
      rw [hx] at h1
      simp only at h1 ⊢
      split at h1
      · cases h1
      rename_i hm
      rw [hc hm]
      cases hy : y.dst with
      | none => rfl
      | some e =>
        rw [hy] at h1
        simp only at h1
        split at h1
        · cases h1
        rename_i hb
        have hne : e ≠ d := Nat.ne_of_beq_eq_false hb
        simp [hne]
  · cases hy : y.dst with
    | none => rfl
    | some e =>
      rw [hy] at h
      simp only at h ⊢
      split at h
      · cases h
      rename_i hm
      rw [hc hm]; rfl
theorem freeGo_spec {i : Nat} {x : Row1} : ∀ {n : Nat} {l : List Row1}, freeGo i x n l = true → ∀ k y, l[k]? = some y → n + k ≠ i → memNat (n + k) x.aft = false → memNat i y.aft = false → apartT x y = true
  | n, [], _, k, y, h => by simp at h
  | n, z :: r, hf, k, y, h => by
    intro h1 h2 h3
    simp only [freeGo] at hf
    cases k with
    | zero =>
      simp only [List.getElem?_cons_zero, Option.some.injEq] at h
      subst h
      simp only [Nat.add_zero] at h1 h2
      have hb : Nat.beq n i = false := by
        cases hq : Nat.beq n i with
        | true => exact absurd (Nat.eq_of_beq_eq_true hq) h1
        | false => rfl
      rw [hb, h2, h3] at hf
      simp only at hf
      split at hf
      · assumption
      · cases hf
    | succ k =>
      have hr : freeGo i x (n + 1) r = true := by
        split at hf
        · exact hf
        · split at hf
          · exact hf
          · split at hf
            · exact hf
            · split at hf
              · exact hf
              · cases hf
      exact freeGo_spec hr k y (by simpa using h) (by omega) (by rw [show n + 1 + k = n + (k + 1) by omega]; exact h2) h3
theorem free_one {all : List Oper} {listed : Array Bool} {i : Nat} {x : Row2} (h2 : (tblOf all)[i]? = some x) (h4 : allOn listed.toList x.aft = true) (hf : x.fr = true) : Region.free .any all.toArray listed i = true := by
  rw [tblOf_get] at h2
  cases ho : all[i]? with
  | none => rw [ho] at h2; cases h2
  | some o =>
    rw [ho] at h2
    cases h2
    have ho' : all.toArray[i]? = some o := by simpa using ho
    unfold Region.free
    rw [ho']
    simp only [List.all_eq_true, List.mem_range]
    intro j hj
    cases hji : (j == i) with
    | true => rfl
    | false =>
      cases hl : listed.getD j true with
      | true => simp
      | false =>
        have hlt : j < all.length := by simpa using hj
        have hoj : all[j]? = some all[j] := List.getElem?_eq_getElem hlt
        have hoj' : all.toArray[j]? = some all[j] := by simpa using hoj
        rw [hoj']
        simp only [Bool.false_or]
        have h5 : memNat j (onsOf o) = false := by
          cases hm : memNat j (onsOf o) with
          | false => rfl
          | true =>
            have := allOn_iff.1 h4 j (memNat_mem hm)
            have h6 := at_false.2 hl
            rw [this] at h6; cases h6
        rw [Bool.or_eq_true]
        cases hm : memNat i (onsOf all[j]) with
        | true =>
          left
          obtain ⟨e, he, hb, hon⟩ := mem_onsOf.1 (memNat_mem hm)
          rw [Array.any_eq_true']
          exact ⟨e, he, by simp [hb, hon]⟩
        | false =>
          right
          have := freeGo_spec hf j (row1 all all[j]) (by rw [opRows_get, hoj]; rfl) (by simp only [Nat.zero_add]; simpa using hji) (by simp only [Nat.zero_add]; exact h5) hm
          exact apartT_apart this
theorem quickC_spec {all : List Oper} {st stk : St} {b : Nat} {pre : Option (List Nat)} {full : List Bool} {i : Nat} : ∀ {n : Nat} {os : List Oper} {tb : List Row2} {l : List Bool}, quickC alg T all st stk b pre full n os tb l = some i →
    ∃ k x, i = n + k ∧ tb[k]? = some x ∧ l[k]? = some false ∧ x.fr = true ∧ b ≠ i ∧ (∀ p, pre = some p → i ∈ p) ∧ allOn full x.aft = true
  | n, [], tb, l, h => by simp [quickC] at h
  | n, o :: os, [], l, h => by simp [quickC] at h
  | n, o :: os, x :: tb, [], h => by simp [quickC] at h
  | n, o :: os, x :: tb, d :: l, h => by
    have next : quickC alg T all st stk b pre full (n + 1) os tb l = some i → ∃ k y, i = n + k ∧ (x :: tb)[k]? = some y ∧ (d :: l)[k]? = some false ∧ y.fr = true ∧ b ≠ i ∧ (∀ p, pre = some p → i ∈ p) ∧ allOn full y.aft = true := by
      intro h
      obtain ⟨k, y, h1, h2, h3, h4⟩ := quickC_spec h
      exact ⟨k + 1, y, by omega, by simpa using h2, by simpa using h3, h4⟩
    simp only [quickC] at h
    split at h
    · exact next h
    split at h
    · exact next h
    rename_i hf
    split at h
    · exact next h
    rename_i hb
    split at h
    · exact next h
    rename_i hp
    split at h
    · exact next h
    rename_i ha
    split at h
    · cases h
      refine ⟨0, x, rfl, rfl, rfl, hf, fun e => by subst e; simp at hb, fun p e => ?_, ha⟩
      subst e
      exact memNat_mem hp
    · exact next h
theorem mixT_sound (hT : T.fits Pr) (h : Kept X S0 B0 qs os Cs) {hpr : List HO} (hl : hpr.length = B0.length) {cfg : Cfg} {all : List Oper} (hsel : Region.noSelect all.toArray = true) {k : St → Tree} {kq : C → St → Tree} {R : AEx → St → Prop} (hkq : ∀ c st, (kq c st).ok Pr Y G → R (.pan c) st) (hk : ∀ st, (k st).ok Pr Y G → R .normal st)
    {b : Nat} {pre : Option (List Nat)} (hpre : ∀ i, i < all.length → (∀ l, pre = some l → i ∈ l) → b ≠ i → Before all b i) {K : Nat → Array Bool → St → Tree}
    (hK : ∀ {n : Nat} {listed : Array Bool} {st : St} {a : Act} {w : World}, Clo all listed → (K n listed st).ok Pr Y G → Now X st a w → wpAny Pr .any all.toArray (MixQ X R) n listed a w) :
    ∀ {n : Nat} {listed : Array Bool} {st stk : St} {a : Act} {w : World}, Clo all listed → (mixT alg T cfg all (tblOf all) b pre qs os K kq k n listed st stk).ok Pr Y G → Now (Kept.ctx X S0 B0 Cs) st a w → stk.hp = putH qs os (gones hpr) → Env S0 B0 stk a →
      wpAnyB Pr all (MixQ X R) (Held S0 Cs) b n listed a w := by
  have whole : ∀ {st : St} {a : Act} {w : World}, Now (Kept.ctx X S0 B0 Cs) st a w → Now X { st with hp := putH qs os st.hp } a w := by
    intro st a w hn
    obtain ⟨S, K, hH, hE⟩ := hn
    obtain ⟨K', hb, hH2⟩ := h.merge hH
    exact ⟨S, K', hH2, by rw [hb]; exact ⟨hE.size, hE.defers, hE.slots⟩⟩
  have fin : ∀ {st : St} {a : Act} {w : World}, (k { st with hp := putH qs os st.hp }).ok Pr Y G → Now (Kept.ctx X S0 B0 Cs) st a w → MixQ X R .normal a w := by
    intro st a w hq hn
    obtain ⟨S, K, hH, hE⟩ := whole hn
    exact ⟨.normal, _, hk _ hq, S, K, hH, hE, trivial⟩
  intro n
  induction n with
  | zero =>
    intro listed st stk a w hc ht hn he hE
    exact hK hc ht (whole hn)
  | succ n ih =>
    intro listed st stk a w hc ht hn he hE
    simp only [mixT, forceA_eq, forceSt_eq, setA_eq, getA_eq] at ht
    split at ht
    · rename_i hb
      exact ⟨fun _ => hK hc ht (whole hn), fun h => (by rw [hb] at h; cases h)⟩
    rename_i hbf
    split at ht
    · rename_i hr
      have hr : Region.ready .any all.toArray listed = [] := by
        split at hr
        · cases hr
        · split at hr
          · rename_i h0; exact readyT_nil h0
          · cases hr
      exact ⟨fun h => (by rw [hbf] at h; cases h), fun _ => ⟨fun _ => fin ht hn, fun i hi => by rw [hr] at hi; cases hi⟩⟩
    · rename_i i hfc
      obtain ⟨hir, hfree, hil, hbi⟩ : i ∈ Region.ready .any all.toArray listed ∧ Region.free .any all.toArray listed i = true ∧ (∀ l, pre = some l → i ∈ l) ∧ b ≠ i := by
        split at hfc
        · rename_i j hq
          cases hfc
          obtain ⟨k, x, h1, h2, h3, h4, h5, h6, h7⟩ := quickC_spec hq
          simp only [Nat.zero_add] at h1
          subst h1
          exact ⟨ready_one h2 h3 h7, free_one h2 h7 h4, h6, h5⟩
        · split at hfc
          · cases hfc
          · rename_i hq
            obtain ⟨hir, hfree⟩ := firstCalm_some (Option.some.inj hfc)
            obtain ⟨hir, hil, hbi⟩ := amongN_mem hir
            exact ⟨ready_iff.1 hir, hfree, hil, hbi⟩
      split at ht
      · rename_i o ho
        rw [nth_eq] at ho
        have hlt := (List.getElem?_eq_some_iff.1 ho).1
        have hB := hpre i hlt hil hbi
        obtain ⟨st', hn', _, ⟨hw, h1⟩ | ⟨hw, h1⟩⟩ := guard_sound ht hn
        · obtain ⟨v, st2, stk2, hy, h2, h3, h4, h5⟩ := calmT_sound hT h hl h1 hn' he hE
          exact anyB_take (by simpa using ho) hB hc hsel hfree hir (fun c a w => mixQ_put _ _ _ _ _) (.inl ⟨hw, hy⟩) (Kept.held hn) (ih (clo_set hc hir) h2 h3 (h4.trans he) h5)
        · obtain ⟨S, K, hH, hE2⟩ := hn'
          exact anyB_take (by simpa using ho) hB hc hsel hfree hir (fun c a w => mixQ_put _ _ _ _ _) (.inr ⟨hw, rfl⟩) (Kept.held hn) (ih (clo_set hc hir) h1 (Now.put hH hE2 o.dst ⟨[], trivial, rfl⟩) ((put_hp _ _ _).trans he) (bad_put hE o.dst _))
      · exact ht.elim
    · rename_i hfc
      have hne : Region.ready .any all.toArray listed ≠ [] := by
        split at hfc
        · cases hfc
        · split at hfc
          · cases hfc
          · rename_i hne
            intro h0
            apply hne
            cases hq : readyT listed.toList 0 (tblOf all) listed.toList with
            | nil => rfl
            | cons j r =>
              have : j ∈ Region.ready .any all.toArray listed := ready_iff.1 (by rw [hq]; exact List.mem_cons_self ..)
              rw [h0] at this; cases this
      refine ⟨fun h => (by rw [hbf] at h; cases h), fun _ => ⟨fun h => absurd h hne, fun i hi => ?_⟩⟩
      have ht := loudAll_ok ht i (ready_iff.2 hi)
      split at ht
      · rename_i o ho
        rw [nth_eq] at ho
        have ho' : all.toArray[i]? = some o := by simpa using ho
        obtain ⟨st', hn', _, ⟨hw, h1⟩ | ⟨hw, h1⟩⟩ := guard_sound ht hn
        · unfold wpOp
          simp only [ho']
          rw [if_pos hw]
          refine .inl (OpOk.wp3 (vop_ok hT h1 hn') (fun st2 v w2 hR hN => ?_) fun c st2 v w2 hR hx => ?_)
          · exact ⟨Kept.held hN, ih (clo_set hc hi) hR hN ((put_hp _ _ _).trans he) (bad_put hE o.dst v)⟩
          · obtain ⟨S, K, hH, hE3, hm⟩ := hx
            obtain ⟨K', hb, hH2⟩ := h.merge hH
            exact ⟨c, _, hkq _ _ hR, rfl, S, K', v, hH2, by rw [hb]; exact ⟨hE3.size, hE3.defers, fun t d hd => by cases hd⟩, rfl, by rw [hb]; exact hm⟩
        · unfold wpOp
          simp only [ho']
          rw [if_neg (by rw [hw]; simp)]
          obtain ⟨S, K, hH, hE2⟩ := hn'
          have hN := Now.put hH hE2 o.dst (d := .tup []) (v := undef) ⟨[], trivial, rfl⟩
          exact ⟨Kept.held hN, ih (clo_set hc hi) h1 hN ((put_hp _ _ _).trans he) (bad_put hE o.dst _)⟩
      · exact ht.elim

theorem openEach_sound {tI : List Nat} : ∀ {l : List Nat} {st : St}, Now X st a w → Now X (openEach tI l st) a w
  | [], st, h => h
  | t :: r, st, h => by
    simp only [openEach]
    split
    · split
      · exact openEach_sound h
      · exact openEach_sound (openFor_sound h)
    · exact openEach_sound h
theorem openMoved_sound {tI : List Nat} : ∀ {l : List Oper} {st : St}, Now X st a w → Now X (openMoved tI l st) a w
  | [], st, h => h
  | o :: r, st, h => openMoved_sound (l := r) (openEach_sound h)

theorem mixP_sound (hT : T.fits Pr) {cfg : Cfg} {all : List Oper} (hsel : Region.noSelect all.toArray = true) {k : St → Tree} {kq : C → St → Tree} {R : AEx → St → Prop} (hkq : ∀ c st, (kq c st).ok Pr Y G → R (.pan c) st) (hk : ∀ st, (k st).ok Pr Y G → R .normal st) {gs : List Nat} :
    ∀ {m n : Nat} {listed : Array Bool} {st : St} {a : Act} {w : World}, Clo all listed → (mixP alg T cfg all (tblOf all) gs kq k m n listed st).ok Pr Y G → Now X st a w → wpAny Pr .any all.toArray (MixQ X R) n listed a w := by
  intro m
  induction m with
  | zero => intro n listed st a w _ ht; exact ht.elim
  | succ m ih =>
    intro n listed st a w hc ht hn
    simp only [mixP, forceA_eq, forceN_eq, forceP_eq, forceOs_eq, forceSt_eq, forceNs_eq] at ht
    split at ht
    · rename_i hr
      have hr := readyT_nil hr
      have hQ : MixQ X R .normal a w := by
        obtain ⟨S, K, hH, hE⟩ := hn
        exact ⟨.normal, _, hk _ ht, S, K, hH, hE, trivial⟩
      cases n with
      | zero => exact ⟨hr, hQ⟩
      | succ n => exact ⟨fun _ => hQ, fun i hi => by rw [hr] at hi; cases hi⟩
    generalize nextBar (tblOf all) all.length listed gs = b at ht
    have hpre : ∀ i, i < all.length → (∀ l, preOf (tblOf all) all.length b = some l → i ∈ l) → b ≠ i → Before all b i := by
      intro i hi hl hne
      unfold preOf at hl
      simp only [forceNs_eq] at hl
      cases hb : Nat.blt b all.length with
      | true => rw [hb] at hl; exact before_preds hne (by have := hl _ rfl; rw [aftT_eq, predsT_eq] at this; exact this)
      | false => exact before_end (by have : ¬ b < all.length := (by rw [← Nat.blt_eq, hb]; simp); omega) hi
    generalize preOf (tblOf all) all.length b = pre at ht hpre
    generalize takeOps pre b 0 listed.toList all = ops at ht
    have hn0 : Now X (openPre gs ops st) a w := by
      unfold openPre
      split
      · exact hn
      · exact openMoved_sound hn
    generalize openPre gs ops st = st0 at ht hn0
    have hn1 := openMoved_sound (tI := seenBy T ops st0) (l := ops) hn0
    generalize openMoved (seenBy T ops st0) ops st0 = st1 at ht hn1
    generalize keepOf (seenBy T ops st0) 0 st1.hp = qs at ht
    split at ht
    · rename_i os hpr hto
      obtain ⟨S, K, hH, hE⟩ := hn1
      obtain ⟨Cs, K', h1, h2, h3, h4, h5, h6, h7⟩ := takeOut_sound hto rfl hH.2.2.1 hH.2.2.2
      have hkept : Kept X S (K.map CO.base) qs os Cs := ⟨hH.1, hH.2.1, h4, h5, h6, h7⟩
      have hN : Now (Kept.ctx X S (K.map CO.base) Cs) { st1 with hp := hpr } a w := ⟨S, K', ⟨Frz.le.refl S, by rw [h1]; exact Ext.refl _, by rw [h1]; exact h2, h3⟩, by rw [h1]; exact ⟨hE.size, hE.defers, hE.slots⟩⟩
      have hl : hpr.length = (K.map CO.base).length := by rw [← h1, List.length_map]; exact h2.1
      exact wpAny_of_B _ _ _ _ (mixT_sound hT hkept hl hsel hkq hk hpre (fun hc ht hn => ih hc ht hn) hc ht hN rfl ⟨hE.size, hE.defers, hE.slots⟩)
    · exact ht.elim
theorem mix_sound (hT : T.fits Pr) (hm : Pr.follows .mixedOrders = true) {cfg : Cfg} {id : Nat} {all : List Oper} {k : St → Tree} {st : St} {kq : C → St → Tree} {R : AEx → St → Prop} (hkq : ∀ c st, (kq c st).ok Pr Y G → R (.pan c) st) (hk : ∀ st, (k st).ok Pr Y G → R .normal st) (ht : (mix alg T cfg all kq k st).ok Pr Y G) (hn : Now X st a w) :
    (Code.region id all.toArray true).wp Pr (Post X R) a w := by
  unfold mix at ht
  split at ht
  case h_2 => exact ht.elim
  rename_i hsel
  simp only [forceT_eq, forceNs_eq] at ht
  have hfl : (⟨falses all⟩ : Array Bool) = Array.replicate all.length false := by
    have : ∀ l : List Oper, falses l = List.replicate l.length false := by
      intro l
      induction l with
      | nil => rfl
      | cons o r ih => simp only [falses, ih, List.length_cons, List.replicate_succ]
    rw [this]; simp
  rw [hfl] at ht
  have hn1 : Now X st a w.drew := by
    obtain ⟨S, K, hH, hE⟩ := hn
    exact ⟨S, K, ⟨hH.1, hH.2.1, hH.2.2.1, hH.2.2.2.drew⟩, hE⟩
  refine wp_mono (Q := MixQ X R) (wp_region_any hm ?_) fun e a' w' he => ?_
  · simpa using mixP_sound hT hsel hkq hk (clo_none all) ht hn1
  · cases e with
    | panic ch =>
      obtain ⟨c, st', h1, _, S, K, v, h3, h4, h5, h6⟩ := he
      exact ⟨.pan c, st', h1, S, K, h3, h4, v, h5, h6⟩
    | normal => exact he
    | _ => exact he.elim
end

theorem Now.drew {st : St} (hn : Now X st a w) : Now X st a w.drew := by
  obtain ⟨S, K, hH, hE⟩ := hn
  exact ⟨S, K, ⟨hH.1, hH.2.1, hH.2.2.1, hH.2.2.2.drew⟩, hE⟩

theorem tidy_look {ks : List Nat} : ∀ {e : List (Nat × D)} {t : Nat} {d : D}, look (keepIn ks e) t = some d → look e t = some d
  | [], t, d, h => h
  | (s, d0) :: r, t, d, h => by
    simp only [keepIn] at h
    rw [look_cons]
    split at h
    · rw [look_cons] at h
      split
      · rename_i hst; rw [if_pos hst] at h; exact h
      · rename_i hst; rw [if_neg hst] at h; exact tidy_look h
    · rename_i hm
      have h1 := tidy_look h
      split
      · rename_i hst
        subst hst
        exfalso
        clear h1
        induction r with
        | nil => cases h
        | cons p r ih =>
          obtain ⟨s', d'⟩ := p
          simp only [keepIn] at h
          split at h
          · rename_i hm2
            rw [look_cons] at h
            split at h
            · rename_i e; subst e; rw [hm] at hm2; cases hm2
            · exact ih h
          · exact ih h
      · exact h1
theorem Now.tidy {st : St} (hn : Now X st a w) (ks : Option (List Nat)) : Now X (st.tidy ks) a w := by
  cases ks with
  | none => exact hn
  | some l => obtain ⟨S, K, hH, hE⟩ := hn; exact ⟨S, K, hH, hE.size, hE.defers, fun t d hd => hE.slots t d (tidy_look hd)⟩
theorem regT_sound (hT : T.fits Pr) (hm : Pr.follows .mixedOrders = true) {cfg : Cfg} {id : Nat} {ops : Array Oper} {draw : Bool} {K : AEx → St → Tree} {st : St}
    (h : (regT alg T cfg ops draw K st).ok Pr X G) (hn : Now X st a w) : (Code.region id ops draw).wp Pr (Post X fun e st' => (K e st').ok Pr X G) a w := by
  cases draw with
  | false => exact wp_region_list (by simpa using vops_sound hT (R := fun e st' => (K e st').ok Pr X G) (fun _ h => h) (fun _ _ h => h) h hn)
  | true =>
    obtain ⟨l, rfl⟩ : ∃ l : List Oper, ops = l.toArray := ⟨ops.toList, by simp⟩
    simp only [regT, List.toList_toArray] at h
    split at h
    · exact mix_sound hT hm (R := fun e st' => (K e st').ok Pr X G) (fun _ _ h => h) (fun _ h => h) h hn
    rename_i hB
    refine wp_region_still_tail (quietLen T l) hm hB ?_
    rw [takeN_eq, dropN_eq] at h
    exact vquiet_sound hT (fun st2 a2 h2 hn2 => vops_sound hT (R := fun e st' => (K e st').ok Pr X G) (fun _ h => h) (fun _ _ h => h) h2 hn2) h hn.drew
theorem vc_sound (hT : T.fits Pr) (hm : Pr.follows .mixedOrders = true) {cfg : Cfg} : ∀ {c : Code} {K : AEx → St → Tree} {st : St} {a : Act} {w : World},
    (vc alg T cfg c K st).ok Pr X G → Now X st a w → c.wp Pr (Post X fun e st' => (K e st').ok Pr X G) a w := by
  intro c
  induction c with
  | skip => intro K st a w h ⟨S, L, hH, hE⟩; exact wp_skip ⟨.normal, st, h, S, L, hH, hE, trivial⟩
  | region id ops draw =>
    intro K st a w h hn
    simp only [vc] at h
    split at h
    · obtain ⟨S, L, hH, hE⟩ := hn.tidy cfg.keep; exact h S L a w hH hE
    · exact regT_sound hT hm h (hn.tidy cfg.keep)
  | seq x y ihx ihy =>
    intro K st a w h hn
    refine wp_seq (wp_mono (ihx h hn) fun e a' w' hq => ?_)
    obtain ⟨e', st', h1, S, L, hH, hE, hem⟩ := hq
    cases e with
    | normal => cases e' with
      | normal => exact ihy h1 ⟨S, L, hH, hE⟩
      | exit i => exact hem.elim
      | ret => exact hem.elim
      | pan c => exact hem.elim
    | exit i => cases e' with
      | exit j => exact ⟨.exit j, st', h1, S, L, hH, hE, hem⟩
      | normal => exact hem.elim
      | ret => exact hem.elim
      | pan c => exact hem.elim
    | goto l => cases e' <;> exact hem.elim
    | ret => cases e' with
      | ret => exact ⟨.ret, st', h1, S, L, hH, hE, hem⟩
      | normal => exact hem.elim
      | exit j => exact hem.elim
      | pan c => exact hem.elim
    | panic ch => cases e' with
      | pan c => exact ⟨.pan c, st', h1, S, L, hH, hE, hem⟩
      | normal => exact hem.elim
      | exit j => exact hem.elim
      | ret => exact hem.elim
    | outgrown => cases e' <;> exact hem.elim
  | cond c t e iht ihe =>
    intro K st a w h hn
    obtain ⟨st', h1, h2, _⟩ := resolve_sound h hn
    split at h1
    · rename_i hc
      obtain ⟨S, L, hH, hE⟩ := h2
      have hm := (hH.sit hT hE).one hc
      generalize hv : a.eval c = v at hm
      cases hm
      exact wp_cond_true hv (iht h1 ⟨S, L, hH, hE⟩)
    · rename_i hc
      obtain ⟨S, L, hH, hE⟩ := h2
      have hm := (hH.sit hT hE).one hc
      generalize hv : a.eval c = v at hm
      cases hm
      exact wp_cond_false hv (ihe h1 ⟨S, L, hH, hE⟩)
    · exact h1.elim
  | block id b ih =>
    intro K st a w h hn
    refine wp_block (wp_mono (ih h hn) fun e a' w' hq => ?_)
    obtain ⟨e', st', h1, S, L, hH, hE, hem⟩ := hq
    cases e with
    | normal => cases e' with
      | normal => exact ⟨.normal, st', h1, S, L, hH, hE, trivial⟩
      | exit i => exact hem.elim
      | ret => exact hem.elim
      | pan c => exact hem.elim
    | exit i => cases e' with
      | exit j =>
        have hem : i = j := hem
        subst hem
        simp only [Exit.inBlock]
        have h1 : (match Nat.beq i id with | true => K .normal st' | false => K (.exit i) st').ok Pr X G := h1
        split at h1
        · rename_i hb
          have hb := Nat.eq_of_beq_eq_true hb
          rw [if_pos hb]
          exact ⟨.normal, st', h1, S, L, hH, hE, trivial⟩
        · rename_i hb
          rw [if_neg (fun e => by subst e; rw [Nat.beq_refl] at hb; cases hb)]
          exact ⟨.exit i, st', h1, S, L, hH, hE, rfl⟩
      | normal => exact hem.elim
      | ret => exact hem.elim
      | pan c => exact hem.elim
    | goto l => cases e' <;> exact hem.elim
    | ret => cases e' with
      | ret => exact ⟨.ret, st', h1, S, L, hH, hE, hem⟩
      | normal => exact hem.elim
      | exit j => exact hem.elim
      | pan c => exact hem.elim
    | panic ch => cases e' with
      | pan c => exact ⟨.pan c, st', h1, S, L, hH, hE, hem⟩
      | normal => exact hem.elim
      | exit j => exact hem.elim
      | ret => exact hem.elim
    | outgrown => cases e' <;> exact hem.elim
  | loop b _ => intro K st a w h hn; obtain ⟨S, L, hH, hE⟩ := hn.tidy cfg.keep; exact h S L a w hH hE
  | exit id => intro K st a w h ⟨S, L, hH, hE⟩; exact wp_exit ⟨.exit id, st, h, S, L, hH, hE, rfl⟩
  | ret => intro K st a w h ⟨S, L, hH, hE⟩; exact wp_ret ⟨.ret, st, h, S, L, hH, hE, trivial⟩
  | _ => intro K st a w h _; exact h.elim
end
end Go.Ab
