/- An abstract machine for the walks (part 12): functions from their beginning to their end; loops. -/
import Derived.Test.YtjapkdcomcgamaaGreatDoorAbK
set_option linter.all false
namespace Go.Ab
open Go Go.Sep
variable [Facts]

def fresh : List Nat → List Nat → List Nat
  | seen, [] => seen
  | seen, k :: ks => match memN k seen with | true => fresh seen ks | false => fresh (seen ++ [k]) ks
def normV : V0 → V0
  | .one c => .one (normC c)
  | .agg cs => .agg (cs.map normC)
def AOut.refs : AOut → List Nat
  | .ret d => refsD d
  | .pan c => refsC [c]
def AOut.ren (f : Nat → Option Nat) : AOut → AOut
  | .ret d => .ret (d.ren f)
  | .pan c => .pan (c.ren f)
/-- The end: the objects that count, in the order of the contract. -/
def finT (sl : List SlE) (k0 : Nat) (o : AOut) (st : St) : Tree :=
  let st1 := shutAll sl (upto 0 k0 ++ o.refs) st
  let q := fresh (upto 0 k0) o.refs
  match takeOut q st1.hp with
  | some (os, _) => .fin (o.ren fun x => idx x q 0) (os.map (HO.ren fun x => idx x q 0))
  | none => .stop 13
/-- A slot that holds pure data: its rows are frozen. -/
def slotPure (I : Alg) (T : Tab) (t ty : Nat) (st : St) : St :=
  match look st.env t with
  | some d =>
    let st1 := freezeAll I (rowsD d) st
    match look st1.env t, T ty with
    | some (.v (.one c)), some ⟨_, _, _, some z, _⟩ => (match pureAll z [c] with | some [p] => st1.put (some t) (.v (.one (.p p))) | _ => st1)
    | some (.v (.agg cs)), some ⟨_, _, _, some z, _⟩ => (match pureAll z cs with | some ps => st1.put (some t) (.v (.agg (ps.map C.p))) | _ => st1)
    | _, _ => st1
  | none => st
def isAggD : Option D → Bool
  | some (.v (.agg _)) => true
  | _ => false
def preRes (I : Alg) (T : Tab) (rl : List Nat) : Nat → List ResultVar → List Nat → St → St
  | i, .tmp t :: r, ty :: tys, st => preRes I T rl (i + 1) r tys (match memN i rl, isAggD (look st.env t) with | false, false => slotRow T t ty st | _, _ => slotPure I T t ty st)
  | i, .cell _ _ :: r, _ :: tys, st => preRes I T rl (i + 1) r tys st
  | _, _, _, st => st
def retT (I : Alg) (T : Tab) (sl : List SlE) (k0 : Nat) : List ResultVar → List V0 → St → Tree
  | [], acc, st => finT sl k0 (.ret (match acc with | [x] => .v x | l => .tup l)) st
  | .tmp t :: r, acc, st => match look st.env t with
    | some (.v x) => retT I T sl k0 r (acc ++ [normV x]) st
    | _ => .stop 14
  | .cell t ty :: r, acc, st =>
    (qop I T (openFor st (.tmp t)) (.load ty (.tmp t))).tree fun d0 =>
      let st1 := freezeAll I (rowsD d0) (openFor st (.tmp t))
      (qop I T st1 (.load ty (.tmp t))).tree fun d => match d, T ty with
        | .v (.agg cs), some ⟨_, _, _, some z, _⟩ => (match pureAll z cs with
          | some ps => retT I T sl k0 r (acc ++ [.agg ((ps.map C.p).map normC)]) st1
          | none => .stop 15)
        | .v x, _ => retT I T sl k0 r (acc ++ [normV x]) st1
        | _, _ => .stop 18
def renE (f : Nat → Option Nat) : List (Nat × D) → List (Nat × D)
  | [] => []
  | (t, d) :: r => (t, d.ren f) :: renE f r
def mvF (k n : Nat) (i : Nat) : Option Nat := match Nat.beq i k with | true => some n | false => some i
/-- A row that came in gets a number of this call's own. -/
def moveRow (k : Nat) (st : St) : St :=
  match nth st.hp k with
  | some (.row u E l) => { st with env := renE (mvF k st.hp.length) st.env, hp := setN (st.hp.map (HO.ren (mvF k st.hp.length))) k .gone ++ [.row u E l] }
  | _ => st
def moveAll : List Nat → St → St
  | [], st => st
  | k :: ks, st => moveAll ks (moveRow k st)
def finK0 (I : Alg) (T : Tab) (cfg : Cfg) (k0 : Nat) (fn : Func) : AEx → St → Tree
  | .normal, st => retT I T cfg.fsl k0 fn.results.toList [] (preRes I T cfg.rl 0 fn.results.toList fn.resultTypes.toList (moveAll cfg.mv st))
  | .ret, st => retT I T cfg.fsl k0 fn.results.toList [] (preRes I T cfg.rl 0 fn.results.toList fn.resultTypes.toList (moveAll cfg.mv st))
  | .pan c, st => finT cfg.fsl k0 (.pan c) st
  | .exit _, _ => .stop 16
def finK (I : Alg) (T : Tab) (cfg : Cfg) (k0 : Nat) (fn : Func) (e : AEx) (st : St) : Tree :=
  match st.df with
  | none => finK0 I T cfg k0 fn e st
  | some _ => .stop 90
def envOf : Nat → List D → List (Nat × D)
  | _, [] => []
  | n, d :: ds => (n, d) :: envOf (n + 1) ds
/-- A function: what is to be shown of it. -/
def funT (I : Alg) (T : Tab) (cfg : Cfg) (fn : Func) (args : List D) (hp : List HO) : Tree :=
  match fn.body with
  | some c => vc I T cfg c (finK I T cfg hp.length fn) { env := envOf 0 args, hp := hp, n := fn.ntmps }
  | none => .stop 17

/-- A state, cut down to some slots and to what hangs on them. -/
def lookAll (env : List (Nat × D)) : List Nat → Option (List (Nat × D))
  | [] => some []
  | t :: ts => match look env t, lookAll env ts with | some d, some r => some ((t, d) :: r) | _, _ => none
def normE : List (Nat × D) → List (Nat × D)
  | [] => []
  | (t, d) :: r => (t, normD d) :: normE r
def St.cut (sl : List SlE) (k0 : Nat) (dom : List Nat) (st : St) : Option St :=
  match (match st.df with | none => lookAll st.env dom | some _ => none) with
  | none => none
  | some e =>
    let st1 := shutAll sl (upto 0 k0 ++ refsE e) st
    let q := fresh (upto 0 k0) (refsE e)
    match takeOut q st1.hp with
    | some (os, _) => some { env := renE (fun x => idx x q 0) (normE e), hp := os.map (HO.ren fun x => idx x q 0), n := st.n }
    | none => none

section
variable {Pr : Program} {T : Tab} {X : Ctx} {G : AOut → List HO → Prop} {a : Act} {w : World}

theorem upto_get : ∀ (m n k : Nat), k < m → (upto n m)[k]? = some (n + k)
  | m + 1, n, 0, _ => by simp [upto]
  | m + 1, n, k + 1, h => by
    simp only [upto, List.getElem?_cons_succ]
    rw [upto_get m (n + 1) k (by omega)]
    congr 1; omega
theorem fresh_prefix : ∀ (ks seen : List Nat), ∃ r, fresh seen ks = seen ++ r
  | [], seen => ⟨[], by simp [fresh]⟩
  | k :: ks, seen => by
    simp only [fresh]
    split
    · exact fresh_prefix ks seen
    · obtain ⟨r, h⟩ := fresh_prefix ks (seen ++ [k])
      exact ⟨k :: r, by rw [h]; simp⟩
theorem upto_length : ∀ (m n : Nat), (upto n m).length = m
  | 0, _ => rfl
  | m + 1, n => by simp [upto, upto_length m]
theorem fresh_get {k0 k : Nat} {ks : List Nat} (h : k < k0) : (fresh (upto 0 k0) ks)[k]? = some k := by
  obtain ⟨r, hr⟩ := fresh_prefix ks (upto 0 k0)
  rw [hr, List.getElem?_append_left (by rw [upto_length]; exact h), upto_get k0 0 k h]
  simp

/-- The objects of a list taken out stand by themselves. -/
theorem pick_out {st : St} {q : List Nat} {os hpr : List HO} {k0 : Nat} (hk : X.bs0.length = k0) (hq : ∀ k, k < k0 → q[k]? = some k) (ht : takeOut q st.hp = some (os, hpr)) {S : Frz} {K : List CO} (hH : Heap X st.hp S K w) :
    ∃ Cs, Heap X (os.map (HO.ren fun x => idx x q 0)) S Cs w ∧ ∀ (i j : Nat) (v : Value), idx i q 0 = some j → (K.map CO.base)[i]? = some v → (Cs.map CO.base)[j]? = some v := by
  obtain ⟨Cs, K', h1, h2, h3, h4, h5, h6, h7⟩ := takeOut_sound ht rfl hH.2.2.1 hH.2.2.2
  have hf : ∀ (i j : Nat) (v : Value), idx i q 0 = some j → (K.map CO.base)[i]? = some v → (Cs.map CO.base)[j]? = some v := by
    intro i j v e1 e2
    obtain ⟨_, e3⟩ := idx_get e1
    simp only [Nat.sub_zero] at e3
    have hjl : j < Cs.length := by rw [h4, h5]; exact (List.getElem?_eq_some_iff.1 e3).1
    have := h6 j i _ e3 (List.getElem?_eq_getElem hjl)
    rw [e2] at this
    cases this
    rw [List.getElem?_map, List.getElem?_eq_getElem hjl]; rfl
  refine ⟨Cs, ⟨hH.1, fun k v hv => ?_, ?_, ?_⟩, hf⟩
  · have hk2 : k < k0 := by rw [← hk]; exact (List.getElem?_eq_some_iff.1 hv).1
    have hqk := hq k hk2
    have hkl : k < Cs.length := by rw [h4, h5]; exact (List.getElem?_eq_some_iff.1 hqk).1
    have := h6 k k _ hqk (List.getElem?_eq_getElem hkl)
    rw [hH.2.1 k v hv] at this
    cases this
    rw [List.getElem?_map, List.getElem?_eq_getElem hkl]; rfl
  · refine ⟨by simp [h4], fun i o c e1 e2 => ?_⟩
    rw [List.getElem?_map, Option.map_eq_some_iff] at e1
    obtain ⟨o', e3, rfl⟩ := e1
    exact HO.ren_sound (fun i j v e4 e5 => hf i j v e4 e5) (h7 i o' c e3 e2)
  · obtain ⟨F, A, B, e, dj, hfz, hrest⟩ := h3
    obtain ⟨A2, B2, e2, dj2, _, hr2⟩ := sep_append.1 hrest
    exact ⟨fun k => A k ∨ B2 k, A, B2, fun _ => Iff.rfl, fun k hA hB => dj k hA ((e2 k).2 (.inr hB)), hfz, hr2⟩

theorem normV_sound {S : Frz} {bs : List Value} {x : V0} {v : Value} (h : MV S bs x v) : MV S bs (normV x) v := by
  cases x with
  | one c => exact normC_sound _ _ h
  | agg cs => obtain ⟨vs, h1, h2⟩ := h; exact ⟨vs, h1.map normC_sound, h2⟩
theorem MVs.snoc {S : Frz} {bs : List Value} : ∀ {l : List V0} {vs : List Value} {x : V0} {v : Value}, MVs S bs l vs → MV S bs x v → MVs S bs (l ++ [x]) (vs ++ [v])
  | [], [], _, _, _, h => ⟨h, trivial⟩
  | _ :: _, _ :: _, _, _, h, k => ⟨h.1, MVs.snoc h.2 k⟩
theorem MVs.length {S : Frz} {bs : List Value} : ∀ {l : List V0} {vs : List Value}, MVs S bs l vs → vs.length = l.length
  | [], [], _ => rfl
  | _ :: _, _ :: _, h => congrArg (· + 1) (MVs.length h.2)

/-- What a function that ends here comes to. -/
def Ends (X : Ctx) (G : AOut → List HO → Prop) (w : World) (e : Ending) : Prop := ∃ o hp S K, G o hp ∧ Heap X hp S K w ∧ EOut S (K.map CO.base) o e

theorem shutAll_heap {sl : List SlE} {st : St} (ks : List Nat) {S : Frz} {K : List CO} (hH : Heap X st.hp S K w) (hE : Env S (K.map CO.base) st a) :
    ∃ K', Ext (K.map CO.base) (K'.map CO.base) ∧ Heap X (shutAll sl ks st).hp S K' w ∧ Env S (K'.map CO.base) (shutAll sl ks st) a := by
  induction ks generalizing st K with
  | nil => exact ⟨K, Ext.refl _, hH, hE⟩
  | cons k ks ih =>
    obtain ⟨K1, h1, h2, h3⟩ := shut_sound (sl := sl) hH hE k
    obtain ⟨K2, h4, h5, h6⟩ := ih h2 h3
    exact ⟨K2, h1.trans h4, h5, h6⟩
theorem EOut.mono {S S' : Frz} (hle : S.le S') {bs bs' : List Value} (he : Ext bs bs') {o : AOut} {e : Ending} (h : EOut S bs o e) : EOut S' bs' o e := by
  cases o with
  | ret d => cases e with
    | returned v => exact MD.mono hle he h
    | panicked ch => exact h.elim
    | outgrown => exact h.elim
  | pan c => cases e with
    | returned v => exact h.elim
    | panicked ch => obtain ⟨v, h1, h2⟩ := h; exact ⟨v, h1, h2.mono hle he⟩
    | outgrown => exact h.elim

theorem slotPure_sound {t ty : Nat} {st : St} {S : Frz} {K : List CO} (hH : Heap X st.hp S K w) (hE : Env S (K.map CO.base) st a) : ∃ S' K', Heap X (slotPure alg T t ty st).hp S' K' w ∧ Env S' (K'.map CO.base) (slotPure alg T t ty st) a := by
  unfold slotPure
  split
  · rename_i d hd
    obtain ⟨S1, K1, _, _, h3, h4⟩ := freezeAll_sound hH hE (rowsD d)
    simp only
    split
    · rename_i c e1 e2 e3 z e4 hl hT
      split
      · rename_i p hp
        refine ⟨S1, K1, by rw [put_hp]; exact h3, h4.note t ?_⟩
        exact (pureAll_sound hp (vs := [a.tmps.getD t undef]) ⟨h4.slots t _ hl, trivial⟩).1
      · exact ⟨S1, K1, h3, h4⟩
    · rename_i cs e1 e2 e3 z e4 hl hT
      split
      · rename_i ps hp
        refine ⟨S1, K1, by rw [put_hp]; exact h3, h4.note t ?_⟩
        obtain ⟨vs, h5, h6⟩ := h4.slots t _ hl
        exact ⟨vs, (pureAll_sound hp h5).mcs, h6⟩
      · exact ⟨S1, K1, h3, h4⟩
    · exact ⟨S1, K1, h3, h4⟩
  · exact ⟨S, K, hH, hE⟩
theorem preRes_sound {rl : List Nat} : ∀ {rs : List ResultVar} {tys : List Nat} {i : Nat} {st : St} {S : Frz} {K : List CO}, Heap X st.hp S K w → Env S (K.map CO.base) st a → ∃ S' K', Heap X (preRes alg T rl i rs tys st).hp S' K' w ∧ Env S' (K'.map CO.base) (preRes alg T rl i rs tys st) a
  | [], tys, i, st, S, K, hH, hE => ⟨S, K, by unfold preRes; exact hH, by unfold preRes; exact hE⟩
  | .tmp t :: r, [], i, st, S, K, hH, hE => ⟨S, K, by unfold preRes; exact hH, by unfold preRes; exact hE⟩
  | .cell t ty :: r, [], i, st, S, K, hH, hE => ⟨S, K, by unfold preRes; exact hH, by unfold preRes; exact hE⟩
  | .cell t ty :: r, ty' :: tys, i, st, S, K, hH, hE => by
    unfold preRes; exact preRes_sound hH hE
  | .tmp t :: r, ty :: tys, i, st, S, K, hH, hE => by
    unfold preRes
    split
    · obtain ⟨K', h1, h2⟩ := slotRow_sound (T := T) (t := t) (ty := ty) hH hE; exact preRes_sound h1 h2
    · obtain ⟨S', K', h1, h2⟩ := slotPure_sound (T := T) (t := t) (ty := ty) hH hE; exact preRes_sound h1 h2

theorem finT_sound {sl : List SlE} {k0 : Nat} (hk : X.bs0.length = k0) {o : AOut} {st : St} (h : (finT sl k0 o st).ok Pr X G) {S : Frz} {K : List CO} (hH : Heap X st.hp S K w) (hE : Env S (K.map CO.base) st a) {e : Ending} (he : EOut S (K.map CO.base) o e) : Ends X G w e := by
  unfold finT at h
  simp only at h
  obtain ⟨K1, hb, hH1, hE1⟩ := shutAll_heap (sl := sl) (upto 0 k0 ++ o.refs) hH hE
  split at h
  · rename_i os hpr ht
    obtain ⟨Cs, hH2, hf⟩ := pick_out hk (fun k hk2 => fresh_get hk2) ht hH1
    refine ⟨_, _, S, Cs, h, hH2, ?_⟩
    have he := he.mono (Frz.le.refl S) hb
    cases o with
    | ret d => cases e with
      | returned v => exact D.ren_sound hf d v he
      | panicked ch => exact he.elim
      | outgrown => exact he.elim
    | pan c => cases e with
      | returned v => exact he.elim
      | panicked ch => obtain ⟨v, h1, h2⟩ := he; exact ⟨v, h1, C.ren_sound hf c v h2⟩
      | outgrown => exact he.elim
  · exact h.elim

/-- One result variable. -/
def resultOf (tmps : Array Value) : ResultVar → Sem Value
  | .tmp t => pure (tmps.getD t undef)
  | .cell a t => do loadVar t (← asAddr (tmps.getD a undef))

theorem retT_sound (hT : T.fits Pr) {sl : List SlE} {k0 : Nat} (hk : X.bs0.length = k0) : ∀ {rs : List ResultVar} {acc : List V0} {st : St} {us : List Value}, (retT alg T sl k0 rs acc st).ok Pr X G →
    (∃ S K, Heap X st.hp S K w ∧ Env S (K.map CO.base) st a ∧ MVs S (K.map CO.base) acc us) →
    ∃ vs : List Value, (rs.mapM (resultOf a.tmps)).run Pr w = .ok vs w ∧ Ends X G w (.returned (if h : (us ++ vs).toArray.size = 1 then (us ++ vs).toArray[0] else .tuple (us ++ vs).toArray))
  | [], acc, st, us, h, ⟨S, K, hH, hE, hm⟩ => by
    refine ⟨[], rfl, ?_⟩
    simp only [List.append_nil]
    unfold retT at h
    refine finT_sound hk h hH hE ?_
    have hl := hm.length
    split
    · rename_i x
      cases us with
      | nil => exact hm.elim
      | cons u us => cases us with
        | nil => exact hm.1
        | cons _ _ => exact hm.2.elim
    · rename_i hne
      rw [dif_neg]
      · exact ⟨us, hm, rfl⟩
      · intro h1
        have h2 : us.length = 1 := by simpa using h1
        rw [hl] at h2
        cases acc with
        | nil => cases h2
        | cons x acc => cases acc with
          | nil => exact hne x rfl
          | cons _ _ => simp at h2
  | .tmp t :: r, acc, st, us, h, ⟨S, K, hH, hE, hm⟩ => by
    unfold retT at h
    split at h
    · rename_i x hx
      obtain ⟨vs, h1, h2⟩ := retT_sound hT hk (us := us ++ [a.tmps.getD t undef]) h ⟨S, K, hH, hE, hm.snoc (normV_sound (hE.slots t _ hx))⟩
      refine ⟨a.tmps.getD t undef :: vs, ?_, ?_⟩
      · simp only [List.mapM_cons, resultOf, Sem.run_bind, Sem.run_pure, Result.andThen_ok, h1]
      · simpa [List.append_assoc] using h2
    · exact h.elim
  | .cell t ty :: r, acc, st, us, h, ⟨S, K, hH, hE, hm⟩ => by
    unfold retT at h
    have hop : ∃ K', Ext (K.map CO.base) (K'.map CO.base) ∧ Heap X (openFor st (.tmp t)).hp S K' w ∧ Env S (K'.map CO.base) (openFor st (.tmp t)) a := by
      unfold openFor
      split
      · split
        · exact open_sound hH hE _
        · exact open_sound hH hE _
        · exact ⟨K, Ext.refl _, hH, hE⟩
      · exact ⟨K, Ext.refl _, hH, hE⟩
    obtain ⟨K1, hex, hH1, hE1⟩ := hop
    have hq0 := QR.tree_ok h
    obtain ⟨v0, d0, _, _, hq1⟩ := qop_sound (hH1.sit hT hE1) ⟨none, .load ty (.tmp t), 0, "", #[], none⟩ (W := fun w' => w' = w) (fun _ => Sit.cls (by first | exact hH1.sit hT hE1 | exact hH2.sit hT hE2)) _ hq0
    simp only at hq1
    obtain ⟨S2, K2, hle2, hbs2, hH2, hE2⟩ := freezeAll_sound hH1 hE1 (rowsD d0)
    have hm2 : MVs S2 (K2.map CO.base) acc us := by rw [hbs2]; exact (hm.mono (Frz.le.refl S) hex).mono hle2 (Ext.refl _)
    have hq := QR.tree_ok hq1
    obtain ⟨v, d, hy, hmd, hk2⟩ := qop_sound (hH2.sit hT hE2) ⟨none, .load ty (.tmp t), 0, "", #[], none⟩ (W := fun w' => w' = w) (fun _ => Sit.cls (by first | exact hH1.sit hT hE1 | exact hH2.sit hT hE2)) _ hq
    have hl : (resultOf a.tmps (.cell t ty)).run Pr w = .ok v w := by
      have hy := hy _ rfl
      simp only [execOp, Instr.loadAt, Act.eval, Sem.run_bind] at hy
      simp only [resultOf, Sem.run_bind]
      cases hp : a.tmps.getD t undef with
      | pointer p => cases p with
        | none => rw [hp] at hy; simp [Instr.sureAddr] at hy
        | some p =>
          rw [hp] at hy
          simp only [Instr.sureAddr, Sem.run_pure, Result.andThen_ok] at hy
          simp only [asAddr, Sem.run_pure, Result.andThen_ok]
          cases hq : (loadVar ty p).run Pr w with
          | ok u w1 => rw [hq] at hy; simp at hy; rw [hy.1, hy.2]
          | halt q w1 => rw [hq] at hy; cases hy
      | _ => rw [hp] at hy; simp [Instr.sureAddr] at hy
    split at hk2
    · rename_i cs e1 e2 e3 z e4 hTy
      split at hk2
      · rename_i ps hps
        obtain ⟨ws, h5, rfl⟩ := hmd
        obtain ⟨vs, h1, h2⟩ := retT_sound hT hk (us := us ++ [.agg ws.toArray]) hk2 ⟨S2, K2, hH2, hE2, hm2.snoc ⟨ws, ((pureAll_sound hps h5).mcs).map normC_sound, rfl⟩⟩
        refine ⟨.agg ws.toArray :: vs, ?_, ?_⟩
        · simp only [List.mapM_cons, hl, Sem.run_bind, Sem.run_pure, Result.andThen_ok, h1]
        · simpa [List.append_assoc] using h2
      · exact hk2.elim
    · rename_i x _ _
      obtain ⟨vs, h1, h2⟩ := retT_sound hT hk (us := us ++ [v]) hk2 ⟨S2, K2, hH2, hE2, hm2.snoc (normV_sound hmd)⟩
      refine ⟨v :: vs, ?_, ?_⟩
      · simp only [List.mapM_cons, hl, Sem.run_bind, Sem.run_pure, Result.andThen_ok, h1]
      · simpa [List.append_assoc] using h2
    · exact hk2.elim

theorem look_envOf {S : Frz} {bs : List Value} : ∀ {args : List D} {vs : List Value} {n t : Nat} {d : D}, MDs S bs args vs → look (envOf n args) t = some d → n ≤ t ∧ ∃ v, vs[t - n]? = some v ∧ MD S bs d v
  | [], [], n, t, d, _, h => by cases h
  | x :: args, v :: vs, n, t, d, hm, h => by
    simp only [envOf, look_cons] at h
    split at h
    · rename_i ht; cases h; subst ht; exact ⟨Nat.le_refl _, v, by simp, hm.1⟩
    · rename_i ht
      obtain ⟨h1, v', h2, h3⟩ := look_envOf hm.2 h
      refine ⟨by omega, v', ?_, h3⟩
      rw [show t - n = (t - (n + 1)) + 1 by omega]
      simpa using h2
theorem MDs.length {S : Frz} {bs : List Value} : ∀ {l : List D} {vs : List Value}, MDs S bs l vs → vs.length = l.length
  | [], [], _ => rfl
  | _ :: _, _ :: _, h => congrArg (· + 1) (MDs.length h.2)

theorem look_renE {f : Nat → Option Nat} : ∀ {e : List (Nat × D)} {t : Nat} {d : D}, look (renE f e) t = some d → ∃ d', look e t = some d' ∧ d = d'.ren f
  | [], t, d, h => by cases h
  | (s, d0) :: r, t, d, h => by
    simp only [renE] at h
    rw [look_cons] at h ⊢
    split at h
    · rename_i hs; cases h; exact ⟨d0, by rw [if_pos hs], rfl⟩
    · rename_i hs; obtain ⟨d', h1, h2⟩ := look_renE h; exact ⟨d', by rw [if_neg hs]; exact h1, h2⟩
theorem perm_front3 (q a : Chunk) (p r : List Chunk) (c : Chunk) (fr : List Chunk) : (q :: a :: ((p ++ c :: r) ++ fr)).Perm (c :: a :: ((p ++ q :: r) ++ fr)) := by
  have h1 : (q :: a :: ((p ++ c :: r) ++ fr)).Perm (q :: c :: a :: ((p ++ r) ++ fr)) := List.Perm.cons _ (perm_front a p r c fr)
  have h2 : (c :: a :: ((p ++ q :: r) ++ fr)).Perm (c :: q :: a :: ((p ++ r) ++ fr)) := List.Perm.cons _ (perm_front a p r q fr)
  exact (h1.trans (List.Perm.swap _ _ _)).trans h2.symm
theorem moveRow_sound {st : St} {S : Frz} {K : List CO} (hH : Heap X st.hp S K w) (hE : Env S (K.map CO.base) st a) (k : Nat) :
    ∃ K', Heap X (moveRow k st).hp S K' w ∧ Env S (K'.map CO.base) (moveRow k st) a := by
  obtain ⟨h1, h2, h3, h4⟩ := hH
  unfold moveRow
  split
  · rename_i u E l ho
    rw [nth_eq] at ho
    obtain ⟨c, hc, hr⟩ := h3.get ho
    have hbk := base_get hc
    obtain ⟨p, r, hp1, hp2, hp3⟩ := set_split hc
    have hbs : (K.set k (.gone c.base)).map CO.base = K.map CO.base := bases_set hc rfl
    have hb : ((K.set k (.gone c.base)) ++ [c]).map CO.base = K.map CO.base ++ [c.base] := by rw [List.map_append, hbs]; rfl
    have hlen : st.hp.length = (K.map CO.base).length := by rw [h3.1, List.length_map]
    have hf : ∀ (i j : Nat) (v : Value), mvF k st.hp.length i = some j → (K.map CO.base)[i]? = some v → (K.map CO.base ++ [c.base])[j]? = some v := by
      intro i j v e1 e2
      unfold mvF at e1
      split at e1
      · rename_i hik
        have := Nat.eq_of_beq_eq_true hik
        subst this
        cases e1
        rw [hbk] at e2
        cases e2
        rw [hlen, List.getElem?_append_right (Nat.le_refl _)]
        simp
      · cases e1
        rw [List.getElem?_append_left (List.getElem?_eq_some_iff.1 e2).1]; exact e2
    refine ⟨(K.set k (.gone c.base)) ++ [c], ⟨h1, ?_, ?_, ?_⟩, ?_⟩
    · rw [hb]; exact h2.trans (Ext.append _ _)
    · rw [hb]
      have hext : Ext (K.map CO.base) (K.map CO.base ++ [c.base]) := Ext.append _ _
      refine HR.push ?_ (hr.mono (Frz.le.refl S) hext)
      rw [setN_eq]
      refine HR.set ⟨by simp [h3.1], fun i o' c' e1 e2 => ?_⟩ k .gone
      rw [List.getElem?_map, Option.map_eq_some_iff] at e1
      obtain ⟨o0, e3, rfl⟩ := e1
      exact HO.ren_sound hf (h3.2 i o0 c' e3 e2)
    · have H := h4
      rw [hp1, chunkL_append] at H
      have H := (At.void H).perm (perm_front3 _ _ _ _ _ _)
      refine At.more ?_
      rw [hp3, chunkL_append]
      exact H
    · rw [hb]
      refine ⟨hE.size, hE.defers.mono (Frz.le.refl S) (Ext.append _ _), fun t d hd => ?_⟩
      obtain ⟨d', h5, rfl⟩ := look_renE hd
      exact D.ren_sound hf _ _ (hE.slots t d' h5)
  · exact ⟨K, ⟨h1, h2, h3, h4⟩, hE⟩

theorem moveAll_sound {S : Frz} : ∀ (ks : List Nat) {st : St} {K : List CO}, Heap X st.hp S K w → Env S (K.map CO.base) st a → ∃ K', Heap X (moveAll ks st).hp S K' w ∧ Env S (K'.map CO.base) (moveAll ks st) a
  | [], st, K, hH, hE => ⟨K, hH, hE⟩
  | k :: ks, st, K, hH, hE => by
    obtain ⟨K1, h1, h2⟩ := moveRow_sound hH hE k
    exact moveAll_sound ks h1 h2

/-- How a function's body ends, by its tree. -/
theorem fin_ok (hT : T.fits Pr) {fn : Func} {cfg : Cfg} {k0 : Nat} (hk0 : X.bs0.length = k0) {e : Exit} {e' : AEx} {st' : St} {S' : Frz} {K' : List CO} {out : AOut} {hp' : List HO}
    (hk : (finK0 alg T cfg k0 fn e' st').ok Pr X (fun o h => o = out ∧ h = hp')) (hH : Heap X st'.hp S' K' w) (hE : Env S' (K'.map CO.base) st' a) (hem : EM S' (K'.map CO.base) e e') :
    match e with
    | .normal | .ret => ∃ v, (results fn a.tmps).run Pr w = .ok v w ∧ ∃ S' K', X.S0.le S' ∧ Ext X.bs0 (K'.map CO.base) ∧ HR S' (K'.map CO.base) hp' K' ∧ At w (frzC S' :: (CO.chunkL K' ++ X.fr)) ∧ EOut S' (K'.map CO.base) out (.returned v)
    | .panic ch => ∃ S' K', X.S0.le S' ∧ Ext X.bs0 (K'.map CO.base) ∧ HR S' (K'.map CO.base) hp' K' ∧ At w (frzC S' :: (CO.chunkL K' ++ X.fr)) ∧ EOut S' (K'.map CO.base) out (.panicked ch)
    | _ => False := by
  have fin : ∀ {rs}, rs = fn.results.toList → (retT alg T cfg.fsl k0 rs [] (preRes alg T cfg.rl 0 fn.results.toList fn.resultTypes.toList (moveAll cfg.mv st'))).ok Pr X (fun o h => o = out ∧ h = hp') → ∃ v, (results fn a.tmps).run Pr w = .ok v w ∧ ∃ S' K', X.S0.le S' ∧ Ext X.bs0 (K'.map CO.base) ∧ HR S' (K'.map CO.base) hp' K' ∧ At w (frzC S' :: (CO.chunkL K' ++ X.fr)) ∧ EOut S' (K'.map CO.base) out (.returned v) := by
    intro rs hrs hret
    obtain ⟨K9, hH, hE⟩ := moveAll_sound cfg.mv hH hE
    obtain ⟨S3, K3, hH3, hE3⟩ := preRes_sound (T := T) (rl := cfg.rl) (i := 0) (rs := fn.results.toList) (tys := fn.resultTypes.toList) hH hE
    obtain ⟨us, h1, o, hp2, S2, K2, ⟨rfl, rfl⟩, hH2, heo⟩ := retT_sound hT (k0 := k0) hk0 (us := []) hret ⟨S3, K3, hH3, hE3, trivial⟩
    simp only [List.nil_append] at heo
    refine ⟨_, ?_, S2, K2, hH2.1, hH2.2.1, hH2.2.2.1, hH2.2.2.2, heo⟩
    subst hrs
    have key : results fn a.tmps = (do let vs ← fn.results.mapM (resultOf a.tmps); pure (if h : vs.size = 1 then vs[0] else .tuple vs)) := by
      unfold results
      congr 1
    rw [key, Array.mapM_eq_mapM_toList]
    simp only [Sem.run_bind, Sem.run_map, h1, Result.andThen_ok, Sem.run_pure]
  cases e with
  | normal => cases e' with
    | normal => exact fin rfl hk
    | exit j => exact hem.elim
    | ret => exact hem.elim
    | pan c => exact hem.elim
  | ret => cases e' with
    | ret => exact fin rfl hk
    | normal => exact hem.elim
    | exit j => exact hem.elim
    | pan c => exact hem.elim
  | panic ch => cases e' with
    | pan c =>
      obtain ⟨o, hp2, S2, K2, ⟨rfl, rfl⟩, hH2, heo⟩ := finT_sound (k0 := k0) hk0 hk hH hE (e := .panicked ch) (o := .pan c) hem
      exact ⟨S2, K2, hH2.1, hH2.2.1, hH2.2.2.1, hH2.2.2.2, heo⟩
    | normal => exact hem.elim
    | exit j => exact hem.elim
    | ret => exact hem.elim
  | exit i => cases e' with
    | exit j => exact hk.elim
    | normal => exact hem.elim
    | ret => exact hem.elim
    | pan c => exact hem.elim
  | goto l => cases e' <;> exact hem.elim
  | outgrown => cases e' <;> exact hem.elim
/-- The contract of a function, by its tree. -/
theorem spec_intro (hT : T.fits Pr) (hm : Pr.follows .mixedOrders = true) {f : Nat} {fn : Func} (hf : Pr.funcs[f]? = some fn) (hn : (fn.name == "runtime.NumGoroutine") = false) {cfg : Cfg} {args : List D} {hp : List HO} {out : AOut} {hp' : List HO}
    (hsome : fn.body.isSome = true) (hle : Nat.ble args.length fn.ntmps = true) (h : ∀ (I : Alg) (X : Ctx), I = alg → X.bs0.length = hp.length → (funT I T cfg fn args hp).ok Pr X fun o h => o = out ∧ h = hp') : Spc Pr f args hp out hp' := by
  have hbody : ∃ c, fn.body = some c := Option.isSome_iff_exists.1 hsome
  obtain ⟨c, hc⟩ := hbody
  refine ⟨⟨fn, hf, hn, by rw [hc]; rfl⟩, fun S K fr w vs hHR hargs hat => ?_⟩
  have hX := h alg ⟨S, K.map CO.base, fr⟩ rfl (by simp [hHR.1])
  unfold funT at hX
  rw [hc] at hX
  have hal := hargs.length
  have hle := Nat.le_of_ble_eq_true hle
  refine calls_of_wp hf hc (wp_mono (vc_sound hT hm hX (X := ⟨S, K.map CO.base, fr⟩) ⟨S, K, ⟨Frz.le.refl S, Ext.refl _, hHR, hat⟩, ⟨?_, rfl, fun t d hd => ?_⟩⟩) fun e a w' hq => ?_)
  · simp [hal]; omega
  · obtain ⟨_, v, h1, h2⟩ := look_envOf hargs hd
    simp only [Nat.sub_zero] at h1
    have hlt := (List.getElem?_eq_some_iff.1 h1).1
    have e : (vs.toArray ++ Array.replicate (fn.ntmps - vs.toArray.size) undef).getD t undef = v := by
      rw [Array.getD_eq_getD_getElem?, Array.getElem?_append_left (by simpa using hlt)]
      simp [h1]
    rw [e]; exact h2
  · obtain ⟨e', st', hk, S', K', hH, hE, hem⟩ := hq
    unfold finK at hk
    split at hk
    case h_2 => exact hk.elim
    rename_i hdf
    have hd : a.defers = [] := by have := hE.defers; rw [hdf] at this; exact this
    have hfin := fin_ok (X := ⟨S, K.map CO.base, fr⟩) hT (by simp [hHR.1]) hk hH hE hem
    cases e with
    | normal => exact ⟨hd, hfin⟩
    | ret => exact ⟨hd, hfin⟩
    | panic ch => exact ⟨hd, hfin⟩
    | exit i => exact hfin.elim
    | goto l => exact hfin.elim
    | outgrown => exact hfin.elim
end
end Go.Ab
