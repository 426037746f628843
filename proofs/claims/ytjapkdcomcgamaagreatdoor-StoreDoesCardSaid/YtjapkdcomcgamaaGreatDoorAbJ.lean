/- An abstract machine for the walks (part 10): code, as a tree of what must be shown. -/
import Derived.Test.YtjapkdcomcgamaaGreatDoorAbI
set_option linter.all false
namespace Go.Ab
open Go Go.Sep
variable [Facts]

def refsC : List C → List Nat
  | [] => []
  | .fn _ caps :: cs => capPtrs caps ++ refsC cs
  | .ptr k _ :: cs => k :: refsC cs
  | .row k :: cs => k :: refsC cs
  | .sub _ k _ _ :: cs => k :: refsC cs
  | .ept _ k _ _ :: cs => k :: refsC cs
  | _ :: cs => refsC cs
def refsV : V0 → List Nat
  | .one c => refsC [c]
  | .agg cs => refsC cs
def refsVs : List V0 → List Nat
  | [] => []
  | v :: vs => refsV v ++ refsVs vs
def refsD : D → List Nat
  | .v x => refsV x
  | .tup l => refsVs l
  | .bad => []
def refsE : List (Nat × D) → List Nat
  | [] => []
  | (_, d) :: r => refsD d ++ refsE r
def upto : Nat → Nat → List Nat
  | _, 0 => []
  | n, m + 1 => n :: upto (n + 1) m

inductive AOut where
  | ret (d : D)
  | pan (c : C)
inductive AEx where
  | normal
  | exit (id : Nat)
  | ret
  | pan (c : C)

def MDs (S : Frz) (bs : List Value) : List D → List Value → Prop
  | [], [] => True
  | d :: ds, v :: vs => MD S bs d v ∧ MDs S bs ds vs
  | _, _ => False
def EOut (S : Frz) (bs : List Value) : AOut → Ending → Prop
  | .ret d, .returned v => MD S bs d v
  | .pan c, .panicked ch => ∃ v, ch = [{ v := v, recovered := false }] ∧ MC S bs c v
  | _, _ => False

/-- A contract: from these arguments and objects to this end and these objects. -/
def Spc (Pr : Program) (f : Nat) (args : List D) (hp : List HO) (out : AOut) (hp' : List HO) : Prop :=
  (∃ fn, Pr.funcs[f]? = some fn ∧ (fn.name == "runtime.NumGoroutine") = false ∧ fn.body.isNone = false) ∧
  ∀ (S : Frz) (K : List CO) (fr : List Chunk) (w : World) (vs : List Value), HR S (K.map CO.base) hp K → MDs S (K.map CO.base) args vs → At w (frzC S :: (CO.chunkL K ++ fr)) →
    Calls Pr f vs.toArray w fun e w' => ∃ S' K', S.le S' ∧ Ext (K.map CO.base) (K'.map CO.base) ∧ HR S' (K'.map CO.base) hp' K' ∧ At w' (frzC S' :: (CO.chunkL K' ++ fr)) ∧ EOut S' (K'.map CO.base) out e

/-- What is to be shown. -/
inductive Tree where
  | need (p : Prop) (t : Tree)
  | br (b : Bool) (t f : Tree)
  | call (f : Nat) (args : List D) (hp : List HO) (k : AOut → List HO → Tree)
  | code (c : Code) (st : St) (k : AEx → St → Tree)
  | fin (o : AOut) (hp : List HO)
  | both (t f : Tree)
  | qed
  | stop (why : Nat)

def EM (S : Frz) (bs : List Value) : Exit → AEx → Prop
  | .normal, .normal => True
  | .exit i, .exit j => i = j
  | .ret, .ret => True
  | .panic ch, .pan c => ∃ v, ch = [{ v := v, recovered := false }] ∧ MC S bs c v
  | _, _ => False

/-- The end of a piece of code, R what is owed there. -/
def Post (X : Ctx) (R : AEx → St → Prop) : Exit → Act → World → Prop := fun e a w =>
  ∃ e' st', R e' st' ∧ ∃ S K, Heap X st'.hp S K w ∧ Env S (K.map CO.base) st' a ∧ EM S (K.map CO.base) e e'

def Tree.ok (Pr : Program) (X : Ctx) (G : AOut → List HO → Prop) : Tree → Prop
  | .need p t => p ∧ t.ok Pr X G
  | .br b t f => (b = true → t.ok Pr X G) ∧ (b = false → f.ok Pr X G)
  | .call f args hp k => ∃ out hp', Spc Pr f args hp out hp' ∧ (k out hp').ok Pr X G
  | .code c st k => ∀ S K a w, Heap X st.hp S K w → Env S (K.map CO.base) st a → c.wp Pr (Post X fun e st' => (k e st').ok Pr X G) a w
  | .fin o hp => G o hp
  | .both t f => t.ok Pr X G ∧ f.ok Pr X G
  | .qed => True
  | .stop _ => False

def QR.tree : QR → (D → Tree) → Tree
  | .ok d, k => k d
  | .need p r, k => .need p (r.tree k)
  | .br b t f, k => .br b (t.tree k) (f.tree k)
  | .both t f, k => .both (t.tree k) (f.tree k)
  | .no, _ => .stop 0
def LR.tree : LR → (D → St → Tree) → Tree
  | .ok d st, k => k d st
  | .need p r, k => .need p (r.tree k)
  | .no, _ => .stop 1

def tt : D := .v (.one (.p (.val (.bool true))))
def ff : D := .v (.one (.p (.val (.bool false))))
/-- A test is parted on, once. -/
def resolve (st : St) (x : Operand) (k : St → Tree) : Tree :=
  match x with
  | .tmp t => match look st.env t with
    | some (.v (.one (.p (.bool b)))) => .br b (k (st.put (some t) tt)) (k (st.put (some t) ff))
    | _ => k st
  | _ => k st
def openFor (st : St) (x : Operand) : St :=
  match oneC (st.eval x) with
  | some (.ptr k _) => match nth st.hp k with
    | some (.pack _) => st.open1 k
    | some (.abs _) => st.open1 k
    | _ => st
  | _ => st

structure Cfg where
  /-- functions whose slices are handed over for good -/
  fz : List Nat := []
  /-- functions that are handed nil as a row of their own -/
  own : List Nat := []
  /-- functions that are handed nil as it is -/
  nils : List Nat := []
  /-- functions that are handed their objects taken apart -/
  bare : List Nat := []
  /-- functions that are lent the rows of structs that they are handed -/
  lend : List Nat := []
  /-- the objects stay taken apart -/
  flat : Bool := false
  /-- slices in objects -/
  sl : List SlE := []
  /-- results that are slices which never turn -/
  rl : List Nat := []
  /-- slots in which nil is a row of nothing -/
  nr : List Nat := []
  /-- slots that outlast a region -/
  keep : Option (List Nat) := none
  /-- rows that came in and are let go: they get a number of this call's own -/
  mv : List Nat := []
  /-- slots that hold what an append makes of a row that is read on -/
  fork : List Nat := []
  /-- slots whose part of a row, from its beginning, becomes the row -/
  cut : List Nat := []
  /-- regions ahead of which the walk stands still -/
  seam : List Nat := []
  /-- sums may run over -/
  wrp : Bool := false
  /-- arrays of bytes that are rows -/
  arr : List Nat := []
  /-- types whose new objects are packs of their own at once -/
  inn : List Nat := []
def keepIn (ks : List Nat) : List (Nat × D) → List (Nat × D)
  | [] => []
  | (t, d) :: r => match memN t ks with | true => (t, d) :: keepIn ks r | false => keepIn ks r
def St.tidy (ks : Option (List Nat)) (st : St) : St :=
  match ks with
  | none => st
  | some l => { st with env := keepIn l st.env }

def ptrsOf : D → List Nat
  | .v (.one (.ptr k _)) => [k]
  | .v (.one (.fn _ caps)) => capPtrs caps
  | _ => []
def shutAll (sl : List SlE) : List Nat → St → St
  | [], st => st
  | k :: ks, st => shutAll sl ks (st.shut sl k)
def normD : D → D
  | .v (.one c) => .v (.one (normC c))
  | .v (.agg cs) => .v (.agg (cs.map normC))
  | d => d
def evalAll (st : St) : List Operand → Option (List D)
  | [] => some []
  | x :: xs => match st.eval x, evalAll st xs with | some d, some ds => some (normD d :: ds) | _, _ => none
def mixC (z : P) (c : C) : Option C := match purC z c with | some p => some (.p p) | none => match c with | .row k => some (.row k) | .sub u k lo hi => some (.sub u k lo hi) | _ => none
def mixAll : List P → List C → Option (List C)
  | [], [] => some []
  | z :: zs, c :: cs => match mixC z c, mixAll zs cs with | some d, some ds => some (d :: ds) | _, _ => none
  | _, _ => none
/-- The arguments of a call, nil made a list or a row. -/
def argsOf (T : Tab) (own : Option Bool) : List D → List Nat → List HO → Option (List D × List HO)
  | [], _, hp => some ([], hp)
  | d :: ds, ty :: tys, hp => match d with
    | .v (.one .nilS) => (match own with
      | none => (match argsOf T own ds tys hp with | some (r, hp') => some (.v (.one .nilS) :: r, hp') | none => none)
      | some ow => (match T ty with
        | some ⟨.slice E, _, _, _, some u⟩ => (match ow with
          | true => (match argsOf T own ds tys (hp ++ [.row u E []]) with | some (r, hp') => some (.v (.one (.row hp.length)) :: r, hp') | none => none)
          | false => (match argsOf T own ds tys hp with | some (r, hp') => some (.v (.one (.p (.list u []))) :: r, hp') | none => none))
        | _ => none))
    | .v (.agg cs) => (match T ty with
      | some ⟨_, _, _, some z, _⟩ => (match mixAll z cs, argsOf T own ds tys hp with | some ps, some (r, hp') => some (.v (.agg ps) :: r, hp') | _, _ => none)
      | _ => none)
    | d => (match argsOf T own ds tys hp with | some (r, hp') => some (d :: r, hp') | none => none)
  | _ :: _, [], _ => none
def rowsD : D → List Nat
  | .v (.one c) => rowsIn [c]
  | .v (.agg cs) => rowsIn cs
  | _ => []
def Cap.cell : Cap → C
  | .p x => .p x
  | .ptr k off => .ptr k off
def dP (c : Cap) : D := .v (.one c.cell)

def aggRows : D → List Nat
  | .v (.agg cs) => rowsIn cs
  | _ => []
def frzFor (I : Alg) (cfg : Cfg) (g : Nat) (ds : List D) (st : St) : St := match memN g cfg.fz with | true => freezeAll I (ds.flatMap rowsD) st | false => match memN g cfg.lend with | true => st | false => freezeAll I (ds.flatMap aggRows) st
def Cfg.fsl (cfg : Cfg) : List SlE := match cfg.flat with | true => rawSl | false => cfg.sl
def callSl (cfg : Cfg) (g : Nat) : List SlE := match memN g cfg.bare with | true => rawSl | false => cfg.sl
def callT (I : Alg) (T : Tab) (cfg : Cfg) (kp : C → St → Tree) (o : Oper) (f : Operand) (xs : List Operand) (tys : List Nat) (st : St) (k : St → Tree) : Tree :=
  match st.eval f, evalAll st xs with
  | some (.v (.one (.fn g caps))), some ds =>
    let st2 := shutAll (callSl cfg g) ((ds ++ [D.v (.one (.fn g caps))]).flatMap ptrsOf) (frzFor I cfg g ds st)
    match evalAll st2 xs, st2.eval f with
    | some ds2, some (.v (.one (.fn g2 caps2))) => (match argsOf T (match memN g cfg.nils with | true => none | false => some (memN g cfg.own)) ds2 tys st2.hp with
      | some (ds3, hp3) => .call g2 (ds3 ++ caps2.map dP) hp3 fun out hp' => match out with
        | .ret d => k ({ st2 with hp := hp' }.put o.dst d)
        | .pan c => kp c { st2 with hp := hp' }
      | none => .stop 20)
    | _, _ => .stop 2
  | _, _ => .stop 3

/-- A slot that holds nil: as a row of nothing. -/
def slotRow (T : Tab) (t ty : Nat) (st : St) : St :=
  match look st.env t, T ty with
  | some (.v (.one .nilS)), some ⟨.slice E, _, _, _, some u⟩ => St.put { st with hp := st.hp ++ [HO.row u E []] } (some t) (.v (.one (.row st.hp.length)))
  | _, _ => st
def nilRow (T : Tab) (nr : List Nat) (o : Oper) (st : St) : St :=
  match o.dst with
  | some t => (match memN t nr with | true => slotRow T t o.type st | false => st)
  | none => st
/-- A slot that holds the beginning of a row: that is the row from here on. -/
def cutSlot (I : Alg) (cut : List Nat) (x : Option Nat) (st : St) (k : St → Tree) : Tree :=
  match x with
  | none => k st
  | some t => match memN t cut with
    | false => k st
    | true => match look st.env t with
      | some (.v (.one (.sub u j lo hi))) => (match nth st.hp j with
        | some (.row u' E l) => (match castL u u' l with
          | some l' => .need (I.same lo 0) (k (St.put { st with hp := setN st.hp j .gone ++ [.row u E (I.cut l' 0 hi)] } (some t) (.v (.one (.row st.hp.length)))))
          | none => .stop 70)
        | _ => .stop 71)
      | _ => k st
def tmpOf : Operand → Option Nat
  | .tmp t => some t
  | _ => none
def capsOf (st : St) : List Operand → Option (List Cap)
  | [] => some []
  | x :: xs => match oneC (st.eval x), capsOf st xs with | some (.p p), some ps => some (.p p :: ps) | some (.ptr k off), some ps => some (.ptr k off :: ps) | _, _ => none

/-- A sum that may run over. -/
def wrapQ (I : Alg) (st : St) (x y : Operand) : QR :=
  match oneC (st.eval x), oneC (st.eval y) with
  | some (.p (.int k a)), some (.p (.int k' b)) => (match kindB k k' with | true => okp (.int k (I.wrap k (I.add a b))) | false => .no)
  | _, _ => .no

/-- A new object is a pack of its own. -/
def innBox (cfg : Cfg) (t k : Nat) (st : St) : St := match memN t cfg.inn with | true => shutAll cfg.sl [k] st | false => st
def vop (I : Alg) (T : Tab) (cfg : Cfg) (kp : C → St → Tree) (o : Oper) (st : St) (k : St → Tree) : Tree :=
  match o.op with
  | .pick c a b => resolve st c fun st => (qop I T st (.pick c a b)).tree fun d => k (st.put o.dst d)
  | .load t x => (qop I T (openFor st x) (.load t x)).tree fun d => k ((openFor st x).put o.dst d)
  | .assign x => (qop I T st (.assign x)).tree fun d => cutSlot I cfg.cut o.dst (nilRow T cfg.nr o (st.put o.dst d)) k
  | .store t x v => cutSlot I cfg.cut (tmpOf v) (openFor st x) fun st1 => (lop I T st1 (.store t x v)).tree fun _ st' => k (st'.put o.dst (.tup []))
  | .alloc t => match memN t cfg.arr with
    | true => (arrL I T st t).tree fun d st' => k (st'.put o.dst d)
    | false => (lop I T st (.alloc t)).tree fun d st' => k (st'.put o.dst d)
  | .box t x => (lop I T st (.box t x)).tree fun d st' => k (innBox cfg t st.hp.length (st'.put o.dst d))
  | .buildSlice t n ps => (lop I T st (.buildSlice t n ps)).tree fun d st' => k (st'.put o.dst d)
  | .makeSlice t x y => (lop I T st (.makeSlice t x y)).tree fun d st' => k (st'.put o.dst d)
  | .convert s d x => match T d with
    | some ⟨.slice _, _, _, _, _⟩ => (lop I T st (.convert s d x)).tree fun d st' => k (st'.put o.dst d)
    | _ => (qop I T st (.convert s d x)).tree fun d => k (st.put o.dst d)
  | .makeFunc fn first captured => match fn, first.toList, capsOf st captured.toList with
    | .func f, [], some ps => k (st.put o.dst (.v (.one (.fn f ps))))
    | _, _, _ => .stop 4
  | .panic x => match oneC (st.eval x) with
    | some (.ifc t b ps) => kp (.ifc t b ps) st
    | _ => .stop 5
  | .call c => match c.callee with
    | .builtin .append => (match (match o.dst with | some t => memN t cfg.fork | none => false) with
      | false => (lop I T st (.call c)).tree fun d st' => k (st'.put o.dst d)
      | true => (match c.args.toList, c.argTypes.toList with
        | [s, x], [t, u] => (match forkL I T st t u s x with
          | some (p, stA, stB) => .need p (.both (k (stA.put o.dst (.v (.one (.row st.hp.length))))) (k (stB.put o.dst (.v (.one (.row st.hp.length))))))
          | none => .stop 60)
        | _, _ => .stop 61))
    | .builtin .clear => (lop I T st (.call c)).tree fun d st' => k (st'.put o.dst d)
    | .builtin _ => (qop I T st (.call c)).tree fun d => k (st.put o.dst d)
    | .value f => callT I T cfg kp o f c.args.toList c.argTypes.toList st k
    | .invoke _ _ => .stop 6
  | .binOp .add t x y yt => match cfg.wrp with
    | true => (wrapQ I st x y).tree fun d => k (st.put o.dst d)
    | false => (qop I T st (.binOp .add t x y yt)).tree fun d => k (st.put o.dst d)
  | op => (qop I T st op).tree fun d => k (st.put o.dst d)

/-- A closure is deferred. -/
def deferOf : Op → Option Operand
  | .defer c => match c.callee, c.args.toList with | .value f, [] => some f | _, _ => none
  | _ => none
def deferT (o : Oper) (f : Operand) (st : St) (k : St → Tree) : Tree :=
  match o.dst, st.df, st.eval f with
  | none, none, some (.v (.one (.fn g caps))) => k { st with df := some (g, caps) }
  | _, _, _ => .stop 80
/-- An operation under its guard. -/
def guardT (all : List Oper) (o : Oper) (st : St) (kt kf : St → Tree) : Tree :=
  match o.guard with
  | none => kt st
  | some (j, want) => match nth all j with
    | none => .stop 7
    | some oj => match oj.dst with
      | none => .stop 8
      | some t => resolve st (.tmp t) fun st => match look st.env t with
        | some (.v (.one (.p (.val (.bool true))))) => (match want with | true => kt st | false => kf st)
        | some (.v (.one (.p (.val (.bool false))))) => (match want with | true => kf st | false => kt st)
        | some (.tup []) => kf st
        | _ => .stop 9

/-! what is known of the objects is written out at once (the evaluator remembers nothing) -/
def forceC {α : Type} (c : C) (k : C → α) : α := match c with
  | .p x => (match x with
    | .int a b => k (.p (.int a b))
    | .bool b => k (.p (.bool b))
    | .str l => k (.p (.str l))
    | .list u l => k (.p (.list u l))
    | .val v => k (.p (.val v)))
  | .ptr j off => k (.ptr j off)
  | .ept u j i off => k (.ept u j i off)
  | .fpt u l i off => k (.fpt u l i off)
  | .row j => k (.row j)
  | .sub u j lo hi => k (.sub u j lo hi)
  | .nilS => k .nilS
  | .fn f caps => k (.fn f caps)
  | .ifc T agg cs => k (.ifc T agg cs)
  | .any => k .any
def forceCs {α : Type} : List C → (List C → α) → α
  | [], k => k []
  | c :: cs, k => forceC c fun c => forceCs cs fun cs => k (c :: cs)
def forceO {α : Type} (o : HO) (k : HO → α) : α := match o with
  | .obj t cs => forceCs cs fun cs => k (.obj t cs)
  | .row u E l => k (.row u E l)
  | .pack l => k (.pack l)
  | .abs g => k (.abs g)
  | .gone => k .gone
def forceH {α : Type} : List HO → (List HO → α) → α
  | [], k => k []
  | o :: os, k => forceO o fun o => forceH os fun os => k (o :: os)
theorem forceC_eq {α : Type} (c : C) (k : C → α) : forceC c k = k c := by
  cases c with
  | p x => cases x <;> rfl
  | _ => rfl
theorem forceCs_eq {α : Type} : ∀ (l : List C) (k : List C → α), forceCs l k = k l
  | [], _ => rfl
  | c :: cs, k => by rw [forceCs, forceC_eq, forceCs_eq cs]
theorem forceO_eq {α : Type} (o : HO) (k : HO → α) : forceO o k = k o := by
  cases o with
  | obj t cs => exact forceCs_eq cs _
  | _ => rfl
theorem forceH_eq {α : Type} : ∀ (l : List HO) (k : List HO → α), forceH l k = k l
  | [], _ => rfl
  | o :: os, k => by rw [forceH, forceO_eq, forceH_eq os]
def forceD {α : Type} (d : D) (k : D → α) : α := match d with
  | .v x => (match x with
    | .one c => forceC c fun c => k (.v (.one c))
    | .agg cs => forceCs cs fun cs => k (.v (.agg cs)))
  | .tup l => k (.tup l)
  | .bad => k .bad
def forceE {α : Type} : List (Nat × D) → (List (Nat × D) → α) → α
  | [], k => k []
  | (t, d) :: r, k => forceD d fun d => forceE r fun r => k ((t, d) :: r)
def forceN {α : Type} (n : Nat) (k : Nat → α) : α := match n with
  | 0 => k 0
  | m + 1 => k (m + 1)
def forceSt {α : Type} (st : St) (k : St → α) : α := forceE st.env fun e => forceH st.hp fun h => forceN st.n fun n => match st.df with | none => k ⟨e, h, n, none⟩ | some (g, cs) => k ⟨e, h, n, some (g, cs)⟩
theorem forceD_eq {α : Type} (d : D) (k : D → α) : forceD d k = k d := by
  cases d with
  | v x => cases x with
    | one c => simp only [forceD, forceC_eq]
    | agg cs => simp only [forceD, forceCs_eq]
  | _ => rfl
theorem forceE_eq {α : Type} : ∀ (l : List (Nat × D)) (k : List (Nat × D) → α), forceE l k = k l
  | [], _ => rfl
  | (t, d) :: r, k => by rw [forceE, forceD_eq, forceE_eq r]
theorem forceSt_eq {α : Type} (st : St) (k : St → α) : forceSt st k = k st := by
  unfold forceSt
  rw [forceE_eq, forceH_eq]
  unfold forceN
  obtain ⟨e, h, n, df⟩ := st
  cases n <;> (cases df <;> rfl)

def vops (I : Alg) (T : Tab) (cfg : Cfg) (all : List Oper) (kp : C → St → Tree) (k : St → Tree) : List Oper → St → Tree
  | [], st => k st
  | o :: r, st => forceSt st fun st => guardT all o st (fun st => match deferOf o.op with | some f => deferT o f st fun st => vops I T cfg all kp k r st | none => vop I T cfg kp o st fun st => vops I T cfg all kp k r st) (fun st => vops I T cfg all kp k r (st.put o.dst (.tup [])))

/-- Operations that only read. -/
def quietB (T : Tab) : Op → Bool
  | .move _ | .assign _ | .pick .. | .load .. | .nilCheck _ | .binOp .. | .unOp .. | .makeInterface .. | .slice .. | .fieldAddr .. | .field .. | .indexAddr .. | .index .. | .extract .. | .build .. => true
  | .convert _ d _ => match T d with | some ⟨.slice _, _, _, _, _⟩ => false | _ => true
  | .call c => match c.callee with | .builtin .len | .builtin .min | .builtin .max => true | _ => false
  | _ => false
def quietLen (T : Tab) : List Oper → Nat
  | [] => 0
  | [_] => 0
  | o :: r => match quietB T o.op with | true => quietLen T r + 1 | false => 0
def qopO (I : Alg) (T : Tab) (o : Oper) (st : St) (k : St → Tree) : Tree :=
  match o.op with
  | .pick c a b => resolve st c fun st => (qop I T st (.pick c a b)).tree fun d => k (st.put o.dst d)
  | .load t x => (qop I T (openFor st x) (.load t x)).tree fun d => k ((openFor st x).put o.dst d)
  | op => (qop I T st op).tree fun d => k (st.put o.dst d)
def vquiet (I : Alg) (T : Tab) (all : List Oper) (k : St → Tree) : List Oper → St → Tree
  | [], st => k st
  | o :: r, st => forceSt st fun st => guardT all o st (fun st => qopO I T o st fun st => vquiet I T all k r st) (fun st => vquiet I T all k r (st.put o.dst (.tup [])))
def takeN {α : Type} : Nat → List α → List α
  | 0, _ => []
  | _ + 1, [] => []
  | n + 1, x :: l => x :: takeN n l
def dropN {α : Type} : Nat → List α → List α
  | 0, l => l
  | _ + 1, [] => []
  | n + 1, _ :: l => dropN n l
theorem takeN_eq {α : Type} : ∀ (n : Nat) (l : List α), takeN n l = l.take n
  | 0, _ => by simp [takeN]
  | _ + 1, [] => by simp [takeN]
  | n + 1, x :: l => by simp [takeN, takeN_eq n l]
theorem dropN_eq {α : Type} : ∀ (n : Nat) (l : List α), dropN n l = l.drop n
  | 0, _ => by simp [dropN]
  | _ + 1, [] => by simp [dropN]
  | n + 1, x :: l => by simp [dropN, dropN_eq n l]

/-! ### regions that draw their order -/
def putBackK : List Nat → List CO → List CO → List CO
  | q :: qs, c :: cs, K => putBackK qs cs (K.set q c)
  | [], cs, K => K ++ cs
  | _ :: _, [], K => K
def tmpsOf : List Operand → List Nat
  | [] => []
  | .tmp t :: r => t :: tmpsOf r
  | _ :: r => tmpsOf r
/-- A value that leads nowhere. -/
def flatOp (T : Tab) : Op → Bool
  | .binOp .. | .unOp .. | .convert .. | .index .. => true
  | .load t _ => match T t with | some ⟨.int _, _, _, _, _⟩ => true | some ⟨.str, _, _, _, _⟩ => true | some ⟨.bool, _, _, _, _⟩ => true | _ => false
  | .call c => match c.callee with | .builtin .len | .builtin .min | .builtin .max => true | _ => false
  | _ => false
def lookT : List (Nat × (List Nat × List Nat)) → Nat → Option (List Nat × List Nat)
  | [], _ => none
  | (k, d) :: r, t => match Nat.beq k t with | true => some d | false => lookT r t
def expand (m : List (Nat × (List Nat × List Nat))) : List Nat → List Nat × List Nat
  | [] => ([], [])
  | t :: ts => match lookT m t, expand m ts with | some us, (a, b) => (us.1 ++ a, us.2 ++ b) | none, (a, b) => (t :: a, b)
def isLoad : Op → Bool
  | .load .. => true
  | _ => false
/-- The slots of which operations that turn something may see what hangs on them; and those of which they may see what the object holds. -/
def flow (T : Tab) : List Oper → List (Nat × (List Nat × List Nat)) → List Nat × List Nat → List Nat × List Nat
  | [], _, acc => acc
  | o :: r, m, acc =>
    let us := match flatOp T o.op with | true => ([], []) | false => (match isLoad o.op, expand m (tmpsOf o.op.operands.toList) with | true, (a, b) => ([], a ++ b) | false, x => x)
    flow T r (match o.dst with | some t => (t, us) :: m | none => m) (match quietB T o.op with | true => acc | false => (match expand m (tmpsOf o.op.operands.toList) with | (a, b) => (a ++ acc.1, b ++ acc.2)))
def refsOfSlots (st : St) : List Nat → List Nat
  | [] => []
  | t :: ts => (match look st.env t with | some d => refsD d | none => []) ++ refsOfSlots st ts
def innerRefs (hp : List HO) : List Nat → List Nat
  | [] => []
  | k :: ks => (match nth hp k with | some (.obj _ cs) => refsC cs | _ => [k]) ++ innerRefs hp ks
def seenBy (T : Tab) (all : List Oper) (st : St) : List Nat := gather st.hp 60 (match flow T all [] ([], []) with | (a, b) => refsOfSlots st a ++ innerRefs st.hp (refsOfSlots st b)) []
def openEach (tI : List Nat) : List Nat → St → St
  | [], st => st
  | t :: ts, st => match oneC (st.eval (.tmp t)) with
    | some (.ptr k _) => (match memN k tI with | true => openEach tI ts st | false => openEach tI ts (openFor st (.tmp t)))
    | _ => openEach tI ts st
def openMoved (tI : List Nat) : List Oper → St → St
  | [], st => st
  | o :: r, st => openMoved tI r (openEach tI (tmpsOf o.op.operands.toList) st)
def keepOf (tI : List Nat) : Nat → List HO → List Nat
  | _, [] => []
  | n, o :: r => match o, memN n tI with
    | .gone, _ => keepOf tI (n + 1) r
    | _, true => keepOf tI (n + 1) r
    | _, false => n :: keepOf tI (n + 1) r
def putH : List Nat → List HO → List HO → List HO
  | q :: qs, o :: os, hp => putH qs os (setN hp q o)
  | _, _, hp => hp
def isNo : QR → Bool
  | .ok .bad => true
  | .ok _ => false
  | .need _ r => isNo r
  | .br _ a b => match isNo a with | true => true | false => isNo b
  | .both a b => match isNo a with | true => true | false => isNo b
  | .no => true
/-- An operation whose guard is known to be down. -/
def downG (all : List Oper) (o : Oper) (st : St) : Bool :=
  match o.guard with
  | none => false
  | some (j, want) => match nth all j with
    | some oj => (match oj.dst with
      | some t => (match look st.env t with
        | some (.v (.one (.p (.val (.bool b))))) => (match b, want with | true, true => false | false, false => false | _, _ => true)
        | some (.tup []) => true
        | _ => false)
      | none => false)
    | none => false
def calmI (I : Alg) (T : Tab) (all : List Oper) (st stk : St) (o : Oper) : Bool :=
  match downG all o st with
  | true => true
  | false => match isNo (qop I T stk o.op) with
    | false => true
    | true => match quietB T o.op, needsW o.op with | true, false => true | _, _ => false
def firstCalm (I : Alg) (T : Tab) (all : List Oper) (listed : Array Bool) (st stk : St) : List Nat → Option Nat
  | [] => none
  | i :: r => match nth all i with
    | some o => (match calmI I T all st stk o with
      | true => (match Region.free .any all.toArray listed i with | true => some i | false => firstCalm I T all listed st stk r)
      | false => firstCalm I T all listed st stk r)
    | none => firstCalm I T all listed st stk r
/-- What reads, read out of what is kept (then its value is kept, too), or not out of memory at all. -/
def calmT (I : Alg) (T : Tab) (qs : List Nat) (os : List HO) (o : Oper) (st stk : St) (k : St → St → Tree) : Tree :=
  match isNo (qop I T stk o.op) with
  | false => (qop I T stk o.op).tree fun d => k (st.put o.dst d) (stk.put o.dst d)
  | true => match needsW o.op with
    | true => .stop 30
    | false => match o.op with
      | .pick c x y => resolve st c fun st => (qop I T { st with hp := putH qs os st.hp } (.pick c x y)).tree fun d => k (st.put o.dst d) (stk.put o.dst .bad)
      | op => (qop I T { st with hp := putH qs os st.hp } op).tree fun d => k (st.put o.dst d) (stk.put o.dst .bad)
def loudAll (f : Nat → Tree) : List Nat → Tree
  | [] => .qed
  | [i] => f i
  | i :: r => .both (f i) (loudAll f r)
/-- Only those of a list, without b. -/
def amongN (b : Nat) (pre : Option (List Nat)) (r : List Nat) : List Nat :=
  r.filter fun i => match Nat.beq i b with | true => false | false => (match pre with | none => true | some l => memNat i l)
def forceL {α : Type} : List Bool → (List Bool → α) → α
  | [], k => k []
  | b :: r, k => match b with
    | true => forceL r fun r => k (true :: r)
    | false => forceL r fun r => k (false :: r)
def forceA {α : Type} (a : Array Bool) (k : Array Bool → α) : α := match a with | ⟨l⟩ => forceL l fun l => k ⟨l⟩
theorem forceL_eq {α : Type} : ∀ (l : List Bool) (k : List Bool → α), forceL l k = k l
  | [], _ => rfl
  | true :: r, k => by simp only [forceL, forceL_eq r]
  | false :: r, k => by simp only [forceL, forceL_eq r]
theorem forceA_eq {α : Type} (a : Array Bool) (k : Array Bool → α) : forceA a k = k a := by
  obtain ⟨l⟩ := a
  simp only [forceA, forceL_eq]
/-! tables of a region that draws: of each operation those that it waits for, and whether it stands apart from all that it neither waits for nor that wait for it -/
def getA (a : Array Bool) (i : Nat) : Bool := match nth a.toList i with | some b => b | none => false
theorem getA_eq (a : Array Bool) (i : Nat) : getA a i = a.getD i false := by
  obtain ⟨l⟩ := a
  simp only [getA, nth_eq, Array.getD_eq_getD_getElem?, List.getElem?_toArray]
  cases l[i]? <;> rfl
def setB : List Bool → Nat → List Bool
  | [], _ => []
  | _ :: l, 0 => true :: l
  | b :: l, n + 1 => b :: setB l n
theorem setB_eq : ∀ (l : List Bool) (n : Nat), setB l n = l.set n true
  | [], _ => rfl
  | _ :: _, 0 => rfl
  | b :: l, n + 1 => by simp [setB, setB_eq l n]
def setA (a : Array Bool) (i : Nat) : Array Bool := ⟨setB a.toList i⟩
theorem setA_eq (a : Array Bool) (i : Nat) : setA a i = a.setIfInBounds i true := by
  obtain ⟨l⟩ := a
  simp [setA, setB_eq]
def onsGo : List Edge → List Nat
  | [] => []
  | e :: r => match Region.binds .any e with | true => e.on :: onsGo r | false => onsGo r
def onsOf (o : Oper) : List Nat := onsGo o.after.toList
def tmpsGo : List Operand → List Nat
  | [] => []
  | x :: r => match x with | .tmp t => t :: tmpsGo r | _ => tmpsGo r
def looksOf (all : List Oper) (o : Oper) : List Nat :=
  match o.guard with
  | some (g, _) => (match nth all g with | some og => (match og.dst with | some t => t :: tmpsGo o.op.operands.toList | none => tmpsGo o.op.operands.toList) | none => tmpsGo o.op.operands.toList)
  | none => tmpsGo o.op.operands.toList
structure Row1 where
  aft : List Nat
  dst : Option Nat
  lk : List Nat
def opRows (all : List Oper) : List Oper → List Row1
  | [] => []
  | o :: r => ⟨onsOf o, o.dst, looksOf all o⟩ :: opRows all r
def apartT (x y : Row1) : Bool :=
  match (match x.dst with | some d => (match memNat d y.lk with | true => false | false => (match y.dst with | some e => (match Nat.beq e d with | true => false | false => true) | none => true)) | none => true) with
  | false => false
  | true => match y.dst with | some e => (match memNat e x.lk with | true => false | false => true) | none => true
def freeGo (i : Nat) (x : Row1) : Nat → List Row1 → Bool
  | _, [] => true
  | j, y :: r => match Nat.beq j i with
    | true => freeGo i x (j + 1) r
    | false => match memNat j x.aft with
      | true => freeGo i x (j + 1) r
      | false => match memNat i y.aft with
        | true => freeGo i x (j + 1) r
        | false => match apartT x y with | true => freeGo i x (j + 1) r | false => false
structure Row2 where
  aft : List Nat
  fr : Bool
def tblGo (full : List Row1) : Nat → List Row1 → List Row2
  | _, [] => []
  | i, x :: r => ⟨x.aft, freeGo i x 0 full⟩ :: tblGo full (i + 1) r
def tblOf (all : List Oper) : List Row2 := tblGo (opRows all all) 0 (opRows all all)
def aftT (t : List Row2) (j : Nat) : List Nat := match nth t j with | some r => r.aft | none => []
def forceNs {α : Type} : List Nat → (List Nat → α) → α
  | [], k => k []
  | n :: r, k => match n with
    | 0 => forceNs r fun r => k (0 :: r)
    | m + 1 => forceNs r fun r => k ((m + 1) :: r)
theorem forceNs_eq {α : Type} : ∀ (l : List Nat) (k : List Nat → α), forceNs l k = k l
  | [], _ => rfl
  | 0 :: r, k => by simp only [forceNs, forceNs_eq r]
  | (m + 1) :: r, k => by simp only [forceNs, forceNs_eq r]
def forceR {α : Type} (x : Row2) (k : Row2 → α) : α := match x with
  | ⟨a, f⟩ => forceNs a fun a => match f with | true => k ⟨a, true⟩ | false => k ⟨a, false⟩
theorem forceR_eq {α : Type} (x : Row2) (k : Row2 → α) : forceR x k = k x := by
  obtain ⟨a, f⟩ := x
  cases f <;> simp only [forceR, forceNs_eq]
def forceT {α : Type} : List Row2 → (List Row2 → α) → α
  | [], k => k []
  | x :: r, k => forceR x fun x => forceT r fun r => k (x :: r)
theorem forceT_eq {α : Type} : ∀ (l : List Row2) (k : List Row2 → α), forceT l k = k l
  | [], _ => rfl
  | x :: r, k => by simp only [forceT, forceR_eq, forceT_eq r]
def allOn (l : List Bool) : List Nat → Bool
  | [] => true
  | j :: r => match nth l j with | some true => allOn l r | _ => false
/-- Those that are ready. -/
def readyT (full : List Bool) : Nat → List Row2 → List Bool → List Nat
  | i, x :: r, b :: l => (match b with
    | true => readyT full (i + 1) r l
    | false => match allOn full x.aft with | true => i :: readyT full (i + 1) r l | false => readyT full (i + 1) r l)
  | _, _, _ => []
/-- The first one that may be taken first, whatever is listed. -/
def quickC (I : Alg) (T : Tab) (all : List Oper) (st stk : St) (b : Nat) (pre : Option (List Nat)) (full : List Bool) : Nat → List Oper → List Row2 → List Bool → Option Nat
  | i, o :: os, x :: r, d :: l => (match d with
    | true => quickC I T all st stk b pre full (i + 1) os r l
    | false => match x.fr with
      | false => quickC I T all st stk b pre full (i + 1) os r l
      | true => match Nat.beq i b with
        | true => quickC I T all st stk b pre full (i + 1) os r l
        | false => match (match pre with | none => true | some p => memNat i p) with
          | false => quickC I T all st stk b pre full (i + 1) os r l
          | true => match allOn full x.aft with
            | false => quickC I T all st stk b pre full (i + 1) os r l
            | true => match calmI I T all st stk o with
              | true => some i
              | false => quickC I T all st stk b pre full (i + 1) os r l)
  | _, _, _, _ => none
/-- A region that draws its order, up to the operation b. -/
def mixT (I : Alg) (T : Tab) (cfg : Cfg) (all : List Oper) (tbl : List Row2) (b : Nat) (pre : Option (List Nat)) (qs : List Nat) (os : List HO) (K : Nat → Array Bool → St → Tree) (kq : C → St → Tree) (k : St → Tree) : Nat → Array Bool → St → St → Tree
  | 0, listed, st, _ => K 0 listed { st with hp := putH qs os st.hp }
  | n + 1, listed, st, stk => forceA listed fun listed => forceSt st fun st => forceSt stk fun stk => match getA listed b with
    | true => K (n + 1) listed { st with hp := putH qs os st.hp }
    | false => match (match quickC I T all st stk b pre listed.toList 0 all tbl listed.toList with
        | some i => some (some i)
        | none => match readyT listed.toList 0 tbl listed.toList with
          | [] => none
          | r => some (firstCalm I T all listed st stk (amongN b pre r))) with
      | none => k { st with hp := putH qs os st.hp }
      | some (some i) => (match nth all i with
          | some o => guardT all o st (fun st => calmT I T qs os o st stk fun st stk => mixT I T cfg all tbl b pre qs os K kq k n (setA listed i) st stk)
              (fun st => mixT I T cfg all tbl b pre qs os K kq k n (setA listed i) (st.put o.dst (.tup [])) (stk.put o.dst .bad))
          | none => .stop 33)
      | some none => loudAll (fun i => match nth all i with
          | some o => guardT all o st (fun st => vop I T cfg (fun c st => kq c { env := [], hp := putH qs os st.hp, n := st.n, df := st.df }) o st fun st => mixT I T cfg all tbl b pre qs os K kq k n (setA listed i) st (stk.put o.dst .bad))
              (fun st => mixT I T cfg all tbl b pre qs os K kq k n (setA listed i) (st.put o.dst (.tup [])) (stk.put o.dst .bad))
          | none => .stop 34) (readyT listed.toList 0 tbl listed.toList)
def gones : List HO → List HO
  | [] => []
  | _ :: r => .gone :: gones r
/-- The operations that others hang on as guards. -/
def guardsOf : List Oper → List Nat → List Nat
  | [], _ => []
  | o :: r, seen => match o.guard with | some (j, _) => (match memNat j seen with | true => guardsOf r seen | false => j :: guardsOf r (j :: seen)) | none => guardsOf r seen
def predsT (t : List Row2) : Nat → List Nat → List Nat → List Nat
  | 0, _, acc => acc
  | _ + 1, [], acc => acc
  | f + 1, j :: r, acc => match memNat j acc with | true => predsT t f r acc | false => predsT t f (aftT t j ++ r) (j :: acc)
/-- What waits for b. -/
def anyIn (b : Nat) (acc : List Nat) : List Nat → Bool
  | [] => false
  | i :: r => match Nat.beq i b with | true => true | false => (match memNat i acc with | true => true | false => anyIn b acc r)
def behindOf (b : Nat) : Nat → List Row2 → List Nat → List Nat
  | _, [], acc => acc
  | n, x :: r, acc => match anyIn b acc x.aft with
    | true => behindOf b (n + 1) r (n :: acc)
    | false => behindOf b (n + 1) r acc
def barGo (b : Nat) (ps bs : List Nat) : Nat → List Bool → Bool
  | _, [] => true
  | j, d :: l => match d with
    | true => barGo b ps bs (j + 1) l
    | false => match Nat.beq j b with
      | true => barGo b ps bs (j + 1) l
      | false => match memNat j ps with
        | true => barGo b ps bs (j + 1) l
        | false => match memNat j bs with | true => barGo b ps bs (j + 1) l | false => false
def barOk (t : List Row2) (listed : Array Bool) (b : Nat) : Bool :=
  match nth listed.toList b with
  | some false => forceNs (predsT t 4000 (aftT t b) []) fun ps => forceNs (behindOf b 0 t []) fun bs => barGo b ps bs 0 listed.toList
  | _ => false
def nextBar (t : List Row2) (n : Nat) (listed : Array Bool) : List Nat → Nat
  | [] => n
  | b :: r => match barOk t listed b with | true => b | false => nextBar t n listed r
def takeOps (pre : Option (List Nat)) (b : Nat) : Nat → List Bool → List Oper → List Oper
  | n, d :: l, o :: r => (match d, (match pre with | none => true | some l => (match Nat.beq n b with | true => true | false => memNat n l)) with
    | false, true => o :: takeOps pre b (n + 1) l r
    | _, _ => takeOps pre b (n + 1) l r)
  | _, _, _ => []
def preOf (t : List Row2) (n b : Nat) : Option (List Nat) := match Nat.blt b n with | true => forceNs (predsT t 4000 (aftT t b) []) fun l => some l | false => none
def openPre (gs : List Nat) (ops : List Oper) (st : St) : St := match gs with | [] => st | _ => openMoved [] ops st
def forceP {α : Type} (p : Option (List Nat)) (k : Option (List Nat) → α) : α := match p with | none => k none | some l => forceNs l fun l => k (some l)
theorem forceP_eq {α : Type} (p : Option (List Nat)) (k : Option (List Nat) → α) : forceP p k = k p := by
  cases p <;> simp only [forceP, forceNs_eq]
theorem forceN_eq {α : Type} (n : Nat) (k : Nat → α) : forceN n k = k n := by cases n <;> rfl
def forceOs {α : Type} : List Oper → (List Oper → α) → α
  | [], k => k []
  | o :: r, k => forceOs r fun r => k (o :: r)
theorem forceOs_eq {α : Type} : ∀ (l : List Oper) (k : List Oper → α), forceOs l k = k l
  | [], _ => rfl
  | o :: r, k => by simp only [forceOs, forceOs_eq r]
def mixP (I : Alg) (T : Tab) (cfg : Cfg) (all : List Oper) (tbl : List Row2) (gs : List Nat) (kq : C → St → Tree) (k : St → Tree) : Nat → Nat → Array Bool → St → Tree
  | 0, _, _, _ => .stop 37
  | m + 1, n, listed, st => forceA listed fun listed => match readyT listed.toList 0 tbl listed.toList with
    | [] => k st
    | _ => forceN (nextBar tbl all.length listed gs) fun b => forceP (preOf tbl all.length b) fun pre =>
      forceOs (takeOps pre b 0 listed.toList all) fun ops => forceSt (openPre gs ops st) fun st0 => forceNs (seenBy T ops st0) fun tI =>
      forceSt (openMoved tI ops st0) fun st1 => forceNs (keepOf tI 0 st1.hp) fun qs =>
      match takeOut qs st1.hp with
      | some (os, hpr) => mixT I T cfg all tbl b pre qs os (fun n listed st => mixP I T cfg all tbl gs kq k m n listed st) kq k n listed { st1 with hp := hpr } { st1 with hp := putH qs os (gones hpr) }
      | none => .stop 35
def falses : List Oper → List Bool
  | [] => []
  | _ :: r => false :: falses r
def mix (I : Alg) (T : Tab) (cfg : Cfg) (all : List Oper) (kq : C → St → Tree) (k : St → Tree) (st : St) : Tree :=
  match Region.noSelect all.toArray with
  | true => forceT (tblOf all) fun tbl => forceNs (guardsOf all []) fun gs => mixP I T cfg all tbl gs kq k (all.length + 1) all.length ⟨falses all⟩ st
  | false => .stop 36

def regT (I : Alg) (T : Tab) (cfg : Cfg) (ops : Array Oper) (draw : Bool) (K : AEx → St → Tree) (st : St) : Tree :=
  match draw with
  | false => vops I T cfg ops.toList (fun c st => K (.pan c) st) (fun st => K .normal st) ops.toList st
  | true => match Region.lexTailB .any ops (quietLen T ops.toList) with
    | false => mix I T cfg ops.toList (fun c st => K (.pan c) st) (fun st => K .normal st) st
    | true => (vquiet I T ops.toList (fun st => vops I T cfg ops.toList (fun c st => K (.pan c) st) (fun st => K .normal st) (dropN (quietLen T ops.toList) ops.toList) st) (takeN (quietLen T ops.toList) ops.toList) st)
def vc (I : Alg) (T : Tab) (cfg : Cfg) : Code → (AEx → St → Tree) → St → Tree
  | .skip, K, st => K .normal st
  | .region id ops draw, K, st => match memN id cfg.seam with
    | true => .code (.region id ops draw) (st.tidy cfg.keep) K
    | false => regT I T cfg ops draw K (st.tidy cfg.keep)
  | .seq a b, K, st => vc I T cfg a (fun e st => match e with | .normal => vc I T cfg b K st | e => K e st) st
  | .cond c t e, K, st => resolve st c fun st => match oneC (st.eval c) with
    | some (.p (.val (.bool true))) => vc I T cfg t K st
    | some (.p (.val (.bool false))) => vc I T cfg e K st
    | _ => .stop 10
  | .block id b, K, st => vc I T cfg b (fun e st => match e with
    | .exit j => (match Nat.beq j id with | true => K .normal st | false => K (.exit j) st)
    | e => K e st) st
  | .loop b, K, st => .code (.loop b) (st.tidy cfg.keep) K
  | .exit id, K, st => K (.exit id) st
  | .ret, K, st => K .ret st
  | _, _, _ => .stop 11
end Go.Ab
